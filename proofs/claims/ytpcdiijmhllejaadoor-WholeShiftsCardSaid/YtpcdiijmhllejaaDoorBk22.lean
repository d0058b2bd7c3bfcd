/- Several texts in one: Lens, Lz, Append. -/
import Derived.Test.YtpcdiijmhllejaaDoorBk19
import Derived.IntWalk
import Derived.Test.YtpcdiijmhllejaaDoorBk02
import Derived.Test.YtpcdiijmhllejaaDoorBk01
/- Lengths of numbers' limbs in tests. -/
namespace Go.Proofs.YtpcdiijmhllejaaDoor

theorem nought_len {z : Int} (h : z = 0) : ((natL z.natAbs).length : Int) = 0 := by subst h; decide
theorem len_ne {z : Int} (h : z ≠ 0) : (natL z.natAbs).length ≠ 0 := fun e => by
  have := natL_eq_nil.1 (List.eq_nil_of_length_eq_zero e)
  omega
theorem more_len {z : Int} (h : z ≠ 0) : (((natL z.natAbs).length : Int) == 0) = false := beq_false_of_ne (by
  have := len_ne h
  omega)
theorem sum_len {x y : Int} (hx : Fit x) (hy : Fit y) (h : x ≠ 0 ∨ y ≠ 0) : IntKind.i64.wrap (((natL x.natAbs).length : Int) + ((natL y.natAbs).length : Int)) = ((natL x.natAbs).length : Int) + ((natL y.natAbs).length : Int) ∧ (((natL x.natAbs).length : Int) + ((natL y.natAbs).length : Int) == 0) = false := by
  unfold Fit at hx hy
  refine ⟨IntWalk.i64_in _ (by omega), beq_false_of_ne ?_⟩
  rcases h with h | h
  · have := len_ne h
    omega
  · have := len_ne h
    omega
theorem tdiv_fit {x y : Int} (h : Fit x) : Fit (x.tdiv y) := h.mono (by rw [Int.natAbs_tdiv]; exact Nat.div_le_self _ _)
theorem tmod_fit {x y : Int} (h : Fit x) : Fit (x.tmod y) := h.mono (by rw [Int.natAbs_tmod]; exact Nat.mod_le _ _)
theorem tdiv_mul_fit {x y : Int} (h : Fit x) : Fit (x.tdiv y * y) := h.mono (by
  rw [Int.natAbs_mul, Int.natAbs_tdiv]
  exact Nat.div_mul_le_self _ _)
end Go.Proofs.YtpcdiijmhllejaaDoor

/- How long numbers get. -/
namespace Go.Proofs.YtpcdiijmhllejaaDoor

/-- How many limbs. -/
def lz (z : Int) : Nat := (natL z.natAbs).length
theorem lz_le {z : Int} {k : Nat} : lz z ≤ k ↔ z.natAbs < 4294967296 ^ k := natL_length_le
theorem lz_lt (z : Int) : z.natAbs < 4294967296 ^ lz z := lz_le.1 (Nat.le_refl _)
theorem lz_mono {x y : Int} (h : x.natAbs ≤ y.natAbs) : lz x ≤ lz y := lz_le.2 (Nat.lt_of_le_of_lt h (lz_lt y))
theorem lz_mul (x y : Int) : lz (x * y) ≤ lz x + lz y := by
  rw [lz_le, Int.natAbs_mul, Nat.pow_add]
  have h1 := lz_lt x
  have h2 := lz_lt y
  exact Nat.mul_lt_mul'' h1 h2
theorem lz_add (x y : Int) : lz (x + y) ≤ max (lz x) (lz y) + 1 := by
  rw [lz_le, Nat.pow_succ]
  have h1 : x.natAbs < 4294967296 ^ max (lz x) (lz y) := lz_le.1 (Nat.le_max_left _ _)
  have h2 : y.natAbs < 4294967296 ^ max (lz x) (lz y) := lz_le.1 (Nat.le_max_right _ _)
  have h3 := Int.natAbs_add_le x y
  generalize 4294967296 ^ max (lz x) (lz y) = p at *
  omega
theorem lz_neg (y : Int) : lz (-y) = lz y := by unfold lz; rw [Int.natAbs_neg]
theorem lz_sub (x y : Int) : lz (x - y) ≤ max (lz x) (lz y) + 1 := by
  have := lz_add x (-y)
  rw [lz_neg] at this
  exact this
theorem lz_small {z : Int} (h : z.natAbs < 18446744073709551616) : lz z ≤ 2 := lz_le.2 (by simpa using h)
theorem lz_zero : lz 0 = 0 := by decide
end Go.Proofs.YtpcdiijmhllejaaDoor

/- An append of one cell to a row of the call's own: in place, or to a new block; the elder block then stays. -/
namespace Go.Proofs.YtpcdiijmhllejaaDoor
open Go.RowKit
section
variable {P : Program} (w : World)
/-- In place, or moved. -/
def Grew (w : World) (v : Value) (n : Nat) (v' : Value) (w' : World) : Prop :=
  (∃ g cap, v = .slice (some ⟨g, 0, none⟩) n cap ∧ v' = .slice (some ⟨g, 0, none⟩) (n + 1) cap ∧ w.grownBy w' (some g)) ∨ (v'.ownBlock = some w.heap.size ∧ w.grownBy w' none)
theorem run_append_one (base : Nat) (t ty e : TypeId) (i : TypeInfo) (z : Value) (bytes : Nat) (ht : P.underlying t = some (.slice e)) (hi : P.info? e = some i) (hz : i.zero = some z)
    (hsize : i.size = 1) (hby : i.bytes = bytes) (hzs : z.cells.size = 1) (v : Value) (n : Nat) (xs : List Value) (hown : w.ownsRow base e 1 v n xs)
    (a : Addr) (c : Nat) (u : Value) (hu : w.cell? a = some u) (h1 : u.oneCell' = true)
    (h63 : n + 1 ≤ maxLen) (hbytes : (n + 1) * bytes ≤ 140737488355328) (hbase : base ≤ w.heap.size) :
    ∃ v' w', (Builtin.append_ #[t, t] ty #[v, .slice (some a) 1 c]).run P w = .ok v' w' ∧ w'.ownsRow base e 1 v' (n + 1) (xs ++ [u]) ∧ Grew w v n v' w' := by
  have hnews : ∀ j x, [u][j]? = some x → w.cell? (a.add j) = some x := by
    intro j x hj
    cases j with
    | zero => simp at hj; subst hj; simpa [Addr.add] using hu
    | succ j => simp at hj
  have h1' : ∀ x ∈ [u], x.oneCell' = true := by simpa using h1
  obtain ⟨v', w', hrun, how, -, -, -⟩ := run_append_own_at (P := P) w base t ty e i z 1 bytes ht hi hz hsize hby hzs (by omega) v n xs hown a 1 c [u] rfl hnews h1' h63 hbytes hbase
  refine ⟨v', w', hrun, how, ?_⟩
  have hsmall : n + 1 ≤ 9223372036854775807 := by simp only [maxLen] at h63; omega
  have moved : ∀ o : Obj, w.grownBy (w.drew.alloc o) none := fun o => ⟨rfl, rfl, rfl, by simp, fun k hk _ => Below.heap_alloc w.drew _ k hk⟩
  rcases hown.2 with ⟨rfl, rfl⟩ | ⟨g, cap, cur, rfl, hbg, hg, hnc, hcm, hcs, htake⟩
  · have hr := run_append_nil (P := P) w t ty e i z ht hi hz a 1 c [u] (by simp [hsize]) hnews (by omega) (by omega) (by rw [hby]; omega)
    rw [hrun] at hr
    injection hr with e1 e2
    subst e1 e2
    exact .inr ⟨rfl, moved _⟩
  · by_cases hroom : n + 1 ≤ cap
    · obtain ⟨w1, hr, -, hgr⟩ := run_append_fits (P := P) w base t ty e i 1 ht hi hsize g n cap xs hown a 1 c [u] rfl hnews h1' hroom
      rw [hrun] at hr
      injection hr with e1 e2
      subst e1 e2
      exact .inl ⟨g, cap, rfl, rfl, hgr⟩
    · have holds : ∀ j x, xs[j]? = some x → w.cell? ((⟨g, 0, none⟩ : Addr).add j) = some x := hown.cells (g := g) rfl
      have hr := run_append_grow (P := P) w t ty e i z ht hi hz ⟨g, 0, none⟩ n cap xs (by rw [hsize]; exact hown.1) holds a 1 c [u] (by simp [hsize]) hnews (by omega) (by omega) (by rw [hby]; exact growslice_fits (by omega) hbytes)
      rw [hrun] at hr
      injection hr with e1 e2
      subst e1 e2
      exact .inr ⟨rfl, moved _⟩
theorem wpList_append_one {ops : Array Oper} {rest : List Oper} {o : Oper} {a : Act} {Q : Exit → Act → World → Prop} (hgd : o.guard = none) (s x : Operand) (t : TypeId)
    (ho : o.op = .call { callee := .builtin .append, args := #[s, x], argTypes := #[t, t] })
    (base : Nat) (e : TypeId) (i : TypeInfo) (z : Value) (bytes : Nat) (ht : P.underlying t = some (.slice e)) (hi : P.info? e = some i) (hz : i.zero = some z)
    (hsize : i.size = 1) (hby : i.bytes = bytes) (hzs : z.cells.size = 1)
    (v : Value) (n : Nat) (xs : List Value) (hs : a.eval s = v) (hown : w.ownsRow base e 1 v n xs)
    (ad : Addr) (c : Nat) (u : Value) (hx : a.eval x = .slice (some ad) 1 c) (hu : w.cell? ad = some u) (h1 : u.oneCell' = true)
    (h63 : n + 1 ≤ maxLen) (hbytes : (n + 1) * bytes ≤ 140737488355328) (hbase : base ≤ w.heap.size)
    (h : ∀ v' w', w'.ownsRow base e 1 v' (n + 1) (xs ++ [u]) → Grew w v n v' w' → wpList P ops Q rest (a.put o.dst v') w') : wpList P ops Q (o :: rest) a w := by
  refine wpList_plain hgd fun _ hK => ?_
  obtain ⟨v', w', hrun, h2, h3⟩ := run_append_one (P := P) w base t o.type e i z bytes ht hi hz hsize hby hzs v n xs hown ad c u hu h1 h63 hbytes hbase
  unfold Oper.wp execOp
  simp only [ho, resolve, invoke, builtin, Sem.run_bind, Sem.run_pure, Result.andThen_ok, List.map_toArray, List.map_cons, List.map_nil, hs, hx, hrun]
  exact hK _ _ (h v' w' h2 h3)
end
end Go.Proofs.YtpcdiijmhllejaaDoor
