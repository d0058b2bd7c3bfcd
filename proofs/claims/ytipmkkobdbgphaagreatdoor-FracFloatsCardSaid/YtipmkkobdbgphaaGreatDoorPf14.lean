/- Several texts in one: Ints0, ZR, Append, Moves. -/
import Derived.Test.YtipmkkobdbgphaaGreatDoorPf08
import Derived.Test.YtipmkkobdbgphaaGreatDoorPf03
import Derived.Test.YtipmkkobdbgphaaGreatDoorPf12
import Derived.Test.YtipmkkobdbgphaaGreatDoorPfHd
import Derived.Test.YtipmkkobdbgphaaGreatDoorPf13
import Derived.Test.YtipmkkobdbgphaaGreatDoorPf07
import Derived.Test.YtipmkkobdbgphaaGreatDoorPf10
import Derived.Test.YtipmkkobdbgphaaGreatDoorPf01
set_option maxRecDepth 100000
set_option maxHeartbeats 8000000
/- Signs and order of numbers: plain. -/
namespace Go.Proofs.YtipmkkobdbgphaaGreatDoor

theorem sgn_z (x : Int) : sgnI (decide (x < 0)) (Za x.natAbs) = x.sign := by
 unfold sgnI
 by_cases h0 : (Za x.natAbs).length = 0
 · rw [if_pos h0]
   have := ZX.1 (List.eq_nil_of_length_eq_zero h0)
   have : x = 0 := by omega
   subst this; rfl
 · rw [if_neg h0]
   have hn : x ≠ 0 := fun e => h0 (by rw [e]; decide)
   by_cases hl : x < 0
   · rw [if_pos (decide_eq_true hl), Int.sign_eq_neg_one_of_neg hl]
   · rw [if_neg (by simpa using hl), Int.sign_eq_one_of_pos (by omega)]
theorem Y8 (x : Int) : (x < 0 ∧ x.sign = -1) ∨ (x = 0 ∧ x.sign = 0) ∨ (0 < x ∧ x.sign = 1) := by
 rcases Int.lt_trichotomy x 0 with h | h | h
 · exact .inl ⟨h, Int.sign_eq_neg_one_of_neg h⟩
 · exact .inr (.inl ⟨h, by rw [h]; rfl⟩)
 · exact .inr (.inr ⟨h, Int.sign_eq_one_of_pos h⟩)
theorem sign_lt {x y : Int} (h : x.sign < y.sign) : x < y := by
 have h1 := Y8 x
 have h2 := Y8 y
 omega
theorem sign_neg (x : Int) : x.sign = -1 ∧ decide (x < 0) = true ∨ 0 ≤ x.sign ∧ decide (x < 0) = false := by
 rcases Y8 x with ⟨h, e⟩ | ⟨h, e⟩ | ⟨h, e⟩
 · exact .inl ⟨e, decide_eq_true h⟩
 · exact .inr ⟨by omega, decide_eq_false (by omega)⟩
 · exact .inr ⟨by omega, decide_eq_false (by omega)⟩
theorem cmp_like {x y : Int} (h : x.sign = y.sign) : YT x y = if decide (x < 0) = true then Yq y.natAbs x.natAbs else Yq x.natAbs y.natAbs := by
 have h1 := Y8 x
 have h2 := Y8 y
 unfold YT Yq
 by_cases hx : x < 0
 · rw [show decide (x < 0) = true from decide_eq_true hx, if_pos (rfl : true = true)]
   split <;> (try split) <;> (try split) <;> (try split) <;> omega
 · rw [show decide (x < 0) = false from decide_eq_false hx, if_neg Bool.false_ne_true]
   split <;> (try split) <;> (try split) <;> (try split) <;> omega
/- The references calls over numbers, told by the numbers alone. (Written by wip/exact/genz.py.) -/
open Go.RowKit
theorem rplus (x y z : Int) (A B : Option Addr) (c d : Nat) (w : World) (h : Zh w A c (Za x.natAbs)) (g : Zh w B d (Za y.natAbs)) (hx : lz x ≤ 500000000) (hy : lz y ≤ 500000000) (hz : z = x + y) :
   Calls Tryz.prog 212 #[.agg #[.bool (decide (x < 0)), .slice A (Za x.natAbs).length c], .agg #[.bool (decide (y < 0)), .slice B (Za y.natAbs).length d]] w (Zw w.heap.size w z) := by
 have := ref_Plus (decide (x < 0)) (decide (y < 0)) A B c d (Za x.natAbs) (Za y.natAbs) (Zu _) (Zu _) (by unfold lz at hx; omega) (by unfold lz at hy; omega) w h g
 rw [Yj, Yj, ← hz] at this
 exact this
theorem rminus (x y z : Int) (A B : Option Addr) (c d : Nat) (w : World) (h : Zh w A c (Za x.natAbs)) (g : Zh w B d (Za y.natAbs)) (hx : lz x ≤ 500000000) (hy : lz y ≤ 500000000) (hz : z = x - y) :
   Calls Tryz.prog 201 #[.agg #[.bool (decide (x < 0)), .slice A (Za x.natAbs).length c], .agg #[.bool (decide (y < 0)), .slice B (Za y.natAbs).length d]] w (Zw w.heap.size w z) := by
 have := ref_Minus (decide (x < 0)) (decide (y < 0)) A B c d (Za x.natAbs) (Za y.natAbs) (Zu _) (by unfold lz at hx; omega) (by unfold lz at hy; omega) w h g
 rw [Yj, Yj, ← hz] at this
 exact this
theorem rtimes (x y z : Int) (A B : Option Addr) (c d : Nat) (w : World) (h : Zh w A c (Za x.natAbs)) (g : Zh w B d (Za y.natAbs)) (hx : lz x ≤ 500000000) (hy : lz y ≤ 500000000) (hz : z = x * y) :
   Calls Tryz.prog 213 #[.agg #[.bool (decide (x < 0)), .slice A (Za x.natAbs).length c], .agg #[.bool (decide (y < 0)), .slice B (Za y.natAbs).length d]] w (Zw w.heap.size w z) := by
 have := ref_Times (decide (x < 0)) (decide (y < 0)) A B c d (Za x.natAbs) (Za y.natAbs) (by unfold lz at hx; omega) (by unfold lz at hy; omega) w h g
 rw [Yj, Yj, ← hz] at this
 exact this
theorem Jw (x y q r : Int) (A B : Option Addr) (c d : Nat) (w : World) (h : Zh w A c (Za x.natAbs)) (g : Zh w B d (Za y.natAbs)) (hx : lz x ≤ 500000000) (hy : lz y ≤ 500000000) (hy0 : y ≠ 0) (hq : q = x.tdiv y) (hr : r = x.tmod y) :
   Calls Tryz.prog 230 #[.agg #[.bool (decide (x < 0)), .slice A (Za x.natAbs).length c], .agg #[.bool (decide (y < 0)), .slice B (Za y.natAbs).length d]] w (RetBoth w.heap.size w q r) := by
 have h0 : Za y.natAbs ≠ [] := fun e => by
   have := ZX.1 e
   omega
 have := ref_Divide (decide (x < 0)) (decide (y < 0)) A B c d (Za x.natAbs) (Za y.natAbs) (Zu _) h0 (by unfold lz at hx; omega) (by unfold lz at hy; omega) w h g
 rw [Yj, Yj, ← hq, ← hr] at this
 exact this
theorem rcmp (x y k : Int) (A B : Option Addr) (c d : Nat) (w : World) (h : Zh w A c (Za x.natAbs)) (g : Zh w B d (Za y.natAbs)) (_ : lz x ≤ 500000000) (_ : lz y ≤ 500000000) (hk : k = YT x y) :
   Calls Tryz.prog 244 #[.agg #[.bool (decide (x < 0)), .slice A (Za x.natAbs).length c], .agg #[.bool (decide (y < 0)), .slice B (Za y.natAbs).length d]] w fun e w' => e = .returned (.int .i64 k) ∧ Below w.heap.size w w' := by
 have s1 := sgn_z x
 have s2 := sgn_z y
 rcases Int.lt_trichotomy x.sign y.sign with hl | hl | hl
 · have := ref_Cmp_less (decide (x < 0)) (decide (y < 0)) A B c d (Za x.natAbs) (Za y.natAbs) _ _ hl s1 s2 w h g
   have e : k = -1 := by rw [hk]; exact cmpz_lt (sign_lt hl)
   rw [e]; exact this
 · have := ref_Cmp_same (decide (x < 0)) (decide (y < 0)) A B c d (Za x.natAbs) (Za y.natAbs) x.sign (sign_neg x) s1 (by rw [s2, hl]) (Zu _) (Zu _) w h g
   have e : (if decide (x < 0) = true then Yq (val (Za y.natAbs)) (val (Za x.natAbs)) else Yq (val (Za x.natAbs)) (val (Za y.natAbs))) = k := by
     rw [hk, Zl, Zl]
     exact (cmp_like hl).symm
   rw [e] at this
   exact this
 · have := ref_Cmp_more (decide (x < 0)) (decide (y < 0)) A B c d (Za x.natAbs) (Za y.natAbs) _ _ hl s1 s2 w h g
   have e : k = 1 := by rw [hk]; exact cmpz_gt (sign_lt hl)
   rw [e]; exact this
theorem JL (x k : Int) (A : Option Addr) (c : Nat) (w : World) (h : Zh w A c (Za x.natAbs)) (hk : k = x.sign) :
   Calls Tryz.prog 190 #[.agg #[.bool (decide (x < 0)), .slice A (Za x.natAbs).length c]] w fun e w' => e = .returned (.int .i64 k) ∧ Below w.heap.size w w' := by
 have := YX (decide (x < 0)) A c _ w h
 rw [sgn_z, ← hk] at this
 exact this
theorem X6 (x k : Int) (A : Option Addr) (c : Nat) (w : World) (h : Zh w A c (Za x.natAbs)) (hx : lz x ≤ 200000000) (hk : k = ((ZS (Za x.natAbs) : Nat) : Int)) :
   Calls Tryz.prog 242 #[.agg #[.bool (decide (x < 0)), .slice A (Za x.natAbs).length c]] w fun e w' => e = .returned (.int .i64 k) ∧ Below w.heap.size w w' := by
 have := ref_Bits_any (decide (x < 0)) A c _ w h (by unfold lz at hx; omega)
 rw [← hk] at this
 exact this
theorem rof (n z : Int) (hz : z = n) (h1 : -9223372036854775808 ≤ n) (h2 : n ≤ 9223372036854775807) (w : World) : Calls Tryz.prog 130 #[.int .i64 n] w (Zw w.heap.size w z) := by
 rw [hz]; exact ref_Of n h1 h2 w
theorem rdouble (x z k : Int) (A : Option Addr) (c : Nat) (w : World) (h : Zh w A c (Za x.natAbs)) (hx : lz x ≤ 1000000) (hx0 : x ≠ 0) (hk0 : 0 ≤ k) (hk : k ≤ 1048576) (hz : z = x * ((2 ^ k.toNat : Nat) : Int)) :
   Calls Tryz.prog 133 #[.agg #[.bool (decide (x < 0)), .slice A (Za x.natAbs).length c], .int .i64 k] w (Zw w.heap.size w z) := by
 have hne : Za x.natAbs ≠ [] := fun e => by have := ZX.1 e; omega
 have := ref_Double_z (decide (x < 0)) A c k.toNat (Za x.natAbs) hne (by omega) (by unfold lz at hx; omega) z (Hd (by rw [hz, ← ival_mul, Yj])) w h
 rw [Int.toNat_of_nonneg hk0] at this
 exact this
/- An append of one cell to a row of the call's own: in place, or to a new block; the elder block then stays. -/
section
variable {P : Program} (w : World)
def Grew (w : World) (v : Value) (n : Nat) (v' : Value) (w' : World) : Prop :=
 (∃ g cap, v = .slice (some ⟨g, 0, none⟩) n cap ∧ v' = .slice (some ⟨g, 0, none⟩) (n + 1) cap ∧ w.grownBy w' (some g)) ∨ (v'.ownBlock = some w.heap.size ∧ w.grownBy w' none)
theorem run_append_one (base : Nat) (t ty e : TypeId) (i : TypeInfo) (z : Value) (bytes : Nat) (ht : P.underlying t = some (.slice e)) (hi : P.info? e = some i) (hz : i.zero = some z)
   (hsize : i.size = 1) (hby : i.bytes = bytes) (hzs : z.cells.size = 1) (v : Value) (n : Nat) (xs : List Value) (hown : w.ownsRow base e 1 v n xs)
   (a : Addr) (c : Nat) (u : Value) (hu : w.cell? a = some u) (h1 : u.oneCell' = true)
   (h63 : n + 1 ≤ maxLen) (hbytes : (n + 1) * bytes ≤ 140737488355328) (hbase : base ≤ w.heap.size) :
   ∃ v' w', (Builtin.append_ #[t, t] ty #[v, .slice (some a) 1 c]).run P w = .ok v' w' ∧ w'.ownsRow base e 1 v' (n + 1) (xs ++ [u]) ∧ Grew w v n v' w' := by
 have hnews : ∀ j x, [u][j]? = some x → w.cell? (a.add j) = some x := by
   intro j x hj
   cases j with
   | zero => simp at hj; subst hj; simpa [Addr.add] using hu
   | succ j => simp at hj
 have h1' : ∀ x ∈ [u], x.oneCell' = true := by simpa using h1
 obtain ⟨v', w', hrun, how, -, -, -⟩ := run_append_own_at (P := P) w base t ty e i z 1 bytes ht hi hz hsize hby hzs (by omega) v n xs hown a 1 c [u] rfl hnews h1' h63 hbytes hbase
 refine ⟨v', w', hrun, how, ?_⟩
 have hsmall : n + 1 ≤ 9223372036854775807 := by simp only [maxLen] at h63; omega
 have moved : ∀ o : Obj, w.grownBy (w.drew.alloc o) none := fun o => ⟨rfl, rfl, rfl, by simp, fun k hk _ => Below.heap_alloc w.drew _ k hk⟩
 rcases hown.2 with ⟨rfl, rfl⟩ | ⟨g, cap, cur, rfl, hbg, hg, hnc, hcm, hcs, htake⟩
 · have hr := run_append_nil (P := P) w t ty e i z ht hi hz a 1 c [u] (by simp [hsize]) hnews (by omega) (by omega) (by rw [hby]; omega)
   rw [hrun] at hr
   injection hr with e1 e2
   subst e1 e2
   exact .inr ⟨rfl, moved _⟩
 · by_cases hroom : n + 1 ≤ cap
   · obtain ⟨w1, hr, -, hgr⟩ := run_append_fits (P := P) w base t ty e i 1 ht hi hsize g n cap xs hown a 1 c [u] rfl hnews h1' hroom
     rw [hrun] at hr
     injection hr with e1 e2
     subst e1 e2
     exact .inl ⟨g, cap, rfl, rfl, hgr⟩
   · have holds : ∀ j x, xs[j]? = some x → w.cell? ((⟨g, 0, none⟩ : Addr).add j) = some x := hown.cells (g := g) rfl
     have hr := run_append_grow (P := P) w t ty e i z ht hi hz ⟨g, 0, none⟩ n cap xs (by rw [hsize]; exact hown.1) holds a 1 c [u] (by simp [hsize]) hnews (by omega) (by omega) (by rw [hby]; exact growslice_fits (by omega) hbytes)
     rw [hrun] at hr
     injection hr with e1 e2
     subst e1 e2
     exact .inr ⟨rfl, moved _⟩
theorem wpList_append_one {ops : Array Oper} {rest : List Oper} {o : Oper} {a : Act} {Q : Exit → Act → World → Prop} (hgd : o.guard = none) (s x : Operand) (t : TypeId)
   (ho : o.op = .call { callee := .builtin .append, args := #[s, x], argTypes := #[t, t] })
   (base : Nat) (e : TypeId) (i : TypeInfo) (z : Value) (bytes : Nat) (ht : P.underlying t = some (.slice e)) (hi : P.info? e = some i) (hz : i.zero = some z)
   (hsize : i.size = 1) (hby : i.bytes = bytes) (hzs : z.cells.size = 1)
   (v : Value) (n : Nat) (xs : List Value) (hs : a.eval s = v) (hown : w.ownsRow base e 1 v n xs)
   (ad : Addr) (c : Nat) (u : Value) (hx : a.eval x = .slice (some ad) 1 c) (hu : w.cell? ad = some u) (h1 : u.oneCell' = true)
   (h63 : n + 1 ≤ maxLen) (hbytes : (n + 1) * bytes ≤ 140737488355328) (hbase : base ≤ w.heap.size)
   (h : ∀ v' w', w'.ownsRow base e 1 v' (n + 1) (xs ++ [u]) → Grew w v n v' w' → wpList P ops Q rest (a.put o.dst v') w') : wpList P ops Q (o :: rest) a w := by
 refine wpList_plain hgd fun _ hK => ?_
 obtain ⟨v', w', hrun, h2, h3⟩ := run_append_one (P := P) w base t o.type e i z bytes ht hi hz hsize hby hzs v n xs hown ad c u hu h1 h63 hbytes hbase
 unfold Oper.wp execOp
 simp only [ho, resolve, invoke, builtin, Sem.run_bind, Sem.run_pure, Result.andThen_ok, List.map_toArray, List.map_cons, List.map_nil, hs, hx, hrun]
 exact hK _ _ (h v' w' h2 h3)
end
/- An append that does not fit moves the row. -/
section
variable {P : Program} (w : World)
theorem run_append_moves (base : Nat) (t ty e : TypeId) (i : TypeInfo) (z : Value) (bytes : Nat) (ht : P.underlying t = some (.slice e)) (hi : P.info? e = some i) (hz : i.zero = some z)
   (hsize : i.size = 1) (hby : i.bytes = bytes) (hzs : z.cells.size = 1) (g n cap : Nat) (xs : List Value) (hown : w.ownsRow base e 1 (.slice (some ⟨g, 0, none⟩) n cap) n xs)
   (a : Addr) (m c : Nat) (news : List Value) (hlen : news.length = m) (hnews : ∀ j u, news[j]? = some u → w.cell? (a.add j) = some u) (h1 : ∀ u ∈ news, u.oneCell' = true)
   (hroom : ¬ n + m ≤ cap) (h63 : n + m ≤ maxLen) (hbytes : (n + m) * bytes ≤ 140737488355328) (hbase : base ≤ w.heap.size) :
   ∃ v' w', (Builtin.append_ #[t, t] ty #[.slice (some ⟨g, 0, none⟩) n cap, .slice (some a) m c]).run P w = .ok v' w' ∧ w'.ownsRow base e 1 v' (n + m) (xs ++ news) ∧ Below w.heap.size w w' := by
 obtain ⟨v', w', hrun, how, -, -, -⟩ := run_append_own_at (P := P) w base t ty e i z 1 bytes ht hi hz hsize hby hzs (by omega) _ n xs hown a m c news (by omega) hnews h1 h63 hbytes hbase
 refine ⟨v', w', hrun, how, ?_⟩
 have hsmall : n + m ≤ 9223372036854775807 := by simp only [maxLen] at h63; omega
 have holds : ∀ j x, xs[j]? = some x → w.cell? ((⟨g, 0, none⟩ : Addr).add j) = some x := hown.cells (g := g) rfl
 have hr := run_append_grow (P := P) w t ty e i z ht hi hz ⟨g, 0, none⟩ n cap xs (by rw [hsize]; exact hown.1) holds a m c news (by simp [hsize, hlen]) hnews (by omega) (by omega) (by rw [hby]; exact growslice_fits (by omega) hbytes)
 rw [hrun] at hr
 injection hr with e1 e2
 subst e1 e2
 exact (Below.refl _ _).drew.alloc (by simp) _
theorem wp_append_moves {o : Oper} {a : Act} {K : Act → World → Prop} {Q : Exit → Act → World → Prop} (s x : Operand) (t : TypeId)
   (ho : o.op = .call { callee := .builtin .append, args := #[s, x], argTypes := #[t, t] })
   (base : Nat) (e : TypeId) (i : TypeInfo) (z : Value) (bytes : Nat) (ht : P.underlying t = some (.slice e)) (hi : P.info? e = some i) (hz : i.zero = some z)
   (hsize : i.size = 1) (hby : i.bytes = bytes) (hzs : z.cells.size = 1) (g n cap : Nat) (xs : List Value) (hs : a.eval s = .slice (some ⟨g, 0, none⟩) n cap) (hown : w.ownsRow base e 1 (.slice (some ⟨g, 0, none⟩) n cap) n xs)
   (ad : Addr) (m c : Nat) (news : List Value) (hx : a.eval x = .slice (some ad) m c) (hlen : news.length = m) (hnews : ∀ j u, news[j]? = some u → w.cell? (ad.add j) = some u) (h1 : ∀ u ∈ news, u.oneCell' = true)
   (hroom : ¬ n + m ≤ cap) (h63 : n + m ≤ maxLen) (hbytes : (n + m) * bytes ≤ 140737488355328) (hbase : base ≤ w.heap.size)
   (h : ∀ v' w', w'.ownsRow base e 1 v' (n + m) (xs ++ news) → Below w.heap.size w w' → K (a.put o.dst v') w') : o.wp P a w K Q := by
 obtain ⟨v', w', hrun, h2, h3⟩ := run_append_moves (P := P) w base t o.type e i z bytes ht hi hz hsize hby hzs g n cap xs hown ad m c news hlen hnews h1 hroom h63 hbytes hbase
 unfold Oper.wp execOp
 simp only [ho, resolve, invoke, builtin, Sem.run_bind, Sem.run_pure, Result.andThen_ok, List.map_toArray, List.map_cons, List.map_nil, hs, hx, hrun]
 exact h v' w' h2 h3
end
end Go.Proofs.YtipmkkobdbgphaaGreatDoor
