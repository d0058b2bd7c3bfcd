/- Several texts in one: Limbs, Words, Trim, Signed. -/
import Derived.Below
import Derived.Laws.OwnMore
import Derived.Deep.AppendLies
import Derived.Deep.Draws
import Derived.Laws.Rows
import Derived.Maps.AppendAt
import Derived.RegionTactic
import Derived.OwnWalk
import Derived.Laws.MakeOwn
import Derived.Laws.Entries
import Derived.Test.YtkncbenhfcpgkaaGreatDoorPuHd
import Derived.Test.YtkncbenhfcpgkaaGreatDoorProg
import Derived.WalkKit
import Derived.WalkSpells
import Derived.WalkLawsBesides
import Derived.Lib.Hide
set_option maxRecDepth 100000
set_option maxHeartbeats 8000000
/- Numbers by their limbs of 32 bits, the lowest first: plain, no program in sight. -/
namespace Go.Proofs.YtkncbenhfcpgkaaGreatDoor

def val : List Nat → Nat
  | [] => 0
  | x :: xs => x + 4294967296 * val xs
def Limbs (xs : List Nat) : Prop := ∀ x ∈ xs, x < 4294967296

def natLF : Nat → Nat → List Nat
  | 0, _ => []
  | f + 1, n => if n = 0 then [] else n % 4294967296 :: natLF f (n / 4294967296)
def natL (n : Nat) : List Nat := natLF n n

theorem natLF_fuel : ∀ (f g n : Nat), n ≤ f → n ≤ g → natLF f n = natLF g n
  | 0, 0, _, _, _ => rfl
  | 0, g + 1, n, h, _ => by
    obtain rfl : n = 0 := by omega
    simp [natLF]
  | f + 1, 0, n, _, h => by
    obtain rfl : n = 0 := by omega
    simp [natLF]
  | f + 1, g + 1, n, h1, h2 => by
    simp only [natLF]
    split
    · rfl
    · rw [natLF_fuel f g _ (by omega) (by omega)]
theorem natL_zero : natL 0 = [] := rfl
theorem natL_pos {n : Nat} (h : n ≠ 0) : natL n = n % 4294967296 :: natL (n / 4294967296) := by
  unfold natL
  obtain ⟨m, rfl⟩ : ∃ m, n = m + 1 := ⟨n - 1, by omega⟩
  conv => lhs; rw [natLF, if_neg h]
  rw [natLF_fuel m _ _ (by omega) (Nat.le_refl _)]
theorem natL_ind {P : Nat → Prop} (h0 : P 0) (h1 : ∀ n, n ≠ 0 → P (n / 4294967296) → P n) (n : Nat) : P n := by
  induction n using Nat.strongRecOn with
  | _ n ih =>
    by_cases h : n = 0
    · subst h; exact h0
    · exact h1 n h (ih _ (by omega))
theorem val_natL (n : Nat) : val (natL n) = n := by
  induction n using natL_ind with
  | h0 => rfl
  | h1 n h ih => rw [natL_pos h, val, ih]; omega
theorem limbs_natL (n : Nat) : Limbs (natL n) := by
  induction n using natL_ind with
  | h0 => intro x hx; simp [natL_zero] at hx
  | h1 n h ih =>
    rw [natL_pos h]
    intro x hx
    simp only [List.mem_cons] at hx
    rcases hx with rfl | hx
    · omega
    · exact ih x hx
theorem natL_eq_nil {n : Nat} : natL n = [] ↔ n = 0 := by
  constructor
  · intro h
    by_cases hn : n = 0
    · exact hn
    · rw [natL_pos hn] at h; cases h
  · rintro rfl; rfl
theorem limbs_cons {x : Nat} {xs : List Nat} : Limbs (x :: xs) ↔ x < 4294967296 ∧ Limbs xs := by
  simp [Limbs]
theorem limbs_append {xs ys : List Nat} : Limbs (xs ++ ys) ↔ Limbs xs ∧ Limbs ys := by
  simp only [Limbs, List.mem_append]
  exact ⟨fun h => ⟨fun x hx => h x (.inl hx), fun x hx => h x (.inr hx)⟩, fun h x hx => hx.elim (h.1 x) (h.2 x)⟩
theorem limbs_take {xs : List Nat} (h : Limbs xs) (n : Nat) : Limbs (xs.take n) := fun x hx => h x (List.mem_of_mem_take hx)
theorem limbs_drop {xs : List Nat} (h : Limbs xs) (n : Nat) : Limbs (xs.drop n) := fun x hx => h x (List.mem_of_mem_drop hx)
theorem limbs_get {xs : List Nat} (h : Limbs xs) {k : Nat} (hk : k < xs.length) : xs[k] < 4294967296 := h _ (List.getElem_mem hk)
theorem val_append (xs ys : List Nat) : val (xs ++ ys) = val xs + 4294967296 ^ xs.length * val ys := by
  induction xs with
  | nil => simp [val]
  | cons x xs ih => simp only [List.cons_append, val, ih, List.length_cons, Nat.pow_succ]; grind
theorem val_lt {xs : List Nat} (h : Limbs xs) : val xs < 4294967296 ^ xs.length := by
  induction xs with
  | nil => simp [val]
  | cons x xs ih =>
    obtain ⟨h1, h2⟩ := limbs_cons.1 h
    have := ih h2
    simp only [val, List.length_cons, Nat.pow_succ]
    have e : 4294967296 ^ xs.length * 4294967296 = 4294967296 * 4294967296 ^ xs.length := Nat.mul_comm _ _
    omega
def Canon (xs : List Nat) : Prop := ∀ x, xs.getLast? = some x → x ≠ 0
theorem canon_natL (n : Nat) : Canon (natL n) := by
  induction n using natL_ind with
  | h0 => intro x hx; simp [natL_zero] at hx
  | h1 n h ih =>
    rw [natL_pos h]
    intro x hx
    by_cases hq : n / 4294967296 = 0
    · rw [hq, natL_zero] at hx
      simp at hx; omega
    · rw [natL_pos hq] at ih hx
      rw [List.getLast?_cons_cons] at hx
      exact ih x hx
theorem natL_val {xs : List Nat} (hl : Limbs xs) (hc : Canon xs) : natL (val xs) = xs := by
  induction xs with
  | nil => rfl
  | cons x xs ih =>
    obtain ⟨h1, h2⟩ := limbs_cons.1 hl
    have hc2 : Canon xs := by
      intro y hy
      cases xs with
      | nil => simp at hy
      | cons z zs => exact hc y (by rw [List.getLast?_cons_cons]; exact hy)
    have hne : val (x :: xs) ≠ 0 := by
      intro h0
      simp only [val] at h0
      have hx : x = 0 := by omega
      have hv : val xs = 0 := by omega
      have : xs = [] := by rw [← ih h2 hc2, hv]; rfl
      subst this
      exact hc x (by simp) hx
    rw [natL_pos hne]
    simp only [val]
    rw [show (x + 4294967296 * val xs) % 4294967296 = x by omega, show (x + 4294967296 * val xs) / 4294967296 = val xs by omega, ih h2 hc2]
theorem natL_length_le {n k : Nat} : (natL n).length ≤ k ↔ n < 4294967296 ^ k := by
  induction n using natL_ind generalizing k with
  | h0 => simp [natL_zero]; exact Nat.pow_pos (by omega)
  | h1 n h ih =>
    rw [natL_pos h]
    cases k with
    | zero => simp; omega
    | succ k =>
      simp only [List.length_cons, Nat.add_le_add_iff_right, ih, Nat.pow_succ]
      rw [Nat.div_lt_iff_lt_mul (by omega)]
theorem canon_of_get {xs : List Nat} {k : Nat} (hk : k < xs.length) (h : xs[k] ≠ 0) : Canon (xs.take (k + 1)) := by
  intro x hx
  rw [List.take_succ_eq_append_getElem hk, List.getLast?_concat] at hx
  injection hx with hx
  rw [← hx]; exact h
theorem natL_take_nought {xs : List Nat} {k : Nat} (hk : k < xs.length) (h : xs[k] = 0) : val (xs.take (k + 1)) = val (xs.take k) := by
  rw [List.take_succ_eq_append_getElem hk, val_append, h]; simp [val]
theorem natL_take {xs : List Nat} (h : Limbs xs) : natL (val xs) = xs.take (natL (val xs)).length := by
  induction hn : xs.length generalizing xs with
  | zero => 
    obtain rfl := List.eq_nil_of_length_eq_zero hn
    rfl
  | succ k ih =>
    by_cases h0 : xs[k] = 0
    · have e := natL_take_nought (xs := xs) (k := k) (by omega) h0
      rw [List.take_of_length_le (by omega)] at e
      have := ih (limbs_take h k) (by simp; omega)
      rw [← e] at this
      rw [List.take_take] at this
      have hle : (natL (val xs)).length ≤ k := by
        rw [natL_length_le, e]
        have := val_lt (limbs_take h k)
        simpa [List.length_take, Nat.min_eq_left (show k ≤ xs.length by omega)] using this
      rw [Nat.min_eq_left hle] at this
      exact this
    · have hc : Canon xs := by
        have := canon_of_get (xs := xs) (k := k) (by omega) h0
        rwa [List.take_of_length_le (by omega)] at this
      rw [natL_val h hc, List.take_length]
theorem natL_val_le {xs : List Nat} (h : Limbs xs) : (natL (val xs)).length ≤ xs.length := natL_length_le.2 (val_lt h)
/- Words for memory. (Copied from the guide's page of words for memory.) -/
open Go.RowKit
theorem block_of_add (a : Addr) (n : Nat) : (a.add n).block = a.block := by unfold Addr.add; split <;> rfl
theorem add_of_add (a : Addr) (i j : Nat) : (a.add i).add j = a.add (i + j) := by
  unfold Addr.add
  by_cases hi : i = 0 <;> by_cases hj : j = 0 <;> simp [hi, hj, Nat.add_assoc]

def Reads (w : World) (B size : Nat) (A : Option Addr) (n : Nat) (xs : List Value) : Prop :=
  xs.length = n * size ∧ (0 < n → ∃ ad, A = some ad ∧ ad.block < B ∧ ∀ j u, xs[j]? = some u → w.cell? (ad.add j) = some u)

section
variable {w w' : World} {B B' size n : Nat} {A : Option Addr} {xs : List Value}
theorem Reads.none_ : Reads w B size A 0 [] := ⟨by simp, fun h => absurd h (by omega)⟩
theorem Reads.at_ {k : Nat} (h : Reads w B 1 A n xs) (hk : k < n) : ∃ ad u, A = some ad ∧ ad.block < B ∧ xs[k]? = some u ∧ w.cell? (ad.add k) = some u := by
  obtain ⟨ad, e, hb, hc⟩ := h.2 (by omega)
  have hl : k < xs.length := by have := h.1; omega
  exact ⟨ad, xs[k], e, hb, List.getElem?_eq_getElem hl, hc k _ (List.getElem?_eq_getElem hl)⟩
theorem Reads.keep (h : Reads w B size A n xs) (hk : ∀ p : Addr, p.block < B → w'.cell? p = w.cell? p) : Reads w' B size A n xs :=
  ⟨h.1, fun hn => by
    obtain ⟨ad, e, hb, hc⟩ := h.2 hn
    exact ⟨ad, e, hb, fun j u hu => (hk _ (by rw [block_of_add]; exact hb)).trans (hc j u hu)⟩⟩
theorem Reads.more (h : Reads w B size A n xs) (hB : B ≤ B') : Reads w B' size A n xs :=
  ⟨h.1, fun hn => by
    obtain ⟨ad, e, hb, hc⟩ := h.2 hn
    exact ⟨ad, e, by omega, hc⟩⟩
theorem Reads.below (h : Reads w B size A n xs) (hb : Below B w w') : Reads w' B size A n xs := h.keep fun _ hp => hb.cell hp
theorem Reads.drew (h : Reads w B size A n xs) : Reads w.drew B size A n xs := h
theorem Reads.drewN (h : Reads w B size A n xs) (k : Nat) : Reads (w.drewN k) B size A n xs := h
theorem Reads.alloc (h : Reads w B size A n xs) (hB : B ≤ w.heap.size) (o : Obj) : Reads (w.alloc o) B size A n xs := h.keep fun p hp => World.cell?_alloc_lt w o p (by omega)
theorem Reads.setCell (h : Reads w B size A n xs) {p : Addr} (hB : B ≤ p.block) (u : Value) : Reads (w.setCell p u) B size A n xs :=
  h.keep fun q hq => World.cell?_setCell_other w p q u (fun e => by subst e; omega)
theorem Reads.grown (h : Reads w B size A n xs) {row : Option Nat} (hg : w.grownBy w' row) (hB : B ≤ w.heap.size) (hr : ∀ g, row = some g → B ≤ g) : Reads w' B size A n xs :=
  h.keep fun p hp => World.cell?_of_block (hg.block p.block (by omega) (fun e => by have := hr _ e.symm; omega))
theorem Reads.cut (h : Reads w B size A n xs) {k cap : Nat} (hk : k ≤ n) (hc : n ≤ cap) :
    Reads w B size (if cap = k then A else A.map (·.add (k * size))) (n - k) (xs.drop (k * size)) := by
  refine ⟨by rw [List.length_drop, h.1, Nat.sub_mul], fun hn => ?_⟩
  obtain ⟨ad, rfl, hb, hcell⟩ := h.2 (by omega)
  rw [if_neg (by omega)]
  refine ⟨ad.add (k * size), rfl, by rw [block_of_add]; exact hb, fun j u hu => ?_⟩
  rw [add_of_add]
  exact hcell _ u (by rw [← hu, List.getElem?_drop])
theorem Reads.of_own {base : Nat} {e : TypeId} {c : Nat} (h : w.ownsRow base e size (.slice A n c) n xs) : Reads w w.heap.size size A n xs := by
  refine ⟨h.1, fun hn => ?_⟩
  obtain ⟨g, cap, hv, _, hlt⟩ := h.form hn
  have hA : A = some ⟨g, 0, none⟩ := by injection hv
  subst hA
  exact ⟨_, rfl, hlt, h.cells (g := g) rfl⟩
end
def Blk (w : World) (g : Nat) (t : TypeId) (cs : Array Value) : Prop := w.heap[g]? = some (.cells cs t (0, 0))

section
variable {w w' : World} {g : Nat} {t : TypeId} {cs : Array Value}
theorem Blk.lt (h : Blk w g t cs) : g < w.heap.size := by
  rcases Nat.lt_or_ge g w.heap.size with hlt | hge
  · exact hlt
  · unfold Blk at h; rw [Array.getElem?_eq_none hge] at h; cases h
theorem Blk.cell (h : Blk w g t cs) (i : Nat) : w.cell? ⟨g, i, none⟩ = cs[i]? := cell_of_row w g i cs t (0, 0) h
theorem Blk.frozen (h : Blk w g t cs) (i : Nat) : w.frozen? ⟨g, i, none⟩ = false := by
  unfold Blk at h
  simp [World.frozen?, h]
theorem Blk.new (w : World) (t : TypeId) (cs : Array Value) : Blk (w.alloc (.cells cs t)) w.heap.size t cs := heap_alloc_new w _
theorem Blk.drew (h : Blk w g t cs) : Blk w.drew g t cs := h
theorem Blk.drewN (h : Blk w g t cs) (n : Nat) : Blk (w.drewN n) g t cs := h
theorem Blk.alloc (h : Blk w g t cs) (o : Obj) : Blk (w.alloc o) g t cs := (Below.heap_alloc w o g h.lt).trans h
theorem Blk.set_ (h : Blk w g t cs) (i : Nat) (u : Value) : Blk (w.setCell ⟨g, i, none⟩ u) g t (cs.setIfInBounds i u) := by
  unfold Blk at h ⊢
  simp [World.setCell, Array.getElem?_modify, h]
theorem Blk.far (h : Blk w g t cs) {p : Addr} (hp : g ≠ p.block) (u : Value) : Blk (w.setCell p u) g t cs := (Below.heap_setCell w p u g hp).trans h
theorem Blk.below {B : Nat} (h : Blk w g t cs) (hb : Below B w w') (hg : g < B) : Blk w' g t cs := (hb.block g hg).trans h
theorem Blk.grown {row : Option Nat} (h : Blk w g t cs) (hb : w.grownBy w' row) (hg : some g ≠ row) : Blk w' g t cs := (hb.block g h.lt hg).trans h
theorem Blk.ne_ {g' : Nat} {t' : TypeId} {cs' : Array Value} (h : Blk w g t cs) (h' : Blk w g' t' cs') (hne : t ≠ t') : g ≠ g' := by
  rintro rfl
  unfold Blk at h h'
  rw [h] at h'
  injection h' with h'
  injection h' with _ ht
  exact hne ht
theorem own_blk_ne {base : Nat} {e : TypeId} {size n : Nat} {v : Value} {xs : List Value} (h : w.ownsRow base e size v n xs) (hg : Blk w g t cs) (hne : e ≠ t) : v.ownBlock ≠ some g := by
  rcases h.2 with ⟨rfl, _⟩ | ⟨g', cap, cur, rfl, _, hh, _⟩
  · simp [Value.ownBlock]
  · intro he
    have : g' = g := by simpa [Value.ownBlock] using he
    subst this
    exact Blk.ne_ (t := e) hh hg hne rfl
end
section
variable {P : Program} (w : World)

theorem run_append_of_nil (base : Nat) (t ty e : TypeId) (i : TypeInfo) (size : Nat) (ht : P.underlying t = some (.slice e)) (hi : P.info? e = some i)
    (v : Value) (n : Nat) (xs : List Value) (hown : w.ownsRow base e size v n xs) (c : Nat) : (Builtin.append_ #[t, t] ty #[v, .slice none 0 c]).run P w = .ok v w := by
  rcases hown.2 with ⟨rfl, rfl⟩ | ⟨g, cap, cur, rfl, _, _, hnc, _⟩
  · simp [Builtin.append_, run_underlying ht, sizeOf, typeInfo, hi, Builtin.lenOf, Builtin.firstCells]
  · simp [Builtin.append_, run_underlying ht, sizeOf, typeInfo, hi, Builtin.lenOf, Builtin.firstCells, hnc, storeCells]

theorem run_append_any (base : Nat) (t ty e : TypeId) (i : TypeInfo) (z : Value) (size bytes : Nat) (ht : P.underlying t = some (.slice e)) (hi : P.info? e = some i) (hz : i.zero = some z)
    (hsize : i.size = size) (hby : i.bytes = bytes) (hzs : z.cells.size = size) (hsz : 0 < size)
    (v : Value) (n : Nat) (xs : List Value) (hown : w.ownsRow base e size v n xs)
    (B : Nat) (A : Option Addr) (m c : Nat) (news : List Value) (hr : Reads w B size A m news) (h1 : ∀ u ∈ news, u.oneCell' = true)
    (h63 : n + m ≤ maxLen) (hbytes : (n + m) * bytes ≤ 140737488355328) (hbase : base ≤ w.heap.size) :
    ∃ v' w', (Builtin.append_ #[t, t] ty #[v, .slice A m c]).run P w = .ok v' w' ∧ w'.ownsRow base e size v' (n + m) (xs ++ news) ∧ w.grownBy w' v.ownBlock ∧
      (v'.ownBlock = v.ownBlock ∨ v'.ownBlock = some w.heap.size) := by
  rcases A with _ | ad
  · have hm : m = 0 := by
      rcases Nat.eq_zero_or_pos m with h0 | h0
      · exact h0
      · obtain ⟨ad, h, _⟩ := hr.2 h0
        cases h
    subst hm
    have hn : news = [] := List.eq_nil_of_length_eq_zero (by simpa using hr.1)
    subst hn
    exact ⟨v, w, run_append_of_nil w base t ty e i size ht hi v n xs hown c, by simpa using hown, World.grownBy.refl w _, .inl rfl⟩
  · have hcells : ∀ j u, news[j]? = some u → w.cell? (ad.add j) = some u := by
      intro j u hu
      rcases Nat.eq_zero_or_pos m with h0 | h0
      · subst h0
        have hn : news = [] := List.eq_nil_of_length_eq_zero (by simpa using hr.1)
        subst hn
        simp at hu
      · obtain ⟨ad', h, _, hc⟩ := hr.2 h0
        injection h with h
        subst h
        exact hc j u hu
    obtain ⟨v', w', hrun, h2, h3, _, h5⟩ := run_append_own_at (P := P) w base t ty e i z size bytes ht hi hz hsize hby hzs hsz v n xs hown ad m c news hr.1 hcells h1 h63 hbytes hbase
    exact ⟨v', w', hrun, h2, h3, h5⟩

theorem wp_append_any {o : Oper} {a : Act} {K : Act → World → Prop} {Q : Exit → Act → World → Prop} (s x : Operand) (t : TypeId)
    (ho : o.op = .call { callee := .builtin .append, args := #[s, x], argTypes := #[t, t] })
    (base : Nat) (e : TypeId) (i : TypeInfo) (z : Value) (size bytes : Nat) (ht : P.underlying t = some (.slice e)) (hi : P.info? e = some i) (hz : i.zero = some z)
    (hsize : i.size = size) (hby : i.bytes = bytes) (hzs : z.cells.size = size) (hsz : 0 < size)
    (v : Value) (n : Nat) (xs : List Value) (hs : a.eval s = v) (hown : w.ownsRow base e size v n xs)
    (B : Nat) (A : Option Addr) (m c : Nat) (news : List Value) (hx : a.eval x = .slice A m c) (hr : Reads w B size A m news) (h1 : ∀ u ∈ news, u.oneCell' = true)
    (h63 : n + m ≤ maxLen) (hbytes : (n + m) * bytes ≤ 140737488355328) (hbase : base ≤ w.heap.size)
    (h : ∀ v' w', w'.ownsRow base e size v' (n + m) (xs ++ news) → w.grownBy w' v.ownBlock → (v'.ownBlock = v.ownBlock ∨ v'.ownBlock = some w.heap.size) → K (a.put o.dst v') w') : o.wp P a w K Q := by
  obtain ⟨v', w', hrun, h2, h3, h4⟩ := run_append_any (P := P) w base t o.type e i z size bytes ht hi hz hsize hby hzs hsz v n xs hown B A m c news hr h1 h63 hbytes hbase
  unfold Oper.wp execOp
  simp only [ho, resolve, invoke, builtin, Sem.run_bind, Sem.run_pure, Result.andThen_ok, List.map_toArray, List.map_cons, List.map_nil, hs, hx, hrun]
  exact h v' w' h2 h3 h4

theorem wpList_append_any {ops : Array Oper} {rest : List Oper} {o : Oper} {a : Act} {Q : Exit → Act → World → Prop} (hgd : o.guard = none) (s x : Operand) (t : TypeId)
    (ho : o.op = .call { callee := .builtin .append, args := #[s, x], argTypes := #[t, t] })
    (base : Nat) (e : TypeId) (i : TypeInfo) (z : Value) (size bytes : Nat) (ht : P.underlying t = some (.slice e)) (hi : P.info? e = some i) (hz : i.zero = some z)
    (hsize : i.size = size) (hby : i.bytes = bytes) (hzs : z.cells.size = size) (hsz : 0 < size)
    (v : Value) (n : Nat) (xs : List Value) (hs : a.eval s = v) (hown : w.ownsRow base e size v n xs)
    (B : Nat) (A : Option Addr) (m c : Nat) (news : List Value) (hx : a.eval x = .slice A m c) (hr : Reads w B size A m news) (h1 : ∀ u ∈ news, u.oneCell' = true)
    (h63 : n + m ≤ maxLen) (hbytes : (n + m) * bytes ≤ 140737488355328) (hbase : base ≤ w.heap.size)
    (h : ∀ v' w', w'.ownsRow base e size v' (n + m) (xs ++ news) → w.grownBy w' v.ownBlock → (v'.ownBlock = v.ownBlock ∨ v'.ownBlock = some w.heap.size) → wpList P ops Q rest (a.put o.dst v') w') : wpList P ops Q (o :: rest) a w :=
  wpList_plain hgd fun _ hK => wp_append_any w s x t ho base e i z size bytes ht hi hz hsize hby hzs hsz v n xs hs hown B A m c news hx hr h1 h63 hbytes hbase fun v' w' h2 h3 h4 => hK _ _ (h v' w' h2 h3 h4)

end

theorem run_make_rowN {P : Program} (t e : TypeId) (i : TypeInfo) (z : Value) (ht : P.underlying t = some (.slice e)) (hi : P.info? e = some i) (hz : i.zero = some z)
    (kl kc : IntKind) (n c : Nat) (hnc : n ≤ c) (hbytes : i.bytes * c ≤ 281474976710656) (h63 : c ≤ 9223372036854775807) (w : World) :
    (Instr.makeSlice t (.int kl (n : Int)) (.int kc (c : Int))).run P w = .ok (.slice (some ⟨w.heap.size, 0, none⟩) n c) (w.alloc (.cells (madeCells z.cells (c * i.size)) e)) := by
  have hb : (i.bytes : Int) * (c : Int) ≤ 281474976710656 := by
    have h : ((i.bytes * c : Nat) : Int) ≤ 281474976710656 := by omega
    rwa [Int.natCast_mul] at h
  have hr := run_make (P := P) w t e i z ht hi hz kl kc n c (by omega) (by omega) hb (by omega)
  simp only [Int.toNat_natCast] at hr
  exact hr
theorem step_append_fits {P : Program} (w : World) {ops : Array Oper} {o : Oper} {a : Act} {K : Act → World → Prop} {Q : Exit → Act → World → Prop} {E : Prop} (hgd : o.guard = none) (s x : Operand) (t : TypeId)
    (ho : o.op = .call { callee := .builtin .append, args := #[s, x], argTypes := #[t, t] })
    (base : Nat) (e : TypeId) (i : TypeInfo) (size : Nat) (h1 : P.underlying t = some (.slice e)) (h2 : P.info? e = some i) (h4 : i.size = size)
    (g k cap : Nat) (xs : List Value) (hs : a.eval s = .slice (some ⟨g, 0, none⟩) k cap) (hown : w.ownsRow base e size (.slice (some ⟨g, 0, none⟩) k cap) k xs)
    (ad : Addr) (m c : Nat) (news : List Value) (hx : a.eval x = .slice (some ad) m c) (hn : news.length = m * size)
    (hc : ∀ j u, news[j]? = some u → w.cell? (ad.add j) = some u) (h1c : ∀ u ∈ news, u.oneCell' = true) (b1 : k + m ≤ cap)
    (hK : ∀ w', w'.ownsRow base e size (.slice (some ⟨g, 0, none⟩) (k + m) cap) (k + m) (xs ++ news) → w.grownBy w' (some g) → K (a.put o.dst (.slice (some ⟨g, 0, none⟩) (k + m) cap)) w') :
    if Region.wanted o (yielded ops a.tmps) = true then Oper.wp P o a w K Q else E := by
  have hw : Region.wanted o (yielded ops a.tmps) = true := by simp [Region.wanted, hgd]
  rw [if_pos hw]
  obtain ⟨w', hrun, r1, r2⟩ := run_append_fits (P := P) w base t o.type e i size h1 h2 h4 g k cap xs hown ad m c news hn hc h1c b1
  unfold Oper.wp
  simp [execOp, ho, resolve, invoke, builtin, hs, hx, hrun, Result.andThen]
  exact hK w' r1 r2
theorem wpList_append_fits_reads {P : Program} (w : World) {ops : Array Oper} {rest : List Oper} {o : Oper} {a : Act} {Q : Exit → Act → World → Prop}
    (hg : o.guard = none) (s x : Operand) (t : TypeId) (hop : o.op = Op.call { callee := Callee.builtin Builtin.append, args := #[s, x], argTypes := #[t, t] })
    (base : Nat) (e : TypeId) (i : TypeInfo) (size : Nat) (h1 : P.underlying t = some (.slice e)) (h2 : P.info? e = some i) (h4 : i.size = size)
    (g k cap : Nat) (xs : List Value) (hs : a.eval s = .slice (some ⟨g, 0, none⟩) k cap) (hown : w.ownsRow base e size (.slice (some ⟨g, 0, none⟩) k cap) k xs)
    (B : Nat) (A : Option Addr) (m c : Nat) (news : List Value) (hx : a.eval x = .slice A m c) (hr : Reads w B size A m news) (h1c : ∀ u ∈ news, u.oneCell' = true) (b1 : k + m ≤ cap)
    (hK : ∀ w', w'.ownsRow base e size (.slice (some ⟨g, 0, none⟩) (k + m) cap) (k + m) (xs ++ news) → w.grownBy w' (some g) → wpList P ops Q rest (a.put o.dst (.slice (some ⟨g, 0, none⟩) (k + m) cap)) w') :
    wpList P ops Q (o :: rest) a w := by
  rcases Nat.eq_zero_or_pos m with hm | hm
  · subst hm
    have hn : news = [] := List.eq_nil_of_length_eq_zero (by simpa using hr.1)
    subst hn
    rcases A with _ | ad
    · refine wpList_plain hg fun K hK' => ?_
      have hrun := run_append_of_nil (P := P) w base t o.type e i size h1 h2 (.slice (some ⟨g, 0, none⟩) k cap) k xs hown c
      unfold Oper.wp
      simp [execOp, hop, resolve, invoke, builtin, hs, hx, hrun, Result.andThen]
      refine hK' _ _ ?_
      have := hK w (by simpa using hown) (World.grownBy.refl w _)
      simpa using this
    · exact wpList_append_fits w hg s x t hop base e i size h1 h2 h4 g k cap xs hs hown ad 0 c [] hx (by simp) (by simp) (by simp) b1 hK
  · obtain ⟨ad, rfl, _, hc⟩ := hr.2 hm
    exact wpList_append_fits w hg s x t hop base e i size h1 h2 h4 g k cap xs hs hown ad m c news hx hr.1 hc h1c b1 hK
section
variable {w w' : World} {g g' : Nat} {t : TypeId} {cs : Array Value}
theorem Blk.far2 (h : Blk w g t cs) (hn : g ≠ g') (a b : Value) : Blk ((w.setCell ⟨g', 0, none⟩ a).setCell ⟨g', 1, none⟩ b) g t cs :=
  (h.far (p := ⟨g', 0, none⟩) hn a).far (p := ⟨g', 1, none⟩) hn b
theorem Blk.store2 (h : Blk w g t cs) (hs : cs.size = 2) (a b : Value) : Blk ((w.setCell ⟨g, 0, none⟩ a).setCell ⟨g, 1, none⟩ b) g t #[a, b] := by
  have k := (h.set_ 0 a).set_ 1 b
  have e : (cs.setIfInBounds 0 a).setIfInBounds 1 b = #[a, b] := by
    obtain ⟨l⟩ := cs
    match l, hs with
    | [x0, x1], _ => rfl
  rwa [e] at k
theorem below2 {W : World} {B : Nat} (h : Below B W w) (hg : B ≤ g) (a b : Value) : Below B W ((w.setCell ⟨g, 0, none⟩ a).setCell ⟨g, 1, none⟩ b) :=
  (h.setCell (p := ⟨g, 0, none⟩) hg a).setCell (p := ⟨g, 1, none⟩) hg b
structure Pair (w : World) (g : Nat) (t : TypeId) (a b : Value) : Prop where
  blk : Blk w g t #[a, b]
theorem Pair.new (w : World) (t : TypeId) (a b : Value) : Pair (w.alloc (.cells #[a, b] t)) w.heap.size t a b := ⟨Blk.new w t #[a, b]⟩
theorem Pair.alloc {a b : Value} (h : Pair w g t a b) (o : Obj) : Pair (w.alloc o) g t a b := ⟨h.blk.alloc o⟩
theorem Pair.below {a b : Value} (h : Pair w g t a b) (hb : Below w.heap.size w w') : Pair w' g t a b := ⟨h.blk.below hb h.blk.lt⟩
theorem Pair.drew {a b : Value} (h : Pair w g t a b) : Pair w.drew g t a b := ⟨h.blk.drew⟩
theorem Pair.facts {a b : Value} (h : Pair w g t a b) : g < w.heap.size ∧ w.cell? ⟨g, 0, none⟩ = some a ∧ w.cell? ⟨g, 1, none⟩ = some b ∧ w.frozen? ⟨g, 0, none⟩ = false ∧ w.frozen? ⟨g, 1, none⟩ = false :=
  ⟨h.blk.lt, h.blk.cell 0, h.blk.cell 1, h.blk.frozen 0, h.blk.frozen 1⟩
theorem Pair.grown {a b : Value} {row : Option Nat} (h : Pair w g t a b) (hb : w.grownBy w' row) (hg : some g ≠ row) : Pair w' g t a b := ⟨h.blk.grown hb hg⟩
theorem Pair.store {a b : Value} (h : Pair w g t a b) (c d : Value) : Pair ((w.setCell ⟨g, 0, none⟩ c).setCell ⟨g, 1, none⟩ d) g t c d := ⟨h.blk.store2 rfl c d⟩
theorem Pair.far {a b : Value} (h : Pair w g t a b) (hn : g ≠ g') (c d : Value) : Pair ((w.setCell ⟨g', 0, none⟩ c).setCell ⟨g', 1, none⟩ d) g t a b := ⟨h.blk.far2 hn c d⟩
theorem below_drewN {W : World} {B : Nat} (h : Below B W w) (n : Nat) : Below B W (w.drewN n) := ⟨h.os, h.tape, h.output, h.size, h.block⟩
theorem belowTo {W a b : World} (h : Below W.heap.size W a) (k : Below a.heap.size a b) : Below W.heap.size W b := h.trans (k.mono h.size)
end
theorem own_form {w : World} {base : Nat} {e : TypeId} {size n : Nat} {v : Value} {xs : List Value} (hs : 0 < size) (h : w.ownsRow base e size v n xs) : ∃ A c, v = .slice A n c := by
  rcases h.2 with ⟨h1, h2⟩ | ⟨g, cap, cur, h1, _⟩
  · have hl := h.1
    rw [h2] at hl
    rcases Nat.eq_zero_or_pos n with hn | hn
    · subst hn; exact ⟨none, 0, h1⟩
    · have := Nat.mul_pos hn hs; simp at hl; omega
  · exact ⟨_, _, h1⟩
structure Two (w : World) (B : Nat) (e : TypeId) (size : Nat) (v1 : Value) (n1 : Nat) (xs1 : List Value) (e2 : TypeId) (size2 : Nat) (v2 : Value) (n2 : Nat) (xs2 : List Value) : Prop where
  one : w.ownsRow B e size v1 n1 xs1
  two : w.ownsRow B e2 size2 v2 n2 xs2
  apart : ∀ g, v1.ownBlock = some g → v2.ownBlock ≠ some g
theorem own_below {w w' : World} {B : Nat} {e : TypeId} {size n : Nat} {v : Value} {xs : List Value} (h : w.ownsRow B e size v n xs) (hb : Below w.heap.size w w') : w'.ownsRow B e size v n xs :=
  h.kept (row := none) ⟨hb.os, hb.tape, hb.output, hb.size, fun i hi _ => hb.block i hi⟩ (by
    rcases hv : v.ownBlock with _ | g
    · exact .inl rfl
    · exact .inr (by simp))
section
variable {w w' : World} {B : Nat} {e e2 : TypeId} {size n1 size2 n2 : Nat} {v1 v2 : Value} {xs1 xs2 : List Value}
theorem below_grown {W : World} {C k : Nat} (hb : Below C W w) (hC2 : C ≤ w.heap.size) (hk : C ≤ k) (hg : w.grownBy w' (some k)) : Below C W w' :=
  hb.grown hg hC2 (fun j hj => by injection hj with hj; omega)
theorem Two.below (h : Two w B e size v1 n1 xs1 e2 size2 v2 n2 xs2) (hb : Below w.heap.size w w') : Two w' B e size v1 n1 xs1 e2 size2 v2 n2 xs2 :=
  ⟨own_below h.one hb, own_below h.two hb, h.apart⟩
theorem Two.alloc (h : Two w B e size v1 n1 xs1 e2 size2 v2 n2 xs2) (o : Obj) : Two (w.alloc o) B e size v1 n1 xs1 e2 size2 v2 n2 xs2 :=
  h.below ((Below.refl _ _).alloc (Nat.le_refl _) o)
theorem Two.more (h : Two w B e size v1 n1 xs1 e2 size2 v2 n2 xs2) {v' : Value} {m : Nat} {ys : List Value} (ho : w'.ownsRow B e size v' m ys) (hg : w.grownBy w' v1.ownBlock) (hat : v'.ownBlock = v1.ownBlock ∨ v'.ownBlock = some w.heap.size) :
    Two w' B e size v' m ys e2 size2 v2 n2 xs2 := by
  refine ⟨ho, h.two.kept hg ?_, fun g h1 h2 => ?_⟩
  · rcases hv : v2.ownBlock with _ | g
    · exact .inl rfl
    · refine .inr (fun e => h.apart g e.symm hv)
  · rcases hat with h3 | h3
    · exact h.apart g (h3.symm.trans h1) h2
    · rw [h3] at h1
      have := (h.two.lt g h2).2
      injection h1 with h1
      omega
theorem below_more {W : World} {C : Nat} (h : w.ownsRow B e size v1 n1 xs1) (hb : Below C W w) (hC : C ≤ B) (hC2 : C ≤ w.heap.size) (hg : w.grownBy w' v1.ownBlock) : Below C W w' :=
  hb.grown hg hC2 (fun k hk => Nat.le_trans hC (h.lt k hk).1)
end
structure Three (w : World) (B : Nat) (e : TypeId) (size : Nat) (v1 : Value) (n1 : Nat) (xs1 : List Value) (v2 : Value) (n2 : Nat) (xs2 : List Value) (v3 : Value) (n3 : Nat) (xs3 : List Value) : Prop where
  a : Two w B e size v1 n1 xs1 e size v2 n2 xs2
  b : Two w B e size v1 n1 xs1 e size v3 n3 xs3
  c : Two w B e size v2 n2 xs2 e size v3 n3 xs3
section
variable {w w' : World} {B : Nat} {e : TypeId} {size n1 n2 n3 : Nat} {v1 v2 v3 : Value} {xs1 xs2 xs3 : List Value}
theorem Three.below (h : Three w B e size v1 n1 xs1 v2 n2 xs2 v3 n3 xs3) (hb : Below w.heap.size w w') : Three w' B e size v1 n1 xs1 v2 n2 xs2 v3 n3 xs3 := ⟨h.a.below hb, h.b.below hb, h.c.below hb⟩
theorem Three.alloc (h : Three w B e size v1 n1 xs1 v2 n2 xs2 v3 n3 xs3) (o : Obj) : Three (w.alloc o) B e size v1 n1 xs1 v2 n2 xs2 v3 n3 xs3 := ⟨h.a.alloc o, h.b.alloc o, h.c.alloc o⟩
theorem Three.more (h : Three w B e size v1 n1 xs1 v2 n2 xs2 v3 n3 xs3) {v' : Value} {m : Nat} {ys : List Value} (ho : w'.ownsRow B e size v' m ys) (hg : w.grownBy w' v1.ownBlock) (hat : v'.ownBlock = v1.ownBlock ∨ v'.ownBlock = some w.heap.size) :
    Three w' B e size v' m ys v2 n2 xs2 v3 n3 xs3 :=
  ⟨h.a.more ho hg hat, h.b.more ho hg hat, (h.a.more ho hg hat).two, (h.b.more ho hg hat).two, h.c.apart⟩
end
theorem Reads.new1 (w : World) (t : TypeId) (size : Nat) (cs : List Value) (h : cs.length = 1 * size) : Reads (w.alloc (.cells cs.toArray t)) (w.heap.size + 1) size (some ⟨w.heap.size, 0, none⟩) 1 cs :=
  ⟨h, fun _ => ⟨_, rfl, Nat.lt_succ_self _, World.news_of_block (heap_alloc_new w _)⟩⟩
/- Limbs in memory; trim, signed. -/

def cellsU (xs : List Nat) : List Value := xs.map fun x : Nat => .int .u32 (x : Int)
theorem cellsU_length (xs : List Nat) : (cellsU xs).length = xs.length := by simp [cellsU]
theorem cellsU_get {xs : List Nat} {k : Nat} (h : k < xs.length) : (cellsU xs)[k]? = some (.int .u32 xs[k]) := by simp [cellsU, h]
theorem cellsU_take (xs : List Nat) (k : Nat) : cellsU (xs.take k) = (cellsU xs).take k := by simp [cellsU, List.map_take]
abbrev ReadsU (w : World) (B : Nat) (A : Option Addr) (xs : List Nat) : Prop := Reads w B 1 A xs.length (cellsU xs)
theorem ReadsU.get {w : World} {B : Nat} {A : Option Addr} {xs : List Nat} (h : ReadsU w B A xs) {k : Nat} (hk : k < xs.length) :
    ∃ ad, A = some ad ∧ ad.block < B ∧ w.cell? (ad.add k) = some (.int .u32 xs[k]) := by
  obtain ⟨ad, e, hb, hc⟩ := h.2 (by omega)
  exact ⟨ad, e, hb, hc k _ (cellsU_get hk)⟩
theorem ReadsU.take {w : World} {B : Nat} {A : Option Addr} {xs : List Nat} (h : ReadsU w B A xs) (k : Nat) : ReadsU w B A (xs.take k) := by
  refine ⟨by rw [cellsU_length]; simp, fun hn => ?_⟩
  obtain ⟨ad, e, hb, hc⟩ := h.2 (by simp at hn; omega)
  refine ⟨ad, e, hb, fun j u hu => hc j u ?_⟩
  rw [cellsU_take, List.getElem?_take] at hu
  split at hu
  · exact hu
  · cases hu

def lenOf : Value → Nat
  | .slice _ k _ => k
  | _ => 0

theorem exact_trim (A : Option Addr) (c : Nat) (xs : List Nat) (hx : Limbs xs) (hc : xs.length ≤ c) (hm : c ≤ 9223372036854775807) (B : Nat) (w : World) (hr : ReadsU w B A xs) :
    Calls Tryz.prog 114 #[.slice A xs.length c] w fun e w' => e = .returned (.slice A (natL (val xs)).length c) ∧ w = w' := by
  have HR := Hd hr
  have HX := Hd hx
  clear hr hx
  go_enter Tryz.func114, Tryz.ntmps114
  go_wp2_with fail
  go_loop [0] (fun v => ∃ k : Nat, v = .slice A k c ∧ k ≤ xs.length ∧ natL (val (xs.take k)) = natL (val xs)) (fun v => lenOf v)
  case atStart => exact ⟨xs.length, rfl, Nat.le_refl _, by rw [List.take_length]⟩
  case round =>
    obtain ⟨k, rfl, hk, hv⟩ := hrel
    have HV := Hd hv
    clear hv
    cases k with
    | zero =>
      go_wp2_with fail
      go_ret
      exact ⟨by rw [← HV.out]; rfl, rfl⟩
    | succ k =>
      obtain ⟨ad, rfl, -, hcell⟩ := HR.out.get (k := k) (by omega)
      by_cases h0 : xs[k] = 0
      · have HZ := Hd h0
        rw [h0] at hcell
        clear h0
        go_wp2_with fail
        go_round
        case rel => exact ⟨k, rfl, by omega, by rw [← natL_take_nought (by omega) HZ.out]; exact HV.out⟩
        case measure => simp [lenOf]
      · have hb : ((xs[k] : Int) == 0) = false := by simp; omega
        have HZ := Hd h0
        clear h0
        go_wp2_with fail
        go_ret
        refine ⟨?_, rfl⟩
        have e := HV.out
        rw [natL_val (limbs_take HX.out _) (canon_of_get (by omega) HZ.out)] at e
        rw [← e, List.length_take, Nat.min_eq_left hk]; rfl
/- signed, Of: a number's memory. -/

structure Raw (w : World) (A : Option Addr) (c : Nat) (xs : List Nat) : Prop where
  limbs : Limbs xs
  cap : xs.length ≤ c
  most : c ≤ 9223372036854775807
  reads : ReadsU w w.heap.size A xs
theorem Raw.below {w w' : World} {A : Option Addr} {c : Nat} {xs : List Nat} (h : Raw w A c xs) (hb : Below w.heap.size w w') : Raw w' A c xs :=
  ⟨h.limbs, h.cap, h.most, (h.reads.below hb).more hb.size⟩
theorem Raw.alloc {w : World} {A : Option Addr} {c : Nat} {xs : List Nat} (h : Raw w A c xs) (o : Obj) : Raw (w.alloc o) A c xs := h.below ((Below.refl _ _).alloc (Nat.le_refl _) o)

theorem exact_signed_nought (neg : Bool) (A : Option Addr) (c : Nat) (xs : List Nat) (w : World) (h : Raw w A c xs) (hv : val xs = 0) :
    Calls Tryz.prog 112 #[.bool neg, .slice A xs.length c] w fun e w' => e = .returned (.agg #[.bool false, .slice none 0 0]) ∧ Below w.heap.size w w' := by
  have C := exact_trim A c xs h.limbs h.cap h.most (w.heap.size) (w.alloc (.cells #[.bool false, .slice none 0 0] 24)) (h.reads.alloc (Nat.le_refl _) _)
  rw [hv, natL_zero, List.length_nil] at C
  have HC := Hd C
  clear C hv
  go_enter Tryz.func112, Tryz.ntmps112
  go_wp2_with (first | (go_at_call 114; with_reducible refine HC.out.mono ?_; rintro e w' ⟨rfl, rfl⟩))
  exact bodyPost_ret (by simp [results, Tryz.results112, go_sem]) rfl ⟨rfl, by repeat (first | exact Below.refl _ _ | apply Below.drew | refine Below.alloc ?_ (by simp; try omega) _)⟩

theorem exact_signed_more (neg : Bool) (A : Option Addr) (c : Nat) (xs : List Nat) (w : World) (h : Raw w A c xs) (hv : val xs ≠ 0) :
    Calls Tryz.prog 112 #[.bool neg, .slice A xs.length c] w fun e w' => e = .returned (.agg #[.bool neg, .slice A (natL (val xs)).length c]) ∧ Below w.heap.size w w' := by
  have C := exact_trim A c xs h.limbs h.cap h.most (w.heap.size) (w.alloc (.cells #[.bool false, .slice none 0 0] 24)) (h.reads.alloc (Nat.le_refl _) _)
  have hne : (natL (val xs)).length ≠ 0 := fun h0 => hv (natL_eq_nil.1 (List.eq_nil_of_length_eq_zero h0))
  have hle := natL_val_le h.limbs
  have h1 := h.cap
  have h2 := h.most
  have HC := Hd C
  clear C hv h
  generalize (natL (val xs)).length = n at *
  have hb : ((n : Int) == 0) = false := by simp; omega
  go_enter Tryz.func112, Tryz.ntmps112
  go_wp2_with (first | (go_at_call 114; with_reducible refine HC.out.mono ?_; rintro e w' ⟨rfl, rfl⟩))
  exact bodyPost_ret (by simp [results, Tryz.results112, go_sem]) rfl ⟨rfl, by repeat (first | exact Below.refl _ _ | apply Below.drew | refine Below.alloc ?_ (by simp; try omega) _)⟩

structure IntOwn (w : World) (base : Nat) (v : Value) (x : Int) : Prop where
  form : ∃ A c, v = .agg #[.bool (decide (x < 0)), .slice A (natL x.natAbs).length c] ∧ (natL x.natAbs).length ≤ c ∧ c ≤ 9223372036854775807 ∧ w.ownsRow base 70 1 (.slice A (natL x.natAbs).length c) (natL x.natAbs).length (cellsU (natL x.natAbs))

theorem IntOwn.nought (w : World) (base : Nat) : IntOwn w base (.agg #[.bool false, .slice none 0 0]) 0 :=
  ⟨none, 0, rfl, Nat.le_refl _, by omega, World.ownsRow_nil _ _ _ _⟩
theorem IntOwn.below {w w' : World} {base : Nat} {v : Value} {x : Int} (h : IntOwn w base v x) (hb : Below w.heap.size w w') : IntOwn w' base v x := by
  obtain ⟨A, c, h1, h2, h3, h4⟩ := h.form
  exact ⟨A, c, h1, h2, h3, own_below h4 hb⟩
theorem IntOwn.alloc {w : World} {base : Nat} {v : Value} {x : Int} (h : IntOwn w base v x) (o : Obj) : IntOwn (w.alloc o) base v x := h.below ((Below.refl _ _).alloc (Nat.le_refl _) o)
theorem IntOwn.raw {w : World} {base : Nat} {v : Value} {x : Int} (h : IntOwn w base v x) : ∃ A c, v = .agg #[.bool (decide (x < 0)), .slice A (natL x.natAbs).length c] ∧ Raw w A c (natL x.natAbs) := by
  obtain ⟨A, c, h1, h2, h3, h4⟩ := h.form
  exact ⟨A, c, h1, limbs_natL _, h2, h3, Reads.of_own h4⟩
theorem own_take {w : World} {base : Nat} {e : TypeId} {A : Option Addr} {n c k : Nat} {xs : List Value} (h : w.ownsRow base e 1 (.slice A n c) n xs) (hk : k ≤ n) (hk0 : k ≠ 0) : w.ownsRow base e 1 (.slice A k c) k (xs.take k) := by
  rcases h.2 with ⟨h1, h2⟩ | ⟨g, cap, cur, h1, h2, h3, h4, h5, h6, h7⟩
  · omega
  · injection h1 with a1 a2 a3
    subst a1 a3
    have hl := h.1
    refine ⟨by rw [List.length_take]; omega, .inr ⟨g, c, cur, rfl, h2, h3, by omega, h5, h6, ?_⟩⟩
    rw [← h7, List.take_take, Nat.min_eq_left (by omega), Nat.mul_one]
theorem IntOwn.signed {w : World} {base : Nat} {A : Option Addr} {c : Nat} {xs : List Nat} (hx : Limbs xs) (h : w.ownsRow base 70 1 (.slice A xs.length c) xs.length (cellsU xs)) (hc : xs.length ≤ c) (hm : c ≤ 9223372036854775807) {x : Int} {neg : Bool} (hxv : x = if neg then -(val xs : Int) else val xs) (hv : val xs ≠ 0) :
    IntOwn w base (.agg #[.bool neg, .slice A (natL (val xs)).length c]) x := by
  have ha : x.natAbs = val xs := by rw [hxv]; split <;> omega
  have hn : decide (x < 0) = neg := by rw [hxv]; cases neg <;> simp <;> omega
  have hle := natL_val_le hx
  have hne : (natL (val xs)).length ≠ 0 := fun h0 => hv (natL_eq_nil.1 (List.eq_nil_of_length_eq_zero h0))
  refine ⟨A, c, by rw [ha, hn], by rw [ha]; omega, hm, ?_⟩
  rw [ha]
  have := own_take h hle hne
  rw [← cellsU_take, ← natL_take hx] at this
  exact this
end Go.Proofs.YtkncbenhfcpgkaaGreatDoor
