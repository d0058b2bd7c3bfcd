/- Several texts in one: Words, Tuple, Chain, Free, Limbs. -/
import Derived.Below
import Derived.Laws.OwnMore
import Derived.Deep.AppendLies
import Derived.Deep.Draws
import Derived.Laws.Rows
import Derived.Maps.AppendAt
import Derived.RegionTactic
import Derived.OwnWalk
import Derived.Laws.MakeOwn
import Derived.Laws.Entries
import Derived.Deep.MidRow
set_option maxRecDepth 100000
set_option maxHeartbeats 8000000
namespace Go.Proofs.YtdonecnhdkjniaaGreatDoor
open Go.RowKit
theorem Z9 (a : Addr) (n : Nat) : (a.add n).block = a.block := by unfold Addr.add; split <;> rfl
def ZD (w : World) (B size : Nat) (A : Option Addr) (n : Nat) (xs : List Value) : Prop :=
 xs.length = n * size /\ (0 < n -> ∃ ad, A = some ad /\ ad.block < B /\ ∀ j u, xs[j]? = some u -> w.cell? (ad.add j) = some u)

section
variable {w w' : World} {B B' size n : Nat} {A : Option Addr} {xs : List Value}
theorem ZD.none_ : ZD w B size A 0 [] := ⟨by simp, fun h => absurd h (by omega)⟩
theorem ZD.at_ {k : Nat} (h : ZD w B 1 A n xs) (hk : k < n) : ∃ ad u, A = some ad /\ ad.block < B /\ xs[k]? = some u /\ w.cell? (ad.add k) = some u := by
 obtain ⟨ad, e, hb, hc⟩ := h.2 (by omega)
 have hl : k < xs.length := by have := h.1; omega
 exact ⟨ad, xs[k], e, hb, List.getElem?_eq_getElem hl, hc k _ (List.getElem?_eq_getElem hl)⟩
theorem ZD.keep (h : ZD w B size A n xs) (hk : ∀ p : Addr, p.block < B -> w'.cell? p = w.cell? p) : ZD w' B size A n xs :=
 ⟨h.1, fun hn => by
  obtain ⟨ad, e, hb, hc⟩ := h.2 hn
  exact ⟨ad, e, hb, fun j u hu => (hk _ (by rw [Z9]; exact hb)).trans (hc j u hu)⟩⟩
theorem ZD.more (h : ZD w B size A n xs) (hB : B <= B') : ZD w B' size A n xs :=
 ⟨h.1, fun hn => by
  obtain ⟨ad, e, hb, hc⟩ := h.2 hn
  exact ⟨ad, e, by omega, hc⟩⟩
theorem ZD.below (h : ZD w B size A n xs) (hb : Below B w w') : ZD w' B size A n xs := h.keep fun _ hp => hb.cell hp
theorem ZD.alloc (h : ZD w B size A n xs) (hB : B <= w.heap.size) (o : Obj) : ZD (w.alloc o) B size A n xs := h.keep fun p hp => World.cell?_alloc_lt w o p (by omega)
theorem ZD.of_own {base : Nat} {e : TypeId} {c : Nat} (h : w.ownsRow base e size (.slice A n c) n xs) : ZD w w.heap.size size A n xs := by
 refine ⟨h.1, fun hn => ?_⟩
 obtain ⟨g, cap, hv, _, hlt⟩ := h.form hn
 have hA : A = some ⟨g, 0, none⟩ := by injection hv
 subst hA
 exact ⟨_, rfl, hlt, h.cells (g := g) rfl⟩
end
def ZJ (w : World) (g : Nat) (t : TypeId) (cs : Array Value) : Prop := w.heap[g]? = some (.cells cs t (0, 0))

section
variable {w w' : World} {g : Nat} {t : TypeId} {cs : Array Value}
theorem ZJ.lt (h : ZJ w g t cs) : g < w.heap.size := by
 rcases Nat.lt_or_ge g w.heap.size with hlt | hge
 . exact hlt
 . unfold ZJ at h; rw [Array.getElem?_eq_none hge] at h; cases h
theorem ZJ.cell (h : ZJ w g t cs) (i : Nat) : w.cell? ⟨g, i, none⟩ = cs[i]? := cell_of_row w g i cs t (0, 0) h
theorem ZJ.frozen (h : ZJ w g t cs) (i : Nat) : w.frozen? ⟨g, i, none⟩ = false := by
 unfold ZJ at h
 simp [World.frozen?, h]
theorem ZJ.new (w : World) (t : TypeId) (cs : Array Value) : ZJ (w.alloc (.cells cs t)) w.heap.size t cs := heap_alloc_new w _
theorem ZJ.drew (h : ZJ w g t cs) : ZJ w.drew g t cs := h
theorem ZJ.drewN (h : ZJ w g t cs) (n : Nat) : ZJ (w.drewN n) g t cs := h
theorem ZJ.alloc (h : ZJ w g t cs) (o : Obj) : ZJ (w.alloc o) g t cs := (Below.heap_alloc w o g h.lt).trans h
theorem ZJ.set_ (h : ZJ w g t cs) (i : Nat) (u : Value) : ZJ (w.setCell ⟨g, i, none⟩ u) g t (cs.setIfInBounds i u) := by
 unfold ZJ at h ⊢
 simp [World.setCell, Array.getElem?_modify, h]
theorem ZJ.far (h : ZJ w g t cs) {p : Addr} (hp : g ≠ p.block) (u : Value) : ZJ (w.setCell p u) g t cs := (Below.heap_setCell w p u g hp).trans h
theorem ZJ.below {B : Nat} (h : ZJ w g t cs) (hb : Below B w w') (hg : g < B) : ZJ w' g t cs := (hb.block g hg).trans h
theorem ZJ.grown {row : Option Nat} (h : ZJ w g t cs) (hb : w.grownBy w' row) (hg : some g ≠ row) : ZJ w' g t cs := (hb.block g h.lt hg).trans h
theorem ZJ.ne_ {g' : Nat} {t' : TypeId} {cs' : Array Value} (h : ZJ w g t cs) (h' : ZJ w g' t' cs') (hne : t ≠ t') : g ≠ g' := by
 rintro rfl
 unfold ZJ at h h'
 rw [h] at h'
 injection h' with h'
 injection h' with _ ht
 exact hne ht
theorem Xb {base : Nat} {e : TypeId} {size n : Nat} {v : Value} {xs : List Value} (h : w.ownsRow base e size v n xs) (hg : ZJ w g t cs) (hne : e ≠ t) : v.ownBlock ≠ some g := by
 rcases h.2 with ⟨rfl, _⟩ | ⟨g', cap, cur, rfl, _, hh, _⟩
 . simp [Value.ownBlock]
 . intro he
   have : g' = g := by simpa [Value.ownBlock] using he
   subst this
   exact ZJ.ne_ (t := e) hh hg hne rfl
end
section
variable {P : Program} (w : World)

theorem JW (base : Nat) (t ty e : TypeId) (i : TypeInfo) (size : Nat) (ht : P.underlying t = some (.slice e)) (hi : P.info? e = some i)
   (v : Value) (n : Nat) (xs : List Value) (hown : w.ownsRow base e size v n xs) (c : Nat) : (Builtin.append_ #[t, t] ty #[v, .slice none 0 c]).run P w = .ok v w := by
 rcases hown.2 with ⟨rfl, rfl⟩ | ⟨g, cap, cur, rfl, _, _, hnc, _⟩
 . simp [Builtin.append_, run_underlying ht, sizeOf, typeInfo, hi, Builtin.lenOf, Builtin.firstCells]
 . simp [Builtin.append_, run_underlying ht, sizeOf, typeInfo, hi, Builtin.lenOf, Builtin.firstCells, hnc, storeCells]

theorem run_append_any (base : Nat) (t ty e : TypeId) (i : TypeInfo) (z : Value) (size bytes : Nat) (ht : P.underlying t = some (.slice e)) (hi : P.info? e = some i) (hz : i.zero = some z)
   (hsize : i.size = size) (hby : i.bytes = bytes) (hzs : z.cells.size = size) (hsz : 0 < size)
   (v : Value) (n : Nat) (xs : List Value) (hown : w.ownsRow base e size v n xs)
   (B : Nat) (A : Option Addr) (m c : Nat) (news : List Value) (hr : ZD w B size A m news) (h1 : ∀ u ∈ news, u.oneCell' = true)
   (h63 : n + m <= maxLen) (hbytes : (n + m) * bytes <= 140737488355328) (hbase : base <= w.heap.size) :
   ∃ v' w', (Builtin.append_ #[t, t] ty #[v, .slice A m c]).run P w = .ok v' w' /\ w'.ownsRow base e size v' (n + m) (xs ++ news) /\ w.grownBy w' v.ownBlock /\
    (v'.ownBlock = v.ownBlock ∨ v'.ownBlock = some w.heap.size) := by
 rcases A with _ | ad
 . have hm : m = 0 := by
    rcases Nat.eq_zero_or_pos m with h0 | h0
    . exact h0
    . obtain ⟨ad, h, _⟩ := hr.2 h0
      cases h
   subst hm
   have hn : news = [] := List.eq_nil_of_length_eq_zero (by simpa using hr.1)
   subst hn
   exact ⟨v, w, JW w base t ty e i size ht hi v n xs hown c, by simpa using hown, World.grownBy.refl w _, .inl rfl⟩
 . have hcells : ∀ j u, news[j]? = some u -> w.cell? (ad.add j) = some u := by
    intro j u hu
    rcases Nat.eq_zero_or_pos m with h0 | h0
    . subst h0
      have hn : news = [] := List.eq_nil_of_length_eq_zero (by simpa using hr.1)
      subst hn
      simp at hu
    . obtain ⟨ad', h, _, hc⟩ := hr.2 h0
      injection h with h
      subst h
      exact hc j u hu
   obtain ⟨v', w', hrun, h2, h3, _, h5⟩ := run_append_own_at (P := P) w base t ty e i z size bytes ht hi hz hsize hby hzs hsz v n xs hown ad m c news hr.1 hcells h1 h63 hbytes hbase
   exact ⟨v', w', hrun, h2, h3, h5⟩

theorem wp_append_any {o : Oper} {a : Act} {K : Act -> World -> Prop} {Q : Exit -> Act -> World -> Prop} (s x : Operand) (t : TypeId)
  (ho : o.op = .call { callee := .builtin .append, args := #[s, x], argTypes := #[t, t] })
  (base : Nat) (e : TypeId) (i : TypeInfo) (z : Value) (size bytes : Nat) (ht : P.underlying t = some (.slice e)) (hi : P.info? e = some i) (hz : i.zero = some z)
  (hsize : i.size = size) (hby : i.bytes = bytes) (hzs : z.cells.size = size) (hsz : 0 < size)
  (v : Value) (n : Nat) (xs : List Value) (hs : a.eval s = v) (hown : w.ownsRow base e size v n xs)
  (B : Nat) (A : Option Addr) (m c : Nat) (news : List Value) (hx : a.eval x = .slice A m c) (hr : ZD w B size A m news) (h1 : ∀ u ∈ news, u.oneCell' = true)
  (h63 : n + m <= maxLen) (hbytes : (n + m) * bytes <= 140737488355328) (hbase : base <= w.heap.size)
  (h : ∀ v' w', w'.ownsRow base e size v' (n + m) (xs ++ news) -> w.grownBy w' v.ownBlock -> (v'.ownBlock = v.ownBlock ∨ v'.ownBlock = some w.heap.size) -> K (a.put o.dst v') w') : o.wp P a w K Q := by
 obtain ⟨v', w', hrun, h2, h3, h4⟩ := run_append_any (P := P) w base t o.type e i z size bytes ht hi hz hsize hby hzs hsz v n xs hown B A m c news hr h1 h63 hbytes hbase
 unfold Oper.wp execOp
 simp only [ho, resolve, invoke, builtin, Sem.run_bind, Sem.run_pure, Result.andThen_ok, List.map_toArray, List.map_cons, List.map_nil, hs, hx, hrun]
 exact h v' w' h2 h3 h4

theorem Zw {ops : Array Oper} {rest : List Oper} {o : Oper} {a : Act} {Q : Exit -> Act -> World -> Prop} (hgd : o.guard = none) (s x : Operand) (t : TypeId)
  (ho : o.op = .call { callee := .builtin .append, args := #[s, x], argTypes := #[t, t] })
  (base : Nat) (e : TypeId) (i : TypeInfo) (z : Value) (size bytes : Nat) (ht : P.underlying t = some (.slice e)) (hi : P.info? e = some i) (hz : i.zero = some z)
  (hsize : i.size = size) (hby : i.bytes = bytes) (hzs : z.cells.size = size) (hsz : 0 < size)
  (v : Value) (n : Nat) (xs : List Value) (hs : a.eval s = v) (hown : w.ownsRow base e size v n xs)
  (B : Nat) (A : Option Addr) (m c : Nat) (news : List Value) (hx : a.eval x = .slice A m c) (hr : ZD w B size A m news) (h1 : ∀ u ∈ news, u.oneCell' = true)
  (h63 : n + m <= maxLen) (hbytes : (n + m) * bytes <= 140737488355328) (hbase : base <= w.heap.size)
  (h : ∀ v' w', w'.ownsRow base e size v' (n + m) (xs ++ news) -> w.grownBy w' v.ownBlock -> (v'.ownBlock = v.ownBlock ∨ v'.ownBlock = some w.heap.size) -> wpList P ops Q rest (a.put o.dst v') w') : wpList P ops Q (o :: rest) a w :=
 wpList_plain hgd fun _ hK => wp_append_any w s x t ho base e i z size bytes ht hi hz hsize hby hzs hsz v n xs hs hown B A m c news hx hr h1 h63 hbytes hbase fun v' w' h2 h3 h4 => hK _ _ (h v' w' h2 h3 h4)

end

theorem Ye {P : Program} (t e : TypeId) (i : TypeInfo) (z : Value) (ht : P.underlying t = some (.slice e)) (hi : P.info? e = some i) (hz : i.zero = some z)
  (kl kc : IntKind) (n c : Nat) (hnc : n <= c) (hbytes : i.bytes * c <= 281474976710656) (h63 : c <= 9223372036854775807) (w : World) :
  (Instr.makeSlice t (.int kl (n : Int)) (.int kc (c : Int))).run P w = .ok (.slice (some ⟨w.heap.size, 0, none⟩) n c) (w.alloc (.cells (madeCells z.cells (c * i.size)) e)) := by
 have hb : (i.bytes : Int) * (c : Int) <= 281474976710656 := by
  have h : ((i.bytes * c : Nat) : Int) <= 281474976710656 := by omega
  rwa [Int.natCast_mul] at h
 have hr := run_make (P := P) w t e i z ht hi hz kl kc n c (by omega) (by omega) hb (by omega)
 simp only [Int.toNat_natCast] at hr
 exact hr
theorem step_append_fits {P : Program} (w : World) {ops : Array Oper} {o : Oper} {a : Act} {K : Act -> World -> Prop} {Q : Exit -> Act -> World -> Prop} {E : Prop} (hgd : o.guard = none) (s x : Operand) (t : TypeId)
  (ho : o.op = .call { callee := .builtin .append, args := #[s, x], argTypes := #[t, t] })
  (base : Nat) (e : TypeId) (i : TypeInfo) (size : Nat) (h1 : P.underlying t = some (.slice e)) (h2 : P.info? e = some i) (h4 : i.size = size)
  (g k cap : Nat) (xs : List Value) (hs : a.eval s = .slice (some ⟨g, 0, none⟩) k cap) (hown : w.ownsRow base e size (.slice (some ⟨g, 0, none⟩) k cap) k xs)
  (ad : Addr) (m c : Nat) (news : List Value) (hx : a.eval x = .slice (some ad) m c) (hn : news.length = m * size)
  (hc : ∀ j u, news[j]? = some u -> w.cell? (ad.add j) = some u) (h1c : ∀ u ∈ news, u.oneCell' = true) (b1 : k + m <= cap)
  (hK : ∀ w', w'.ownsRow base e size (.slice (some ⟨g, 0, none⟩) (k + m) cap) (k + m) (xs ++ news) -> w.grownBy w' (some g) -> K (a.put o.dst (.slice (some ⟨g, 0, none⟩) (k + m) cap)) w') :
  if Region.wanted o (yielded ops a.tmps) = true then Oper.wp P o a w K Q else E := by
 have hw : Region.wanted o (yielded ops a.tmps) = true := by simp [Region.wanted, hgd]
 rw [if_pos hw]
 obtain ⟨w', hrun, r1, r2⟩ := run_append_fits (P := P) w base t o.type e i size h1 h2 h4 g k cap xs hown ad m c news hn hc h1c b1
 unfold Oper.wp
 simp [execOp, ho, resolve, invoke, builtin, hs, hx, hrun, Result.andThen]
 exact hK w' r1 r2
theorem J7 {P : Program} (w : World) {ops : Array Oper} {rest : List Oper} {o : Oper} {a : Act} {Q : Exit -> Act -> World -> Prop}
   (hg : o.guard = none) (s x : Operand) (t : TypeId) (hop : o.op = Op.call { callee := Callee.builtin Builtin.append, args := #[s, x], argTypes := #[t, t] })
   (base : Nat) (e : TypeId) (i : TypeInfo) (size : Nat) (h1 : P.underlying t = some (.slice e)) (h2 : P.info? e = some i) (h4 : i.size = size)
   (g k cap : Nat) (xs : List Value) (hs : a.eval s = .slice (some ⟨g, 0, none⟩) k cap) (hown : w.ownsRow base e size (.slice (some ⟨g, 0, none⟩) k cap) k xs)
   (B : Nat) (A : Option Addr) (m c : Nat) (news : List Value) (hx : a.eval x = .slice A m c) (hr : ZD w B size A m news) (h1c : ∀ u ∈ news, u.oneCell' = true) (b1 : k + m <= cap)
   (hK : ∀ w', w'.ownsRow base e size (.slice (some ⟨g, 0, none⟩) (k + m) cap) (k + m) (xs ++ news) -> w.grownBy w' (some g) -> wpList P ops Q rest (a.put o.dst (.slice (some ⟨g, 0, none⟩) (k + m) cap)) w') :
   wpList P ops Q (o :: rest) a w := by
 rcases Nat.eq_zero_or_pos m with hm | hm
 . subst hm
   have hn : news = [] := List.eq_nil_of_length_eq_zero (by simpa using hr.1)
   subst hn
   rcases A with _ | ad
   . refine wpList_plain hg fun K hK' => ?_
     have hrun := JW (P := P) w base t o.type e i size h1 h2 (.slice (some ⟨g, 0, none⟩) k cap) k xs hown c
     unfold Oper.wp
     simp [execOp, hop, resolve, invoke, builtin, hs, hx, hrun, Result.andThen]
     refine hK' _ _ ?_
     have := hK w (by simpa using hown) (World.grownBy.refl w _)
     simpa using this
   . exact wpList_append_fits w hg s x t hop base e i size h1 h2 h4 g k cap xs hs hown ad 0 c [] hx (by simp) (by simp) (by simp) b1 hK
 . obtain ⟨ad, rfl, _, hc⟩ := hr.2 hm
   exact wpList_append_fits w hg s x t hop base e i size h1 h2 h4 g k cap xs hs hown ad m c news hx hr.1 hc h1c b1 hK
section
variable {w w' : World} {g g' : Nat} {t : TypeId} {cs : Array Value}
theorem ZJ.store4 (h : ZJ w g t cs) (hs : cs.size = 4) (a b c d : Value) : ZJ ((((w.setCell ⟨g, 0, none⟩ a).setCell ⟨g, 1, none⟩ b).setCell ⟨g, 2, none⟩ c).setCell ⟨g, 3, none⟩ d) g t #[a, b, c, d] := by
 have k := (((h.set_ 0 a).set_ 1 b).set_ 2 c).set_ 3 d
 have e : (((cs.setIfInBounds 0 a).setIfInBounds 1 b).setIfInBounds 2 c).setIfInBounds 3 d = #[a, b, c, d] := by
  obtain ⟨l⟩ := cs
  match l, hs with
  | [x0, x1, x2, x3], _ => rfl
 rwa [e] at k
theorem YR {W : World} {B : Nat} (h : Below B W w) (hg : B <= g) (a b c d : Value) : Below B W ((((w.setCell ⟨g, 0, none⟩ a).setCell ⟨g, 1, none⟩ b).setCell ⟨g, 2, none⟩ c).setCell ⟨g, 3, none⟩ d) :=
 (((h.setCell (p := ⟨g, 0, none⟩) hg a).setCell (p := ⟨g, 1, none⟩) hg b).setCell (p := ⟨g, 2, none⟩) hg c).setCell (p := ⟨g, 3, none⟩) hg d
theorem ZJ.far2 (h : ZJ w g t cs) (hn : g ≠ g') (a b : Value) : ZJ ((w.setCell ⟨g', 0, none⟩ a).setCell ⟨g', 1, none⟩ b) g t cs :=
 (h.far (p := ⟨g', 0, none⟩) hn a).far (p := ⟨g', 1, none⟩) hn b
theorem ZJ.store2 (h : ZJ w g t cs) (hs : cs.size = 2) (a b : Value) : ZJ ((w.setCell ⟨g, 0, none⟩ a).setCell ⟨g, 1, none⟩ b) g t #[a, b] := by
 have k := (h.set_ 0 a).set_ 1 b
 have e : (cs.setIfInBounds 0 a).setIfInBounds 1 b = #[a, b] := by
  obtain ⟨l⟩ := cs
  match l, hs with
  | [x0, x1], _ => rfl
 rwa [e] at k
theorem ZW {W : World} {B : Nat} (h : Below B W w) (hg : B <= g) (a b : Value) : Below B W ((w.setCell ⟨g, 0, none⟩ a).setCell ⟨g, 1, none⟩ b) :=
 (h.setCell (p := ⟨g, 0, none⟩) hg a).setCell (p := ⟨g, 1, none⟩) hg b
structure Zr (w : World) (g : Nat) (t : TypeId) (a b : Value) : Prop where
 blk : ZJ w g t #[a, b]
theorem Zr.new (w : World) (t : TypeId) (a b : Value) : Zr (w.alloc (.cells #[a, b] t)) w.heap.size t a b := ⟨ZJ.new w t #[a, b]⟩
theorem Zr.alloc {a b : Value} (h : Zr w g t a b) (o : Obj) : Zr (w.alloc o) g t a b := ⟨h.blk.alloc o⟩
theorem Zr.below {a b : Value} (h : Zr w g t a b) (hb : Below w.heap.size w w') : Zr w' g t a b := ⟨h.blk.below hb h.blk.lt⟩
theorem Zr.drew {a b : Value} (h : Zr w g t a b) : Zr w.drew g t a b := ⟨h.blk.drew⟩
theorem Zr.facts {a b : Value} (h : Zr w g t a b) : g < w.heap.size /\ w.cell? ⟨g, 0, none⟩ = some a /\ w.cell? ⟨g, 1, none⟩ = some b /\ w.frozen? ⟨g, 0, none⟩ = false /\ w.frozen? ⟨g, 1, none⟩ = false :=
 ⟨h.blk.lt, h.blk.cell 0, h.blk.cell 1, h.blk.frozen 0, h.blk.frozen 1⟩
theorem Zr.grown {a b : Value} {row : Option Nat} (h : Zr w g t a b) (hb : w.grownBy w' row) (hg : some g ≠ row) : Zr w' g t a b := ⟨h.blk.grown hb hg⟩
theorem Zr.store {a b : Value} (h : Zr w g t a b) (c d : Value) : Zr ((w.setCell ⟨g, 0, none⟩ c).setCell ⟨g, 1, none⟩ d) g t c d := ⟨h.blk.store2 rfl c d⟩
theorem Zr.far {a b : Value} (h : Zr w g t a b) (hn : g ≠ g') (c d : Value) : Zr ((w.setCell ⟨g', 0, none⟩ c).setCell ⟨g', 1, none⟩ d) g t a b := ⟨h.blk.far2 hn c d⟩
theorem ZT {W : World} {B : Nat} (h : Below B W w) (n : Nat) : Below B W (w.drewN n) := ⟨h.os, h.tape, h.output, h.size, h.block⟩
theorem Zb {W a b : World} (h : Below W.heap.size W a) (k : Below a.heap.size a b) : Below W.heap.size W b := h.trans (k.mono h.size)
end
theorem add_more (a : Addr) (i j : Nat) (hj : j ≠ 0) : a.add (i + j) = ⟨(a.add i).block, (a.add i).off + j, none⟩ := by
 unfold Addr.add
 rw [if_neg (by omega)]
 by_cases hi : i = 0
 . subst hi; simp
 . rw [if_neg hi]; simp [Nat.add_assoc]
theorem ZD.row4 {w : World} {B n k : Nat} {A : Option Addr} {xs : List Value} {a b c d : Value} (h : ZD w B 4 A n xs) (hk : k < n) (h0 : xs[k * 4]? = some a) (h1 : xs[k * 4 + 1]? = some b) (h2 : xs[k * 4 + 2]? = some c) (h3 : xs[k * 4 + 3]? = some d) :
   ∃ ad : Addr, A = some ad /\ ad.block < B /\ w.cell? (ad.add (k * 4)) = some a /\ w.cell? ⟨(ad.add (k * 4)).block, (ad.add (k * 4)).off + 1, none⟩ = some b /\ w.cell? ⟨(ad.add (k * 4)).block, (ad.add (k * 4)).off + 2, none⟩ = some c /\ w.cell? ⟨(ad.add (k * 4)).block, (ad.add (k * 4)).off + 3, none⟩ = some d := by
 obtain ⟨ad, e, hb, hc⟩ := h.2 (by omega)
 refine ⟨ad, e, hb, hc _ _ h0, ?_, ?_, ?_⟩
 . rw [<- add_more _ _ 1 (by omega)]; exact hc _ _ h1
 . rw [<- add_more _ _ 2 (by omega)]; exact hc _ _ h2
 . rw [<- add_more _ _ 3 (by omega)]; exact hc _ _ h3
theorem Xh {w : World} {base : Nat} {e : TypeId} {size n : Nat} {v : Value} {xs : List Value} (hs : 0 < size) (h : w.ownsRow base e size v n xs) : ∃ A c, v = .slice A n c := by
 rcases h.2 with ⟨h1, h2⟩ | ⟨g, cap, cur, h1, _⟩
 . have hl := h.1
   rw [h2] at hl
   rcases Nat.eq_zero_or_pos n with hn | hn
   . subst hn; exact ⟨none, 0, h1⟩
   . have := Nat.mul_pos hn hs; simp at hl; omega
 . exact ⟨_, _, h1⟩
structure Two (w : World) (B : Nat) (e : TypeId) (size : Nat) (v1 : Value) (n1 : Nat) (xs1 : List Value) (e2 : TypeId) (size2 : Nat) (v2 : Value) (n2 : Nat) (xs2 : List Value) : Prop where
 one : w.ownsRow B e size v1 n1 xs1
 two : w.ownsRow B e2 size2 v2 n2 xs2
 apart : ∀ g, v1.ownBlock = some g -> v2.ownBlock ≠ some g
theorem Zt {w w' : World} {B : Nat} {e : TypeId} {size n : Nat} {v : Value} {xs : List Value} (h : w.ownsRow B e size v n xs) (hb : Below w.heap.size w w') : w'.ownsRow B e size v n xs :=
 h.kept (row := none) ⟨hb.os, hb.tape, hb.output, hb.size, fun i hi _ => hb.block i hi⟩ (by
  rcases hv : v.ownBlock with _ | g
  . exact .inl rfl
  . exact .inr (by simp))
section
variable {w w' : World} {B : Nat} {e e2 : TypeId} {size n1 size2 n2 : Nat} {v1 v2 : Value} {xs1 xs2 : List Value}
theorem below_grown {W : World} {C k : Nat} (hb : Below C W w) (hC2 : C <= w.heap.size) (hk : C <= k) (hg : w.grownBy w' (some k)) : Below C W w' :=
 hb.grown hg hC2 (fun j hj => by injection hj with hj; omega)
theorem Xd {W : World} {C : Nat} (h : w.ownsRow B e size v1 n1 xs1) (hb : Below C W w) (hC : C <= B) (hC2 : C <= w.heap.size) (hg : w.grownBy w' v1.ownBlock) : Below C W w' :=
 hb.grown hg hC2 (fun k hk => Nat.le_trans hC (h.lt k hk).1)
end
structure Three (w : World) (B : Nat) (e : TypeId) (size : Nat) (v1 : Value) (n1 : Nat) (xs1 : List Value) (v2 : Value) (n2 : Nat) (xs2 : List Value) (v3 : Value) (n3 : Nat) (xs3 : List Value) : Prop where
 a : Two w B e size v1 n1 xs1 e size v2 n2 xs2
 b : Two w B e size v1 n1 xs1 e size v3 n3 xs3
 c : Two w B e size v2 n2 xs2 e size v3 n3 xs3
section
variable {w w' : World} {B : Nat} {e : TypeId} {size n1 n2 n3 : Nat} {v1 v2 v3 : Value} {xs1 xs2 xs3 : List Value}
end
theorem ZD.new1 (w : World) (t : TypeId) (size : Nat) (cs : List Value) (h : cs.length = 1 * size) : ZD (w.alloc (.cells cs.toArray t)) (w.heap.size + 1) size (some ⟨w.heap.size, 0, none⟩) 1 cs :=
 ⟨h, fun _ => ⟨_, rfl, Nat.lt_succ_self _, World.news_of_block (heap_alloc_new w _)⟩⟩

section
variable {P : Program} {ops : Array Oper} {Q : Exit -> Act -> World -> Prop}

def XT (n : Nat) (L : Array Bool) : Nat := ((List.range n).filter fun i => !L.getD i false).length
theorem unlisted_zero {n : Nat} {L : Array Bool} (h : XT n L = 0) (i : Nat) (hi : i < n) : L.getD i false = true := by
 unfold XT at h
 rw [List.length_eq_zero_iff, List.filter_eq_nil_iff] at h
 have := h i (List.mem_range.2 hi)
 simpa using this
theorem filter_less {α : Type} (l : List α) (p q : α -> Bool) (hpq : ∀ x ∈ l, q x = true -> p x = true) (x : α) (hx : x ∈ l) (hp : p x = true) (hq : q x = false) : (l.filter q).length < (l.filter p).length := by
 induction l with
 | nil => cases hx
 | cons y l ih =>
  have hle : (l.filter q).length <= (l.filter p).length := by
    clear ih hx
    induction l with
    | nil => simp
    | cons z l ih2 =>
      have h2 := ih2 (fun a ha hqa => hpq a (by simp at ha ⊢; rcases ha with h | h <;> simp [h]) hqa)
      have hz := hpq z (by simp)
      simp only [List.filter_cons]
      by_cases h1 : q z = true
      . rw [if_pos h1, if_pos (hz h1)]; simpa using h2
      . rw [if_neg h1]; split <;> simp <;> omega
  simp only [List.filter_cons]
  rcases List.mem_cons.1 hx with rfl | hx
  . rw [if_neg (by simp [hq]), if_pos hp]; simp; omega
  . have h2 := ih (fun a ha => hpq a (by simp [ha])) hx
    by_cases h1 : q y = true
    . rw [if_pos h1, if_pos (hpq y (by simp) h1)]; simpa using h2
    . rw [if_neg h1]; split <;> simp <;> omega
theorem unlisted_set {n i : Nat} {L : Array Bool} (hi : i < n) (hs : L.size = n) (h : L.getD i true = false) : XT n (L.setIfInBounds i true) < XT n L := by
 unfold XT
 have hl : i < L.size := by omega
 refine filter_less _ _ _ (fun x _ hx => ?_) i (List.mem_range.2 hi) ?_ ?_
 . simp only [Bool.not_eq_true'] at hx ⊢
   cases hb : L.getD x false with
   | false => rfl
   | true => rw [getD_set_true hb] at hx; cases hx
 . simp [hl] at h ⊢; exact h
 . simp [hl]

theorem wpAny_inv (I : Array Bool -> Act -> World -> Prop) (hback : (ops.toList.zipIdx.all fun (o, i) => o.after.all fun e => decide (e.on < i)) = true) (hguard : (ops.all fun o => o.guard.isNone) = true)
  (hstep : ∀ L a w, I L a w -> ∀ i o, ops[i]? = some o -> L.size = ops.size -> L.getD i true = false -> (∀ e ∈ o.after, Region.binds .any e = true -> L.getD e.on false = true) -> o.wp P a w (I (L.setIfInBounds i true)) Q)
  (hend : ∀ L a w, I L a w -> (∀ i, i < ops.size -> L.getD i false = true) -> Q .normal a w) :
  ∀ (fuel : Nat) (L : Array Bool) (a : Act) (w : World), L.size = ops.size -> XT ops.size L <= fuel -> I L a w -> wpAny P .any ops Q fuel L a w := by
 have hall : ∀ L : Array Bool, L.size = ops.size -> Region.ready .any ops L = [] -> ∀ i, i < ops.size -> L.getD i false = true := fun L hs hr i => by
  induction i using Nat.strongRecOn with
  | _ i ih =>
   intro hi
   cases hb : L.getD i false with
   | true => rfl
   | false =>
    exfalso
    have hmem : i ∈ Region.ready .any ops L := by
     rw [mem_ready]
     have hl : i < L.size := by omega
     refine ⟨by simp [hl] at hb ⊢; exact hb, ops[i], Array.getElem?_eq_getElem hi, fun e he _ => ?_⟩
     have h1 := List.all_eq_true.1 hback (ops[i], i) (by
      rw [List.mem_zipIdx_iff_getElem?]; simp [hi])
     simp only [Array.all_eq_true_iff_forall_mem] at h1
     have h2 := of_decide_eq_true (h1 e he)
     exact ih e.on h2 (by omega)
    rw [hr] at hmem; cases hmem
 intro fuel
 induction fuel with
 | zero =>
  intro L a w hs hu hI
  have h0 := unlisted_zero (Nat.le_zero.1 hu)
  refine ⟨?_, hend L a w hI h0⟩
  cases hr : Region.ready .any ops L with
  | nil => rfl
  | cons i rest =>
   have hm : i ∈ Region.ready .any ops L := by rw [hr]; simp
   obtain ⟨h1, o, ho, _⟩ := mem_ready.1 hm
   have hi : i < ops.size := (Array.getElem?_eq_some_iff.1 ho).1
   have h2 := h0 i hi
   have hl : i < L.size := by omega
   simp [hl] at h1 h2
   rw [h1] at h2; cases h2
 | succ fuel ih =>
  intro L a w hs hu hI
  refine ⟨fun hr => hend L a w hI (hall L hs hr), fun i hi => ?_⟩
  obtain ⟨h1, o, ho, hp⟩ := mem_ready.1 hi
  have hlt : i < ops.size := (Array.getElem?_eq_some_iff.1 ho).1
  have hg : o.guard = none := by
   have := Array.all_eq_true_iff_forall_mem.1 hguard o (Array.mem_of_getElem? ho)
   simpa using this
  unfold wpOp
  simp only [ho]
  have hw : Region.wanted o (yielded ops a.tmps) = true := by simp [Region.wanted, hg]
  rw [if_pos hw]
  refine .inl (Oper.wp_mono (fun a' w' h' => ih _ a' w' (by simp [hs]) ?_ h') (hstep L a w hI i o ho hs h1 hp))
  have := unlisted_set hlt hs h1
  omega

def ZF (t : Array Value) (l : List (Nat × Value)) : Array Value := l.foldl (fun t p => t.setIfInBounds p.1 p.2) t
theorem Kn (l : List (Nat × Value)) : ∀ t : Array Value, (ZF t l).size = t.size := by
 induction l with
 | nil => intro t; rfl
 | cons p l ih => intro t; show (ZF _ l).size = _; rw [ih]; simp
theorem fill_other (l : List (Nat × Value)) (d : Nat) : ∀ t : Array Value, (∀ p ∈ l, p.1 ≠ d) -> (ZF t l)[d]? = t[d]? := by
 induction l with
 | nil => intro t _; rfl
 | cons p l ih =>
  intro t h
  show (ZF _ l)[d]? = _
  rw [ih _ (fun q hq => h q (by simp [hq])), Array.getElem?_setIfInBounds_ne (h p (by simp))]
theorem fill_at (l : List (Nat × Value)) (hd : (l.map (·.1)).Nodup) (d : Nat) (v : Value) : ∀ t : Array Value, d < t.size -> (d, v) ∈ l -> (ZF t l)[d]? = some v := by
 induction l with
 | nil => intro t _ h; cases h
 | cons p l ih =>
  intro t ht h
  simp only [List.map_cons, List.nodup_cons] at hd
  show (ZF _ l)[d]? = _
  rcases List.mem_cons.1 h with rfl | h
  . rw [fill_other _ _ _ (fun q hq e => hd.1 (by simp only [List.mem_map]; exact ⟨q, hq, e⟩))]
    simp [ht]
  . exact ih hd.2 _ (by simpa using ht) h
theorem fill_unique (l : List (Nat × Value)) (hd : (l.map (·.1)).Nodup) (t u : Array Value) (hs : u.size = t.size) (ho : ∀ d, (∀ p ∈ l, p.1 ≠ d) -> u[d]? = t[d]?) (ha : ∀ p ∈ l, p.1 < t.size -> u[p.1]? = some p.2) : u = ZF t l := by
 apply Array.ext_getElem?
 intro d
 by_cases h : ∃ p ∈ l, p.1 = d
 . obtain ⟨p, hp, rfl⟩ := h
   by_cases hl : p.1 < t.size
   . rw [ha p hp hl, fill_at l hd p.1 p.2 t hl hp]
   . rw [Array.getElem?_eq_none (by omega), Array.getElem?_eq_none (by rw [Kn]; omega)]
 . have h' : ∀ p ∈ l, p.1 ≠ d := fun p hp e => h ⟨p, hp, e⟩
   rw [ho d h', fill_other l d t h']

inductive Cls where
 | val (v : Value)
 | new (T : TypeId) (n : Nat)
 | put (ia ic : Nat) (l : Array Value)
 | old (x b : Nat) (T : TypeId) (ic : Nat) (l : Array Value)

def Cls.of (c : Cls) (b : Nat) : Value := match c with
 | .val v => v
 | .new _ _ => .pointer (some ⟨b, 0, none⟩)
 | .put _ _ _ => undef
 | .old _ _ _ _ _ => undef
def Zn (ops : Array Oper) (f : Nat -> Option Value) : List (Nat × Value) := ops.toList.zipIdx.filterMap fun (o, i) => match o.dst, f i with
 | some d, some v => some (d, v)
 | _, _ => none
def isVal (cls : Nat -> Cls) (i : Nat) : Option Value := match cls i with
 | .val v => some v
 | _ => none
def readsOk (ops : Array Oper) (cls : Nat -> Cls) : Bool := ops.toList.zipIdx.all fun (o, i) => match cls i with
 | .val _ => (match o.op with | .select _ _ => false | _ => true) && o.dst.isSome && o.op.operands.all fun x => match x with
  | .tmp t => (ops.all fun o' => o'.dst != some t) || o.after.any fun e => Region.binds .any e && ((isVal cls e.on).isSome && ((ops[e.on]?).bind (·.dst) == some t))
  | _ => true
 | _ => true

theorem upon_swap {o : Oper} {a1 a2 : Act} {v : Value} {R : World -> Prop} {d : Nat} (hd : o.dst = some d) (hl : d < a1.tmps.size) {r : Result Next}
  (h : o.upon P a1 (fun a' w' => a' = a1.put o.dst v /\ R w') (fun _ _ _ => False) r) : o.upon P a2 (fun a' w' => a' = a2.put o.dst v /\ R w') Q r := by
 have key : ∀ u : Value, a1.put o.dst u = a1.put o.dst v -> u = v := fun u e => by
  rw [hd] at e
  have := congrArg (fun a : Act => a.tmps[d]?) e
  simpa [Act.put, hl] using this
 cases r with
 | ok n w' =>
  cases n <;> simp only [Oper.upon] at h ⊢
  case value u => obtain ⟨e, hr⟩ := h; rw [key _ e]; exact ⟨rfl, hr⟩
  case skip => obtain ⟨e, hr⟩ := h; rw [key _ e]; exact ⟨rfl, hr⟩
  case defer dd =>
   obtain ⟨e, _⟩ := h
   have := congrArg (fun a : Act => a.defers.length) e
   rw [hd] at this
   simp [Act.put] at this
  case enter f args =>
   refine Calls.mono h fun e w'' he => ?_
   cases e with
   | returned u => obtain ⟨e, hr⟩ := he; rw [key _ e]; exact ⟨rfl, hr⟩
   | panicked c => exact he.elim
   | outgrown => obtain ⟨_, _, hf⟩ := he; exact hf.elim
  case row row args => exact Rows.mono h fun u w'' he => by obtain ⟨e, hr⟩ := he; rw [key _ e]; exact ⟨rfl, hr⟩
 | halt x w' => cases x <;> simp only [Oper.upon] at h ⊢

def Yd (cs : Array Value) : Nat -> List Value -> Array Value
 | _, [] => cs
 | o, v :: r => Yd (cs.setIfInBounds o v) (o + 1) r
theorem setAll_size : ∀ (l : List Value) (cs : Array Value) (o : Nat), (Yd cs o l).size = cs.size
 | [], _, _ => rfl
 | _ :: r, cs, o => by rw [Yd, setAll_size r]; simp
theorem setAll_before : ∀ (l : List Value) (cs : Array Value) (o j : Nat), j < o -> (Yd cs o l)[j]? = cs[j]?
 | [], _, _, _, _ => rfl
 | v :: r, cs, o, j, h => by rw [Yd, setAll_before r _ _ _ (by omega), Array.getElem?_setIfInBounds_ne (by omega)]
theorem setAll_in : ∀ (l : List Value) (cs : Array Value) (o j : Nat), o <= j -> j < o + l.length -> j < cs.size -> (Yd cs o l)[j]? = l[j - o]?
 | [], _, o, j, h1, h2, _ => by simp at h2; omega
 | v :: r, cs, o, j, h1, h2, h3 => by
  rw [Yd]
  by_cases e : j = o
  . subst e; rw [setAll_before r _ _ _ (by omega)]; simp [h3]
  . rw [setAll_in r _ _ _ (by omega) (by simp at h2; omega) (by simpa using h3), show j - o = (j - (o + 1)) + 1 by omega, List.getElem?_cons_succ]
theorem setAll_all (l : Array Value) (cs : Array Value) (h : cs.size = l.size) : Yd cs 0 l.toList = l := by
 apply Array.ext_getElem?
 intro j
 by_cases hj : j < l.size
 . rw [setAll_in _ _ _ _ (Nat.zero_le _) (by simpa using hj) (by omega)]; simp
 . rw [Array.getElem?_eq_none (by rw [setAll_size]; omega), Array.getElem?_eq_none (by omega)]
theorem ZJ.setCells {b : Nat} {T : TypeId} : ∀ (vs : List Value) (o : Nat) (w : World) (cs : Array Value), ZJ w b T cs -> ZJ (w.setCells b o vs) b T (Yd cs o vs)
 | [], _, _, _, h => h
 | v :: r, o, _, _, h => ZJ.setCells r (o + 1) _ _ (h.set_ o v)
theorem ZJ.setCells_far {g b : Nat} {T : TypeId} {cs : Array Value} (hn : g ≠ b) : ∀ (vs : List Value) (o : Nat) (w : World), ZJ w g T cs -> ZJ (w.setCells b o vs) g T cs
 | [], _, _, h => h
 | v :: r, o, _, h => ZJ.setCells_far hn r (o + 1) _ (h.far (p := ⟨b, o, none⟩) hn v)
theorem JP {W : World} {B b : Nat} (hb : B <= b) : ∀ (vs : List Value) (o : Nat) (w : World), Below B W w -> Below B W (w.setCells b o vs)
 | [], _, _, h => h
 | v :: r, o, _, h => JP hb r (o + 1) _ (h.setCell (p := ⟨b, o, none⟩) hb v)
def upd (f : Nat -> Nat) (i b : Nat) : Nat -> Nat := fun j => if j = i then b else f j
structure TI (ops : Array Oper) (cls : Nat -> Cls) (a0 : Act) (B : Nat) (W : World) (z0 : Nat -> Array Value) (bs : Nat -> Nat) (L : Array Bool) (a : Act) (w : World) : Prop where
 defers : a.defers = a0.defers
 size : a.tmps.size = a0.tmps.size
 out : ∀ t, (∀ (i : Nat) o, ops[i]? = some o -> L.getD i false = true -> o.dst ≠ some t) -> a.tmps[t]? = a0.tmps[t]?
 inn : ∀ (i : Nat) o d, ops[i]? = some o -> L.getD i false = true -> o.dst = some d -> a.tmps[d]? = some ((cls i).of (bs i))
 below : Below B W w
 old : ∀ i x b T ic l, cls i = .old x b T ic l -> B <= b /\ b < W.heap.size /\ ∃ cs, ZJ w b T cs /\ cs.size = l.size /\ (L.getD i false = true -> cs = l) /\ (L.getD i false = false -> cs = z0 i)
 closed : ∀ (i : Nat) o, ops[i]? = some o -> L.getD i false = true -> ∀ e ∈ o.after, Region.binds .any e = true -> L.getD e.on false = true
 new : ∀ i T n, cls i = .new T n -> L.getD i false = true -> W.heap.size <= bs i /\ ∃ cs, ZJ w (bs i) T cs /\ cs.size = n
 apart : ∀ i j T n T' n', cls i = .new T n -> cls j = .new T' n' -> L.getD i false = true -> L.getD j false = true -> i ≠ j -> bs i ≠ bs j
 put : ∀ i ia ic l, cls i = .put ia ic l -> L.getD i false = true -> ∃ T, cls ia = .new T l.size /\ L.getD ia false = true /\ ZJ w (bs ia) T l

theorem Ze {L : Array Bool} {i j : Nat} (hi : i < L.size) : (L.setIfInBounds i true).getD j false = true ↔ j = i ∨ L.getD j false = true := by
 by_cases e : i = j
 . subst e; simp [hi]
 . rw [getD_set_ne false e]; exact ⟨.inr, fun h => h.resolve_left (Ne.symm e)⟩

section
variable {cls : Nat -> Cls} {a0 : Act} {B : Nat} {W : World} {z0 : Nat -> Array Value} {bs : Nat -> Nat} {L : Array Bool} {a : Act} {w : World}
end
theorem pairs_mem {f : Nat -> Option Value} {p : Nat × Value} (h : p ∈ Zn ops f) : ∃ (i : Nat) (o : Oper), ops[i]? = some o /\ o.dst = some p.1 /\ f i = some p.2 := by
 unfold Zn at h
 rw [List.mem_filterMap] at h
 obtain ⟨⟨o, i⟩, hm, he⟩ := h
 rw [List.mem_zipIdx_iff_getElem?] at hm
 simp only at he hm
 cases hd : o.dst with
 | none => simp [hd] at he
 | some d => cases hf : f i with
  | none => simp [hd, hf] at he
  | some v => simp [hd, hf] at he; subst he; exact ⟨i, o, by simpa using hm, hd, hf⟩
theorem pairs_has {f : Nat -> Option Value} {i : Nat} {o : Oper} {d : Nat} {v : Value} (hi : ops[i]? = some o) (hd : o.dst = some d) (hf : f i = some v) : (d, v) ∈ Zn ops f := by
 unfold Zn
 rw [List.mem_filterMap]
 refine ⟨(o, i), ?_, by simp [hd, hf]⟩
 rw [List.mem_zipIdx_iff_getElem?]; simpa using hi
theorem nodup_map_fst {l : List (Oper × Nat)} (f : Nat -> Option Value) (h : (l.filterMap fun x => x.1.dst).Nodup) :
   ((l.filterMap fun (o, i) => match o.dst, f i with
     | some d, some v => some (d, v)
     | _, _ => none).map (·.1)).Nodup := by
 induction l with
 | nil => simp
 | cons x l ih =>
   obtain ⟨o, i⟩ := x
   simp only [List.filterMap_cons] at h ⊢
   cases hd : o.dst with
   | none => simp [hd] at h ⊢; simpa using ih h
   | some d =>
     simp only [hd, List.nodup_cons] at h
     cases hf : f i with
     | none => simpa [hd, hf] using ih h.2
     | some v =>
       simp only [List.map_cons, List.nodup_cons]
       refine ⟨fun hm => h.1 ?_, ih h.2⟩
       rw [List.mem_map] at hm
       obtain ⟨⟨d', v'⟩, hm, rfl⟩ := hm
       rw [List.mem_filterMap] at hm ⊢
       obtain ⟨⟨o', i'⟩, hm, he⟩ := hm
       refine ⟨(o', i'), hm, ?_⟩
       cases hd' : o'.dst with
       | none => simp [hd'] at he
       | some d2 => cases hf' : f i' with
         | none => simp [hd', hf'] at he
         | some v2 => simp [hd', hf'] at he; simp [he.1]
theorem zipIdx_dsts : ∀ (l : List Oper) (k : Nat), (l.zipIdx k).filterMap (fun x => x.1.dst) = l.filterMap (·.dst)
 | [], _ => rfl
 | o :: l, k => by simp [List.zipIdx_cons, List.filterMap_cons, zipIdx_dsts l (k + 1)]
theorem JY (f : Nat -> Option Value) (h : (ops.toList.filterMap (·.dst)).Nodup) : ((Zn ops f).map (·.1)).Nodup :=
 nodup_map_fst f (by rw [zipIdx_dsts]; exact h)
theorem dst_inj (h : (ops.toList.filterMap (·.dst)).Nodup) : ∀ (i j : Nat) oi oj d, ops[i]? = some oi -> ops[j]? = some oj -> oi.dst = some d -> oj.dst = some d -> i = j := by
 obtain ⟨l⟩ := ops
 simp only at h
 induction l with
 | nil => intro i j oi oj d hi; simp at hi
 | cons o l ih =>
  intro i j oi oj d hi hj hdi hdj
  have hmem : ∀ (k : Nat) ok, l[k]? = some ok -> ok.dst = some d -> d ∈ l.filterMap (·.dst) := fun k ok hk hd => by
   rw [List.mem_filterMap]; exact ⟨ok, List.mem_of_getElem? hk, hd⟩
  have hrest : (l.filterMap (·.dst)).Nodup := by
   simp only [List.filterMap_cons] at h
   cases hd : o.dst with
   | none => simpa [hd] using h
   | some d => simp only [hd, List.nodup_cons] at h; exact h.2
  have hhead : o.dst = some d -> d ∉ l.filterMap (·.dst) := fun hd => by
   simp only [List.filterMap_cons, hd, List.nodup_cons] at h; exact h.1
  cases i with
  | zero =>
   cases j with
   | zero => rfl
   | succ j =>
    simp at hi hj; subst hi
    exact absurd (hmem j oj hj hdj) (hhead hdi)
  | succ i =>
   cases j with
   | zero =>
    simp at hi hj; subst hj
    exact absurd (hmem i oi hi hdi) (hhead hdj)
   | succ j =>
    simp at hi hj
    exact congrArg Nat.succ (ih hrest i j oi oj d (by simpa using hi) (by simpa using hj) hdi hdj)

def clsOf (cl : List Cls) (i : Nat) : Cls := (cl[i]?).getD (.put 0 0 #[])
def ValOk (P : Program) (af : Act) (B : Nat) (W : World) (S : World -> Prop) : List Oper -> List Cls -> Prop
 | o :: os, .val v :: cs => (∀ w, Below B W w -> S w -> o.wp P af w (fun a' w' => a' = af.put o.dst v /\ Below w.heap.size w w') (fun _ _ _ => False)) /\ ValOk P af B W S os cs
 | _ :: os, _ :: cs => ValOk P af B W S os cs
 | _, _ => True
def NewOk (P : Program) : List Oper -> List Cls -> Prop
 | o :: os, .new T n :: cs => (∃ z : Array Value, z.size = n /\ ∀ (ρ : Operand -> Value) (w : World), (execOp ρ o).run P w = .ok (.value (.pointer (some ⟨w.heap.size, 0, none⟩))) (w.alloc (.cells z T))) /\ NewOk P os cs
 | _ :: os, _ :: cs => NewOk P os cs
 | _, _ => True
def PutOk (P : Program) (ops : Array Oper) (cl : List Cls) : List Oper -> List Cls -> Prop
 | o :: os, .put ia ic l :: cs => (∃ T x y, o.op = .store T (.tmp x) (.tmp y) /\ o.dst = none /\ (ops[ia]?).bind (·.dst) = some x /\ (ops[ic]?).bind (·.dst) = some y /\ cl[ia]? = some (.new T l.size) /\ cl[ic]? = some (.val (.agg l)) /\
  (o.after.any fun e => Region.binds .any e && e.on == ia) = true /\ (o.after.any fun e => Region.binds .any e && e.on == ic) = true /\ (P.info? T).map (·.size) = some l.size /\ l.all (·.oneCell') = true) /\ PutOk P ops cl os cs
 | _ :: os, _ :: cs => PutOk P ops cl os cs
 | _, _ => True
def OldOk (P : Program) (ops : Array Oper) (cl : List Cls) (t0 : Array Value) (B : Nat) (W w0 : World) (z : Array Value) : List Oper -> List Cls -> Prop
 | o :: os, .old x b T ic l :: cs => (B <= b /\ b < W.heap.size /\ ZJ w0 b T z /\ z.size = l.size /\ ∃ y, o.op = .store T (.tmp x) (.tmp y) /\ o.dst = none /\ (ops[ic]?).bind (·.dst) = some y /\ cl[ic]? = some (.val (.agg l)) /\
  (ops.all fun ok => ok.dst != some x) = true /\ t0[x]? = some (.pointer (some ⟨b, 0, none⟩)) /\ (o.after.any fun e => Region.binds .any e && e.on == ic) = true /\ (P.info? T).map (·.size) = some l.size /\ l.all (·.oneCell') = true) /\ OldOk P ops cl t0 B W w0 z os cs
 | _ :: os, _ :: cs => OldOk P ops cl t0 B W w0 z os cs
 | _, _ => True
def putsOf : List Cls -> List Nat
 | .put ia _ _ :: cs => ia :: putsOf cs
 | _ :: cs => putsOf cs
 | [] => []
def oldsOf : List Cls -> Nat
 | .old _ _ _ _ _ :: cs => oldsOf cs + 1
 | _ :: cs => oldsOf cs
 | [] => 0
def waitsB (ops : Array Oper) (cl : List Cls) : Bool := (List.range ops.size).all fun j => match clsOf cl j with
 | .old _ _ _ _ _ => (List.range ops.size).all fun i => match clsOf cl i with
  | .val _ => ((ops[j]?).map fun o => o.after.any fun e => Region.binds .any e && e.on == i).getD false
  | _ => true
 | _ => true
def nodupB : List Nat -> Bool
 | [] => true
 | x :: l => !l.contains x && nodupB l
theorem JZ : ∀ {l : List Nat}, nodupB l = true -> l.Nodup
 | [], _ => List.nodup_nil
 | x :: l, h => by
  simp only [nodupB, Bool.and_eq_true, Bool.not_eq_true', List.contains_eq_mem, decide_eq_false_iff_not] at h
  exact List.nodup_cons.2 ⟨h.1, JZ h.2⟩
theorem any_edge {o : Oper} {k : Nat} (h : (o.after.any fun e => Region.binds .any e && e.on == k) = true) : ∃ e ∈ o.after, Region.binds .any e = true /\ e.on = k := by
 rw [<- Array.any_toList, List.any_eq_true] at h
 obtain ⟨e, he, h3⟩ := h
 rw [Array.mem_toList_iff] at he
 simp only [Bool.and_eq_true, beq_iff_eq] at h3
 exact ⟨e, he, h3.1, h3.2⟩
theorem bind_dst {k x : Nat} (h : (ops[k]?).bind (·.dst) = some x) : ∃ o, ops[k]? = some o /\ o.dst = some x := by
 cases ho : ops[k]? with
 | none => simp [ho] at h
 | some o => simp [ho] at h; exact ⟨o, rfl, h⟩
end

section
variable {P : Program} {ops : Array Oper} {Q : Exit -> Act -> World -> Prop}

inductive Ks where
 | val (v : Value)
 | step
def Ks.isStep : Ks -> Bool
 | .step => true
 | _ => false
def Yp (cl : List Ks) (i : Nat) : Nat := ((cl.take i).filter Ks.isStep).length
def Xn (cl : List Ks) (i : Nat) : Bool := ((cl[i]?).map Ks.isStep).getD false
def valIs (cl : List Ks) (i : Nat) : Bool := ((cl[i]?).map fun c => !c.isStep).getD false
def Yc (cl : List Ks) (us : List Value) (i : Nat) : Value := match cl[i]? with
 | some (.val v) => v
 | some .step => us.getD (Yp cl i) undef
 | none => undef
def edgeB (o : Oper) (k : Nat) : Bool := o.after.any fun e => Region.binds .any e && e.on == k
def readsB (ops : Array Oper) (cl : List Ks) : Bool := (List.range ops.size).all fun i => match ops[i]? with
 | some o => (match o.op with | .select _ _ => false | _ => true) && o.op.operands.all fun x => match x with
  | .tmp t => (ops.all fun o' => o'.dst != some t) || o.after.any fun e => Region.binds .any e && ((ops[e.on]?).bind (·.dst) == some t) && (valIs cl e.on || Xn cl i)
  | _ => true
 | none => true
def Xz (ops : Array Oper) : Nat -> Oper -> Nat -> Bool
 | 0, _, _ => false
 | f + 1, o, k => o.after.any fun e => Region.binds .any e && (e.on == k || match ops[e.on]? with
  | some o' => Xz ops f o' k
  | none => false)
theorem reach_done {L : Array Bool} (hcl : ∀ (i : Nat) o, ops[i]? = some o -> L.getD i false = true -> ∀ e ∈ o.after, Region.binds .any e = true -> L.getD e.on false = true) {k : Nat} : ∀ (f : Nat) (o : Oper), (∀ e ∈ o.after, Region.binds .any e = true -> L.getD e.on false = true) -> Xz ops f o k = true -> L.getD k false = true
 | 0, _, _, h => by simp [Xz] at h
 | f + 1, o, hp, h => by
  unfold Xz at h
  rw [<- Array.any_toList, List.any_eq_true] at h
  obtain ⟨e, he, h3⟩ := h
  rw [Array.mem_toList_iff] at he
  simp only [Bool.and_eq_true, Bool.or_eq_true, beq_iff_eq] at h3
  obtain ⟨hb, h4⟩ := h3
  rcases h4 with rfl | h4
  . exact hp e he hb
  . cases ho : ops[e.on]? with
    | none => simp [ho] at h4
    | some o' =>
     rw [ho] at h4
     exact reach_done hcl f o' (hcl e.on o' ho (hp e he hb)) h4
def chainB (ops : Array Oper) (cl : List Ks) (m0 m : Nat) : Bool := (List.range ops.size).all fun i => !Xn cl i || (match ops[i]? with
 | some o => decide (Yp cl i < m) && (Yp cl i == 0 || (List.range ops.size).any fun j => Xn cl j && Yp cl j + 1 == Yp cl i && edgeB o j) &&
  (decide (Yp cl i < m0) || (List.range ops.size).all fun j => Xn cl j || edgeB o j || Xz ops 4 o j) && (List.range ops.size).all fun j => !Xn cl j || Yp cl j != Yp cl i || j == i
 | none => false)
def lastB (ops : Array Oper) (cl : List Ks) (m : Nat) : Bool := m == 0 || (List.range ops.size).any fun i => Xn cl i && Yp cl i + 1 == m

theorem upon_step {o : Oper} {a1 a2 : Act} {S : Value -> World -> Prop} (hl : ∀ d, o.dst = some d -> d < a1.tmps.size) {r : Result Next}
  (h : o.upon P a1 (fun a' w' => ∃ u, a' = a1.put o.dst u /\ S u w') (fun _ _ _ => False) r) : o.upon P a2 (fun a' w' => ∃ u, a' = a2.put o.dst u /\ S u w') Q r := by
 have key : ∀ u w', (∃ v, a1.put o.dst u = a1.put o.dst v /\ S v w') -> ∃ v, a2.put o.dst u = a2.put o.dst v /\ S v w' := fun u w' ⟨v, e, hs⟩ => by
  cases hd : o.dst with
  | none => exact ⟨v, rfl, hs⟩
  | some d =>
   have hl := hl d hd
   rw [hd] at e
   have := congrArg (fun a : Act => a.tmps[d]?) e
   have e2 : u = v := by simpa [Act.put, hl] using this
   subst e2
   exact ⟨u, rfl, hs⟩
 cases r with
 | ok n w' =>
  cases n <;> simp only [Oper.upon] at h ⊢
  case value u => exact key u w' h
  case skip => exact key _ w' h
  case defer dd =>
   obtain ⟨v, e, _⟩ := h
   have := congrArg (fun a : Act => a.defers.length) e
   cases hd : o.dst <;> rw [hd] at this <;> simp [Act.put] at this
  case enter f args =>
   refine Calls.mono h fun e w'' he => ?_
   cases e with
   | returned u => exact key u w'' he
   | panicked c => exact he.elim
   | outgrown => obtain ⟨_, _, hf⟩ := he; exact hf.elim
  case row row args => exact Rows.mono h fun u w'' he => key u w'' he
 | halt x w' => cases x <;> simp only [Oper.upon] at h ⊢

structure CI (ops : Array Oper) (cl : List Ks) (a0 : Act) (R : List Value -> World -> Prop) (m0 m : Nat) (us : List Value) (L : Array Bool) (a : Act) (w : World) : Prop where
 defers : a.defers = a0.defers
 size : a.tmps.size = a0.tmps.size
 out : ∀ t, (∀ (i : Nat) o, ops[i]? = some o -> L.getD i false = true -> o.dst ≠ some t) -> a.tmps[t]? = a0.tmps[t]?
 inn : ∀ (i : Nat) o d, ops[i]? = some o -> L.getD i false = true -> o.dst = some d -> a.tmps[d]? = some (Yc cl us i)
 steps : ∀ i, i < ops.size -> Xn cl i = true -> (L.getD i false = true ↔ Yp cl i < us.length)
 early : m0 < us.length -> ∀ i, i < ops.size -> Xn cl i = false -> L.getD i false = true
 count : us.length <= m
 closed : ∀ (i : Nat) o, ops[i]? = some o -> L.getD i false = true -> ∀ e ∈ o.after, Region.binds .any e = true -> L.getD e.on false = true
 rel : R us w

section
variable {cl : List Ks} {a0 : Act} {R : List Value -> World -> Prop} {m0 m : Nat} {us : List Value} {L : Array Bool} {a : Act} {w : World}
theorem CI.tmps {i : Nat} {o : Oper} (h : CI ops cl a0 R m0 m us L a w) (hi : ops[i]? = some o) (hL : i < L.size) (hun : L.getD i false = false)
   (hdist : ∀ (i j : Nat) oi oj d, ops[i]? = some oi -> ops[j]? = some oj -> oi.dst = some d -> oj.dst = some d -> i = j) (hroom : ∀ (i : Nat) o d, ops[i]? = some o -> o.dst = some d -> d < a0.tmps.size)
   (v : Value) (us' : List Value) (hus : ∀ (j : Nat) oj, ops[j]? = some oj -> L.getD j false = true -> Yc cl us' j = Yc cl us j) (hv : v = Yc cl us' i ∨ o.dst = none) :
   (a.put o.dst v).defers = a0.defers /\ (a.put o.dst v).tmps.size = a0.tmps.size /\
   (∀ t, (∀ (k : Nat) ok, ops[k]? = some ok -> (L.setIfInBounds i true).getD k false = true -> ok.dst ≠ some t) -> (a.put o.dst v).tmps[t]? = a0.tmps[t]?) /\
   (∀ (k : Nat) ok d, ops[k]? = some ok -> (L.setIfInBounds i true).getD k false = true -> ok.dst = some d -> (a.put o.dst v).tmps[d]? = some (Yc cl us' k)) := by
 refine ⟨?_, ?_, fun t ht => ?_, fun k ok d hk hLk hd => ?_⟩
 . cases hd : o.dst <;> simp [Act.put, h.defers]
 . cases hd : o.dst <;> simp [Act.put, h.size]
 . have h1 := ht i o hi ((Ze hL).2 (.inl rfl))
   have h2 := h.out t fun k ok hk hLk => ht k ok hk ((Ze hL).2 (.inr hLk))
   cases hd : o.dst with
   | none => exact h2
   | some d =>
     rw [<- h2]
     simp only [Act.put]
     exact Array.getElem?_setIfInBounds_ne (fun e => h1 (by rw [hd, e]))
 . rcases (Ze hL).1 hLk with rfl | hLk2
   . rw [hi] at hk; injection hk with hk; subst hk
     rcases hv with hv | hv
     . rw [hd, <- hv]
       have := hroom k o d hi hd
       simp [Act.put, h.size, this]
     . rw [hv] at hd; cases hd
   . have hne : k ≠ i := fun e => by rw [e, hun] at hLk2; cases hLk2
     rw [hus k ok hk hLk2, <- h.inn k ok d hk hLk2 hd]
     cases hdo : o.dst with
     | none => rfl
     | some d' =>
       simp only [Act.put]
       exact Array.getElem?_setIfInBounds_ne (fun e => hne (hdist k i ok o d hk hi hd (by rw [hdo, e])))

def ZO (ops : Array Oper) (cl : List Ks) (a0 : Act) (us : List Value) : Act := ⟨ZF a0.tmps (Zn ops fun i => some (Yc cl us i)), a0.defers⟩

theorem CI.eval {i : Nat} {o : Oper} (h : CI ops cl a0 R m0 m us L a w) (hi : ops[i]? = some o) (hreads : readsB ops cl = true) (hdst : (ops.toList.filterMap (·.dst)).Nodup)
   (hroom : ∀ (i : Nat) o d, ops[i]? = some o -> o.dst = some d -> d < a0.tmps.size) (hp : ∀ e ∈ o.after, Region.binds .any e = true -> L.getD e.on false = true)
   (us' : List Value) (hus : us' = us ∨ Xn cl i = false) :
   (∀ cs b, o.op ≠ .select cs b) /\ ∀ x ∈ o.op.operands, a.eval x = (ZO ops cl a0 us').eval x := by
 have hlt : i < ops.size := (Array.getElem?_eq_some_iff.1 hi).1
 have h1 := List.all_eq_true.1 hreads i (List.mem_range.2 hlt)
 simp only [hi, Bool.and_eq_true] at h1
 obtain ⟨hsel, hops⟩ := h1
 refine ⟨fun cs b e => by rw [e] at hsel; simp at hsel, fun x hx => ?_⟩
 rw [Array.all_eq_true_iff_forall_mem] at hops
 have h2 := hops x hx
 cases x with
 | tmp t =>
   simp only [Bool.or_eq_true] at h2
   rcases h2 with h2 | h2
   . rw [Array.all_eq_true_iff_forall_mem] at h2
     have hno : ∀ (k : Nat) ok, ops[k]? = some ok -> ok.dst ≠ some t := fun k ok hk e => by
       have := h2 ok (Array.mem_of_getElem? hk)
       simp [e] at this
     have e1 := h.out t fun k ok hk _ => hno k ok hk
     have e2 := fill_other (Zn ops fun i => some (Yc cl us' i)) t a0.tmps fun p hp e => by
       obtain ⟨k, ok, hk, hd, _⟩ := pairs_mem hp
       exact hno k ok hk (by rw [hd, e])
     simp [Act.eval, Array.getD_eq_getD_getElem?, ZO, e1, e2]
   . rw [<- Array.any_toList, List.any_eq_true] at h2
     obtain ⟨e, he, h3⟩ := h2
     rw [Array.mem_toList_iff] at he
     simp only [Bool.and_eq_true, Bool.or_eq_true, beq_iff_eq] at h3
     obtain ⟨⟨hb, hd⟩, hv⟩ := h3
     cases hoe : ops[e.on]? with
     | none => simp [hoe] at hd
     | some oe =>
       simp only [hoe, Option.bind_some] at hd
       have e1 := h.inn e.on oe t hoe (hp e he hb) hd
       have e2 := fill_at (Zn ops fun i => some (Yc cl us' i)) (JY _ hdst) t (Yc cl us' e.on) a0.tmps (hroom _ _ _ hoe hd) (pairs_has hoe hd rfl)
       have e3 : Yc cl us' e.on = Yc cl us e.on := by
         rcases hus with rfl | hus
         . rfl
         . rcases hv with hv | hv
           . unfold valIs at hv
             unfold Yc
             cases hc : cl[e.on]? with
             | none => simp [hc] at hv
             | some c => cases c with
               | val v => rfl
               | step => simp [hc, Ks.isStep] at hv
           . rw [hus] at hv; cases hv
       rw [e3] at e2
       simp [Act.eval, Array.getD_eq_getD_getElem?, ZO, e1, e2]
 | _ => rfl
end

theorem valAt_more {cl : List Ks} {us : List Value} {u : Value} {i : Nat} (h : Xn cl i = true -> Yp cl i < us.length) : Yc cl (us ++ [u]) i = Yc cl us i := by
 unfold Yc
 cases hc : cl[i]? with
 | none => rfl
 | some c => cases c with
  | val v => rfl
  | step =>
   have := h (by simp [Xn, hc, Ks.isStep])
   simp [List.getD_eq_getElem?_getD, List.getElem?_append_left this]

def JR (P : Program) (af : Act) (m0 : Nat) (R : List Value -> World -> Prop) : List Oper -> List Ks -> Prop
 | o :: os, .val v :: cs => (∀ us w, us.length <= m0 -> R us w -> o.wp P af w (fun a' w' => a' = af.put o.dst v /\ Below w.heap.size w w') (fun _ _ _ => False)) /\ JR P af m0 R os cs
 | _ :: os, .step :: cs => JR P af m0 R os cs
 | _, _ => True
def Jv (P : Program) (af : List Value -> Act) (R : List Value -> World -> Prop) : Nat -> List Oper -> List Ks -> Prop
 | k, o :: os, .step :: cs => (∀ us w, us.length = k -> R us w -> o.wp P (af us) w (fun a' w' => ∃ u, a' = (af us).put o.dst u /\ R (us ++ [u]) w') (fun _ _ _ => False)) /\ Jv P af R (k + 1) os cs
 | k, _ :: os, .val _ :: cs => Jv P af R k os cs
 | _, _, _ => True
theorem JR.get {af : Act} {m0 : Nat} {R : List Value -> World -> Prop} {v : Value} {o : Oper} : ∀ (os : List Oper) (cs : List Ks), JR P af m0 R os cs -> ∀ i : Nat, os[i]? = some o -> cs[i]? = some (.val v) -> ∀ us w, us.length <= m0 -> R us w -> o.wp P af w (fun a' w' => a' = af.put o.dst v /\ Below w.heap.size w w') (fun _ _ _ => False)
 | [], _, _, i, h1, _ => by simp at h1
 | _ :: _, [], _, i, _, h2 => by simp at h2
 | o' :: os, c :: cs, h, 0, h1, h2 => by
  simp at h1 h2; subst h1 h2
  exact h.1
 | o' :: os, c :: cs, h, i + 1, h1, h2 => by
  have h' : JR P af m0 R os cs := by cases c <;> first | exact h.2 | exact h
  exact JR.get os cs h' i (by simpa using h1) (by simpa using h2)
theorem Jv.get {af : List Value -> Act} {R : List Value -> World -> Prop} {o : Oper} : ∀ (os : List Oper) (cs : List Ks) (k : Nat), Jv P af R k os cs -> ∀ i : Nat, os[i]? = some o -> cs[i]? = some .step -> ∀ us w, us.length = k + Yp cs i -> R us w -> o.wp P (af us) w (fun a' w' => ∃ u, a' = (af us).put o.dst u /\ R (us ++ [u]) w') (fun _ _ _ => False)
 | [], _, _, _, i, h1, _ => by simp at h1
 | _ :: _, [], _, _, i, _, h2 => by simp at h2
 | o' :: os, c :: cs, k, h, 0, h1, h2 => by
  simp at h1 h2; subst h1 h2
  intro us w hu
  exact h.1 us w (by simpa [Yp] using hu)
 | o' :: os, c :: cs, k, h, i + 1, h1, h2 => by
  intro us w hu hr
  cases c with
  | val v =>
   have h' : Jv P af R k os cs := h
   exact Jv.get os cs k h' i (by simpa using h1) (by simpa using h2) us w (by simpa [Yp, Ks.isStep] using hu) hr
  | step =>
   exact Jv.get os cs (k + 1) h.2 i (by simpa using h1) (by simpa using h2) us w (by rw [hu]; show _ = k + 1 + _; unfold Yp; rw [List.take_succ_cons, List.filter_cons_of_pos rfl, List.length_cons]; omega) hr

theorem wp_region_chain {id : Nat} {a0 : Act} {w0 : World} (cl : List Ks) (m0 m : Nat) (R : List Value -> World -> Prop) (af : List Value -> Act) (hm : P.follows .mixedOrders = true) (hlen : cl.length = ops.size)
   (hback : (ops.toList.zipIdx.all fun (o, i) => o.after.all fun e => decide (e.on < i)) = true) (hguard : (ops.all fun o => o.guard.isNone) = true)
   (hdst : nodupB (ops.toList.filterMap (·.dst)) = true) (hroom : (ops.toList.filterMap (·.dst)).all (fun d => decide (d < a0.tmps.size)) = true) (hreads : readsB ops cl = true)
   (hvald : ((List.range ops.size).all fun i => Xn cl i || ((ops[i]?).bind (·.dst)).isSome) = true)
   (hchain : chainB ops cl m0 m = true) (hlast : lastB ops cl m = true) (haf : af = ZO ops cl a0)
   (hR : ∀ us w w', us.length <= m0 -> R us w -> Below w.heap.size w w' -> R us w') (h0 : R [] w0.drew)
   (hval : JR P (af []) m0 R ops.toList cl) (hstep : Jv P af R 0 ops.toList cl)
   (hend : ∀ us w, us.length = m -> R us w -> Q .normal (af us) w) :
   (Code.region id ops true).wp P Q a0 w0 := by
 subst haf
 have hnd := JZ hdst
 have hdist := dst_inj hnd
 have hroom' : ∀ (i : Nat) o d, ops[i]? = some o -> o.dst = some d -> d < a0.tmps.size := fun i o d hi hd =>
   of_decide_eq_true (List.all_eq_true.1 hroom d (by rw [List.mem_filterMap]; exact ⟨o, Array.mem_toList_iff.2 (Array.mem_of_getElem? hi), hd⟩))
 refine wp_region_any hm (wpAny_inv (fun L a w => ∃ us, CI ops cl a0 R m0 m us L a w) hback hguard ?_ ?_ _ _ _ _ (by simp) ?_ ?_)
 . rintro L a w ⟨us, h⟩ i o hi hs hun hp
   have hlt : i < ops.size := (Array.getElem?_eq_some_iff.1 hi).1
   have hL : i < L.size := by omega
   have hun' : L.getD i false = false := by simp [hL] at hun ⊢; exact hun
   have hkeep : ∀ j, j ≠ i -> (L.setIfInBounds i true).getD j false = L.getD j false := fun j hj => getD_set_ne false (Ne.symm hj)
   have hci : i < cl.length := by omega
   have hclosed : ∀ (j : Nat) oj, ops[j]? = some oj -> (L.setIfInBounds i true).getD j false = true -> ∀ e ∈ oj.after, Region.binds .any e = true -> (L.setIfInBounds i true).getD e.on false = true := fun j oj hj hLj e he hb => by
     rw [Ze hL] at hLj ⊢
     rcases hLj with rfl | hLj
     . rw [hi] at hj; injection hj with hj; subst hj
       exact .inr (hp e he hb)
     . exact .inr (h.closed j oj hj hLj e he hb)
   cases hc : Xn cl i with
   | false =>
     obtain ⟨v, hv⟩ : ∃ v, cl[i]? = some (.val v) := by
       cases hx : cl[i]? with
       | none => simp at hx; omega
       | some c => cases c with
         | val v => exact ⟨v, rfl⟩
         | step => simp [Xn, hx, Ks.isStep] at hc
     have hle : us.length <= m0 := by
       rcases Nat.lt_or_ge m0 us.length with h1 | h1
       . rw [h.early h1 i hlt hc] at hun'; cases hun'
       . exact h1
     obtain ⟨hsel, hev⟩ := h.eval hi hreads hnd hroom' hp [] (.inr hc)
     obtain ⟨d, hd⟩ : ∃ d, o.dst = some d := by
       have := List.all_eq_true.1 hvald i (List.mem_range.2 hlt)
       simp only [hc, hi, Bool.false_or, Option.bind_some] at this
       exact Option.isSome_iff_exists.1 this
     have h1 := JR.get _ _ hval i (by simpa using hi) hv us w hle h.rel
     unfold Oper.wp at h1
     rw [<- execOp_congr o hsel hev] at h1
     have h2 := upon_swap (a2 := a) (Q := Q) hd (by simp only [ZO, Kn]; exact hroom' i o d hi hd) h1
     refine Oper.wp_mono ?_ h2
     rintro a' w' ⟨rfl, hb⟩
     have hva : v = Yc cl us i := by unfold Yc; rw [hv]
     obtain ⟨t1, t2, t3, t4⟩ := h.tmps hi hL hun' hdist hroom' v us (fun _ _ _ _ => rfl) (.inl hva)
     refine ⟨us, t1, t2, t3, t4, fun j hj hcj => ?_, fun hm0 j hj hcj => ?_, h.count, hclosed, hR us w w' hle h.rel hb⟩
     . rw [hkeep j (fun e => by rw [e, hc] at hcj; cases hcj)]; exact h.steps j hj hcj
     . omega
   | true =>
     have hci2 : cl[i]? = some .step := by
       cases hx : cl[i]? with
       | none => simp at hx; omega
       | some c => cases c with
         | val v => simp [Xn, hx, Ks.isStep] at hc
         | step => rfl
     have hch := List.all_eq_true.1 hchain i (List.mem_range.2 hlt)
     simp only [hc, hi, Bool.not_true, Bool.false_or, Bool.and_eq_true, Bool.or_eq_true, decide_eq_true_eq, beq_iff_eq] at hch
     obtain ⟨⟨⟨hkm, hprev⟩, hall⟩, hinj⟩ := hch
     have hge : us.length <= Yp cl i := by
       rcases Nat.lt_or_ge (Yp cl i) us.length with h1 | h1
       . rw [(h.steps i hlt hc).2 h1] at hun'; cases hun'
       . exact h1
     have hk : us.length = Yp cl i := by
       rcases hprev with h1 | h1
       . omega
       . rw [List.any_eq_true] at h1
         obtain ⟨j, hj, h2⟩ := h1
         simp only [Bool.and_eq_true, beq_iff_eq] at h2
         obtain ⟨⟨h3, h4⟩, h5⟩ := h2
         obtain ⟨e, he, hb, rfl⟩ := any_edge h5
         have := (h.steps e.on (List.mem_range.1 hj) h3).1 (hp e he hb)
         omega
     obtain ⟨hsel, hev⟩ := h.eval hi hreads hnd hroom' hp us (.inl rfl)
     have h1 := Jv.get _ _ 0 hstep i (by simpa using hi) hci2 us w (by omega) h.rel
     unfold Oper.wp at h1
     rw [<- execOp_congr o hsel hev] at h1
     have h2 := upon_step (a2 := a) (Q := Q) (by intro d hd; simp only [ZO, Kn]; exact hroom' i o d hi hd) h1
     refine Oper.wp_mono ?_ h2
     rintro a' w' ⟨u, rfl, hr⟩
     have hua : u = Yc cl (us ++ [u]) i := by
       unfold Yc; rw [hci2]; simp [List.getD_eq_getElem?_getD, <- hk]
     have husame : ∀ (j : Nat) oj, ops[j]? = some oj -> L.getD j false = true -> Yc cl (us ++ [u]) j = Yc cl us j := fun j oj hj hLj =>
       valAt_more fun hcj => (h.steps j (Array.getElem?_eq_some_iff.1 hj).1 hcj).1 hLj
     obtain ⟨t1, t2, t3, t4⟩ := h.tmps hi hL hun' hdist hroom' u (us ++ [u]) husame (.inl hua)
     refine ⟨us ++ [u], t1, t2, t3, t4, fun j hj hcj => ?_, fun hm0 j hj hcj => ?_, by simp; omega, hclosed, hr⟩
     . by_cases hji : j = i
       . subst hji
         simp [hL, hk]
       . rw [hkeep j hji, h.steps j hj hcj]
         have h3 := List.all_eq_true.1 hinj j (List.mem_range.2 hj)
         simp only [hcj, Bool.not_true, Bool.false_or, Bool.or_eq_true, bne_iff_ne, ne_eq, beq_iff_eq] at h3
         have h4 := h3.resolve_right hji
         simp; omega
     . rw [hkeep j (fun e => by rw [e, hc] at hcj; cases hcj)]
       simp at hm0
       rcases hall with h3 | h3
       . exact h.early (by omega) j hj hcj
       . have h4 := List.all_eq_true.1 h3 j (List.mem_range.2 hj)
         simp only [hcj, Bool.false_or, Bool.or_eq_true] at h4
         rcases h4 with h4 | h4
         . obtain ⟨e, he, hb, rfl⟩ := any_edge h4
           exact hp e he hb
         . exact reach_done h.closed 4 o hp h4
 . rintro L a w ⟨us, h⟩ hdone
   have hum : us.length = m := by
     have := h.count
     unfold lastB at hlast
     simp only [Bool.or_eq_true, beq_iff_eq, List.any_eq_true, Bool.and_eq_true] at hlast
     rcases hlast with h1 | ⟨i, h1, h2, h3⟩
     . omega
     . have := (h.steps i (List.mem_range.1 h1) h2).1 (hdone i (List.mem_range.1 h1))
       omega
   have hact : a = ZO ops cl a0 us := by
     obtain ⟨t, d⟩ := a
     have h1 := h.defers
     simp only at h1
     subst h1
     unfold ZO
     have h2 := fill_unique (Zn ops fun i => some (Yc cl us i)) (JY _ hnd) a0.tmps t h.size (fun d hd => ?_) (fun p hp _ => ?_)
     . rw [<- h2]
     . refine h.out d fun i o hi _ hd2 => ?_
       exact hd _ (pairs_has hi hd2 rfl) rfl
     . obtain ⟨i, o, hi, hd, hv⟩ := pairs_mem hp
       have := h.inn i o p.1 hi (hdone i (Array.getElem?_eq_some_iff.1 hi).1) hd
       rw [this]; exact hv
   rw [hact]
   exact hend us w hum h.rel
 . have : (List.filter (fun i => !(Array.replicate ops.size false).getD i false) (List.range ops.size)).length <= (List.range ops.size).length := List.length_filter_le _ _
   unfold XT
   simpa using this
 . have hno : ∀ i, (Array.replicate ops.size false).getD i false = true -> False := fun i hL => by
     simp at hL; rcases Nat.lt_or_ge i ops.size with h | h <;> simp [h] at hL
   refine ⟨[], rfl, rfl, fun _ _ => rfl, fun i o d _ hL _ => (hno i hL).elim, fun i _ _ => ⟨fun hL => (hno i hL).elim, fun h => by simp at h⟩, fun h => by simp at h, by simp, fun i o _ hL => (hno i hL).elim, h0⟩

def XD (P : Program) (af : Act) (B : Nat) (W : World) : List Oper -> List Ks -> Prop
 | o :: os, .val v :: cs => (∀ w, Below B W w -> o.wp P af w (fun a' w' => a' = af.put o.dst v /\ Below w.heap.size w w') (fun _ _ _ => False)) /\ XD P af B W os cs
 | _ :: os, .step :: cs => XD P af B W os cs
 | _, _ => True
def Y1 (P : Program) (af : List Value -> Act) (B : Nat) (W : World) (G F : List Value -> World -> Prop) (m0 : Nat) : List Value -> List Oper -> List Ks -> Prop
 | us, o :: os, .step :: cs => (if us.length < m0 then ∀ w, Below B W w -> G us w -> o.wp P (af us) w (fun a' w' => ∃ u, a' = (af us).put o.dst u /\ Below B W w' /\ G (us ++ [u]) w') (fun _ _ _ => False)
  else if us.length = m0 then ∀ w, Below B W w -> G us w -> o.wp P (af us) w (fun a' w' => ∃ u, a' = (af us).put o.dst u /\ F (us ++ [u]) w') (fun _ _ _ => False)
  else ∀ w, F us w -> o.wp P (af us) w (fun a' w' => ∃ u, a' = (af us).put o.dst u /\ F (us ++ [u]) w') (fun _ _ _ => False)) /\ ∀ u, Y1 P af B W G F m0 (us ++ [u]) os cs
 | us, _ :: os, .val _ :: cs => Y1 P af B W G F m0 us os cs
 | _, _, _ => True
def JN (B : Nat) (W : World) (G F : List Value -> World -> Prop) (m0 : Nat) (us : List Value) (w : World) : Prop := if us.length <= m0 then Below B W w /\ G us w else F us w

theorem XD.to {af : Act} {B : Nat} {W : World} {G F : List Value -> World -> Prop} {m0 : Nat} : ∀ (os : List Oper) (cs : List Ks), XD P af B W os cs -> JR P af m0 (JN B W G F m0) os cs
 | [], _, _ => by unfold JR; trivial
 | _ :: _, [], _ => by unfold JR; trivial
 | o :: os, .val v :: cs, h => ⟨fun us w hus hr => by unfold JN at hr; rw [if_pos hus] at hr; exact h.1 w hr.1, XD.to os cs h.2⟩
 | o :: os, .step :: cs, h => XD.to (af := af) (B := B) (W := W) os cs h
theorem Y1.to {af : List Value -> Act} {B : Nat} {W : World} {G F : List Value -> World -> Prop} {m0 : Nat} : ∀ (os : List Oper) (cs : List Ks) (k : Nat), (∀ us, us.length = k -> Y1 P af B W G F m0 us os cs) -> Jv P af (JN B W G F m0) k os cs
 | [], _, _, _ => by unfold Jv; trivial
 | _ :: _, [], _, _ => by unfold Jv; trivial
 | o :: os, .val v :: cs, k, h => Y1.to os cs k h
 | o :: os, .step :: cs, k, h => by
  refine ⟨fun us w hus hr => ?_, Y1.to os cs (k + 1) fun us hus => ?_⟩
  . have h1 := (h us hus).1
    unfold JN at hr
    by_cases c1 : us.length < m0
    . rw [if_pos c1] at h1
      rw [if_pos (by omega)] at hr
      refine Oper.wp_mono ?_ (h1 w hr.1 hr.2)
      rintro a' w' ⟨u, rfl, hb, hg⟩
      exact ⟨u, rfl, by unfold JN; rw [if_pos (by simp; omega)]; exact ⟨hb, hg⟩⟩
    . rw [if_neg c1] at h1
      by_cases c2 : us.length = m0
      . rw [if_pos c2] at h1
        rw [if_pos (by omega)] at hr
        refine Oper.wp_mono ?_ (h1 w hr.1 hr.2)
        rintro a' w' ⟨u, rfl, hf⟩
        exact ⟨u, rfl, by unfold JN; rw [if_neg (by simp; omega)]; exact hf⟩
      . rw [if_neg c2] at h1
        rw [if_neg (by omega)] at hr
        refine Oper.wp_mono ?_ (h1 w hr)
        rintro a' w' ⟨u, rfl, hf⟩
        exact ⟨u, rfl, by unfold JN; rw [if_neg (by simp; omega)]; exact hf⟩
  . obtain ⟨us', u, rfl⟩ : ∃ us' u, us = us' ++ [u] := ⟨us.dropLast, us.getLast (by intro e; rw [e] at hus; simp at hus), (List.dropLast_concat_getLast _).symm⟩
    exact (h us' (by simpa using hus)).2 u

theorem Kd {id : Nat} {a0 : Act} {w0 : World} (cl : List Ks) (m0 m : Nat) (B : Nat) (W : World) (hB : B <= W.heap.size) (G F : List Value -> World -> Prop) (af : List Value -> Act) (hm : P.follows .mixedOrders = true) (hlen : cl.length = ops.size)
   (hback : (ops.toList.zipIdx.all fun (o, i) => o.after.all fun e => decide (e.on < i)) = true) (hguard : (ops.all fun o => o.guard.isNone) = true)
   (hdst : nodupB (ops.toList.filterMap (·.dst)) = true) (hroom : (ops.toList.filterMap (·.dst)).all (fun d => decide (d < a0.tmps.size)) = true) (hreads : readsB ops cl = true)
   (hvald : ((List.range ops.size).all fun i => Xn cl i || ((ops[i]?).bind (·.dst)).isSome) = true)
   (hchain : chainB ops cl m0 m = true) (hlast : lastB ops cl m = true) (haf : af = ZO ops cl a0)
   (hG : ∀ us w w', G us w -> Below w.heap.size w w' -> G us w') (h0 : Below B W w0) (hg0 : G [] w0.drew)
   (hval : XD P (af []) B W ops.toList cl) (hstep : Y1 P af B W G F m0 [] ops.toList cl)
   (hend : ∀ us w, us.length = m -> (if m <= m0 then Below B W w /\ G us w else F us w) -> Q .normal (af us) w) :
   (Code.region id ops true).wp P Q a0 w0 := by
 refine wp_region_chain cl m0 m (JN B W G F m0) af hm hlen hback hguard hdst hroom hreads hvald hchain hlast haf ?_ ?_ (XD.to _ _ hval) (Y1.to _ _ 0 fun us hus => ?_) fun us w hus hr => hend us w hus ?_
 . intro us w w' hus hr hb
   unfold JN at hr ⊢
   rw [if_pos hus] at hr ⊢
   exact ⟨hr.1.trans (hb.mono (Nat.le_trans hB hr.1.size)), hG us w w' hr.2 hb⟩
 . unfold JN
   rw [if_pos (by simp)]
   exact ⟨h0.drew, hg0⟩
 . obtain rfl := List.eq_nil_of_length_eq_zero hus
   exact hstep
 . unfold JN at hr
   rw [hus] at hr; exact hr
theorem YS {id : Nat} {a0 : Act} {w0 : World} (cl : List Ks) (m0 m : Nat) (W : World) (G F : List Value -> World -> Prop) (af : List Value -> Act) (hm : P.follows .mixedOrders = true) (hlen : cl.length = ops.size)
  (hback : (ops.toList.zipIdx.all fun (o, i) => o.after.all fun e => decide (e.on < i)) = true) (hguard : (ops.all fun o => o.guard.isNone) = true)
  (hdst : nodupB (ops.toList.filterMap (·.dst)) = true) (hroom : (ops.toList.filterMap (·.dst)).all (fun d => decide (d < a0.tmps.size)) = true) (hreads : readsB ops cl = true)
  (hvald : ((List.range ops.size).all fun i => Xn cl i || ((ops[i]?).bind (·.dst)).isSome) = true)
  (hchain : chainB ops cl m0 m = true) (hlast : lastB ops cl m = true) (haf : af = ZO ops cl a0)
  (hG : ∀ us w w', G us w -> Below w.heap.size w w' -> G us w') (h0 : Below W.heap.size W w0) (hg0 : G [] w0.drew)
  (hval : XD P (af []) W.heap.size W ops.toList cl) (hstep : Y1 P af W.heap.size W G F m0 [] ops.toList cl)
  (hend : ∀ us w, us.length = m -> (if m <= m0 then Below W.heap.size W w /\ G us w else F us w) -> Q .normal (af us) w) :
  (Code.region id ops true).wp P Q a0 w0 :=
 Kd cl m0 m W.heap.size W (Nat.le_refl _) G F af hm hlen hback hguard hdst hroom hreads hvald hchain hlast haf hG h0 hg0 hval hstep hend
end

structure Zu (B : Nat) (Ts : List TypeId) (w w' : World) : Prop where
 size : w.heap.size <= w'.heap.size
 block : ∀ g, g < w.heap.size -> w'.heap[g]? = w.heap[g]? ∨ (B <= g /\ ∃ T ∈ Ts, ∃ cs, ZJ w g T cs)
theorem Zu.refl (B : Nat) (Ts : List TypeId) (w : World) : Zu B Ts w w := ⟨Nat.le_refl _, fun _ _ => .inl rfl⟩
theorem Zu.trans {B : Nat} {Ts : List TypeId} {a b c : World} (h : Zu B Ts a b) (k : Zu B Ts b c) : Zu B Ts a c := by
 refine ⟨Nat.le_trans h.size k.size, fun g hg => ?_⟩
 rcases h.block g hg with e | e
 . rcases k.block g (Nat.lt_of_lt_of_le hg h.size) with e2 | ⟨h1, T, hT, cs, h2⟩
   . exact .inl (e2.trans e)
   . exact .inr ⟨h1, T, hT, cs, by unfold ZJ at h2 ⊢; rw [<- e]; exact h2⟩
 . exact .inr e
theorem Zu.drew {B : Nat} {Ts : List TypeId} {a b : World} (h : Zu B Ts a b) : Zu B Ts a b.drew := ⟨h.size, h.block⟩
theorem Zu.of_below {B : Nat} {Ts : List TypeId} {w w' : World} (h : Below w.heap.size w w') : Zu B Ts w w' := ⟨h.size, fun g hg => .inl (h.block g hg)⟩
theorem Jj (b : Nat) : ∀ (vs : List Value) (o : Nat) (w : World), (w.setCells b o vs).heap.size = w.heap.size
 | [], _, _ => rfl
 | v :: r, o, w => by rw [World.setCells, Jj b r]; simp [World.setCell]
theorem JB (b : Nat) : ∀ (vs : List Value) (o : Nat) (w : World) (g : Nat), g ≠ b -> (w.setCells b o vs).heap[g]? = w.heap[g]?
 | [], _, _, _, _ => rfl
 | v :: r, o, w, g, h => by rw [World.setCells, JB b r _ _ g h]; exact Below.heap_setCell w ⟨b, o, none⟩ v g (fun e => h e)
theorem Zu.setCells {B : Nat} {Ts : List TypeId} {w : World} {b : Nat} {T : TypeId} {cs : Array Value} (h : ZJ w b T cs) (hT : T ∈ Ts) (hb : B <= b) (o : Nat) (vs : List Value) : Zu B Ts w (w.setCells b o vs) := by
 refine ⟨by rw [Jj]; exact Nat.le_refl _, fun g hg => ?_⟩
 by_cases e : g = b
 . subst e; exact .inr ⟨hb, T, hT, cs, h⟩
 . exact .inl (JB b vs o w g e)
theorem Zu.blk {B : Nat} {Ts : List TypeId} {w w' : World} {g : Nat} {T : TypeId} {cs : Array Value} (k : Zu B Ts w w') (h : ZJ w g T cs) (hT : T ∉ Ts) : ZJ w' g T cs := by
 rcases k.block g h.lt with e | ⟨_, T', hT', cs', h'⟩
 . exact e.trans h
 . unfold ZJ at h h'
   rw [h] at h'
   injection h' with h'
   injection h' with _ h'
   subst h'
   exact absurd hT' hT
theorem Zu.own {B : Nat} {Ts : List TypeId} {w w' : World} {base : Nat} {e : TypeId} {size n : Nat} {v : Value} {xs : List Value} (k : Zu B Ts w w') (h : w.ownsRow base e size v n xs) (hT : e ∉ Ts) : w'.ownsRow base e size v n xs := by
 refine ⟨h.1, ?_⟩
 rcases h.2 with h2 | ⟨g, cap, cur, h1, h2, h3, h4⟩
 . exact .inl h2
 . exact .inr ⟨g, cap, cur, h1, h2, k.blk (T := e) h3 hT, h4⟩

section
variable {P : Program} {ops : Array Oper} {Q : Exit -> Act -> World -> Prop}

theorem wp_store_cells {op : Oper} {a : Act} {w : World} {K : Act -> World -> Prop} {Q : Exit -> Act -> World -> Prop} (ty : TypeId) (x y : Operand) (ho : op.op = .store ty x y)
  (b o : Nat) (v : Value) (hx : a.eval x = .pointer (some ⟨b, o, none⟩)) (hy : a.eval y = v)
  (ht : w.there b o v.cells.size) (hi : (P.info? ty).map (·.size) = some v.cells.size) (h1 : v.cells.all (·.oneCell') = true)
  (h : K (a.put op.dst undef) (w.setCells b o v.cells.toList)) : op.wp P a w K Q := by
 have e : ∀ a : Addr, storeVar ty a v = storeVar ty a (.agg v.cells) := fun _ => rfl
 unfold Oper.wp execOp
 simp only [ho, hx, hy, Instr.storeAt, Instr.sureAddr, Sem.run_bind, Sem.run_pure, Result.andThen_ok, e, run_storeVar_mid w b o ty v.cells ht hi h1]
 exact h

inductive XN where
 /-- a value known beforehand -/
 | val (v : Value) (ds : List Nat)
 /-- a value of which so much is told; 'mine': its memory is new -/
 | any (mine : Bool) (Φ : Value -> World -> Prop) (ds : List Nat)
 /-- a variable made -/
 | new (T : TypeId) (n : Nat)
 /-- a store into the variable that operation ia made of what operation ic handed back -/
 | put (T : TypeId) (n ia ic : Nat) (ds : List Nat)
 /-- a store into the elder block b (cells cs) from offset o on -/
 | old (b : Nat) (T : TypeId) (cs : Array Value) (o n ic : Nat) (ds : List Nat)
 /-- not done: its guard says no -/
 | skip

def XN.deps : XN -> List Nat
 | .val _ ds => ds
 | .any _ _ ds => ds
 | .put _ _ ia ic ds => ia :: ic :: ds
 | .old _ _ _ _ _ ic ds => ic :: ds
 | _ => []
def XN.isSkip : XN -> Bool
 | .skip => true
 | _ => false
def XN.hard : XN -> List Nat
 | .put _ _ ia ic _ => [ia, ic]
 | .old _ _ _ _ _ ic _ => [ic]
 | _ => []
def JJ (cl : List XN) (i : Nat) : Bool := match cl[i]? with
 | some (.any true _ _) => true
 | _ => false
def pairB (ops : Array Oper) (cl : List XN) (o : Oper) (i j : Nat) : Bool := JJ cl i && JJ cl j && i != j && (edgeB o i || Xz ops 4 o i) && (edgeB o j || Xz ops 4 o j)
def depsB (ops : Array Oper) (cl : List XN) : Bool := (List.range ops.size).all fun i => match ops[i]?, cl[i]? with
 | some o, some c => (c.deps.all fun j => if 1000000 <= j then pairB ops cl o ((j - 1000000) / 1000) ((j - 1000000) % 1000) else if 1000 <= j then (match ops[j - 1000]? with | some oj => edgeB oj i || Xz ops 4 oj i | none => false) else j == 999 || edgeB o j || Xz ops 4 o j) && c.hard.all fun j => decide (j < 1000) && (edgeB o j || Xz ops 4 o j)
 | _, _ => false
def readsF (ops : Array Oper) (cl : List XN) : Bool := (List.range ops.size).all fun i => match ops[i]?, cl[i]? with
 | some o, some c => c.isSkip || ((match o.op with | .select _ _ => false | _ => true) && o.op.operands.all fun x => match x with
  | .tmp t => (ops.all fun o' => o'.dst != some t) || o.after.any fun e => Region.binds .any e && ((ops[e.on]?).bind (·.dst) == some t)
  | _ => true)
 | _, _ => false
def guardsF (ops : Array Oper) (cl : List XN) : Bool := (List.range ops.size).all fun i => match ops[i]?, cl[i]? with
 | some o, some c => (match o.guard with
  | none => !c.isSkip
  | some (j, want) => ((ops[j]?).bind (·.dst)).isSome && (edgeB o j || Xz ops 4 o j) && (match cl[j]? with
   | some (.val (.bool b) _) => (b == want) == !c.isSkip
   | some .skip => c.isSkip
   | _ => false))
 | _, _ => false
def putsF : List XN -> List Nat
 | .put _ _ ia _ _ :: cs => ia :: putsF cs
 | _ :: cs => putsF cs
 | [] => []
def ZP : List XN -> List Nat
 | .old b _ _ _ _ _ _ :: cs => b :: ZP cs
 | _ :: cs => ZP cs
 | [] => []
def newsF (Ts : List TypeId) (cl : List XN) : Bool := cl.all fun
 | .new T _ => Ts.contains T
 | .old _ T _ _ _ _ _ => Ts.contains T
 | .put T n ia _ _ => match cl[ia]? with
  | some (.new T' n') => T == T' && n == n'
  | _ => false
 | _ => true

def Zg (ops : Array Oper) (a0 : Act) (us : List Value) : Act := ⟨ZF a0.tmps (Zn ops fun i => some (us.getD i undef)), a0.defers⟩

def YD (M : Value -> Nat -> Prop) (cl : List XN) (us : List Value) (W w : World) : List Nat -> Prop
 | [] => True
 | j :: js => (if 1000000 <= j then ∀ g, M (us.getD ((j - 1000000) / 1000) undef) g -> ¬ M (us.getD ((j - 1000000) % 1000) undef) g
  else if 1000 <= j then (match cl[j - 1000]? with
   | some (.old b T cs _ _ _ _) => ZJ w b T cs
   | _ => True)
  else if j = 999 then ∀ g, g < W.heap.size -> g ∉ ZP cl -> w.heap[g]? = W.heap[g]?
  else match cl[j]? with
   | some (.any _ Φ _) => Φ (us.getD j undef) w
   | _ => True) /\ YD M cl us W w js

def StoreF (P : Program) (a : Act) (o : Oper) (p v : Value) (n : Nat) : Prop := ∃ T X Y, o.op = .store T X Y /\ o.dst = none /\ a.eval X = p /\ a.eval Y = v /\ (P.info? T).map (·.size) = some n
def AllocF (P : Program) (o : Oper) (T : TypeId) (n : Nat) : Prop := ∃ z : Array Value, z.size = n /\ ∀ (ρ : Operand -> Value) (w : World), (execOp ρ o).run P w = .ok (.value (.pointer (some ⟨w.heap.size, 0, none⟩))) (w.alloc (.cells z T))
def JT (v : Value) (n : Nat) : Prop := v.cells.size = n /\ v.cells.all (·.oneCell') = true
def Zy (B : Nat) (Ts : List TypeId) : List XN -> Prop
 | .any _ Φ _ :: cs => (∀ u w w', Φ u w -> Zu B Ts w w' -> Φ u w') /\ Zy B Ts cs
 | _ :: cs => Zy B Ts cs
 | [] => True
def Z5 (B : Nat) (W w0 : World) : List XN -> Prop
 | .old b T cs o n _ _ :: r => (B <= b /\ b < W.heap.size /\ ZJ w0 b T cs /\ o + n <= cs.size) /\ Z5 B W w0 r
 | _ :: r => Z5 B W w0 r
 | [] => True
def ZH (P : Program) (af : List Value -> Act) (B : Nat) (Ts : List TypeId) (W : World) (M : Value -> Nat -> Prop) (cl : List XN) : List Value -> List Oper -> List XN -> Prop
 | us, o :: os, .val v ds :: cs => (∀ w, Below B W w -> Zu B Ts W w -> YD M cl us W w ds -> o.wp P (af us) w (fun a' w' => a' = (af us).put o.dst v /\ Below w.heap.size w w') (fun _ _ _ => False)) /\ ZH P af B Ts W M cl (us ++ [v]) os cs
 | us, o :: os, .any mine Φ ds :: cs => (∀ w, Below B W w -> Zu B Ts W w -> YD M cl us W w ds -> o.wp P (af us) w (fun a' w' => ∃ u, a' = (af us).put o.dst u /\ Φ u w' /\ Below w.heap.size w w' /\ (mine = true -> ∀ g, M u g -> w.heap.size <= g /\ g < w'.heap.size)) (fun _ _ _ => False)) /\ ∀ u, ZH P af B Ts W M cl (us ++ [u]) os cs
 | us, o :: os, .new T n :: cs => AllocF P o T n /\ ∀ b, ZH P af B Ts W M cl (us ++ [.pointer (some ⟨b, 0, none⟩)]) os cs
 | us, o :: os, .put _ n ia ic ds :: cs => StoreF P (af us) o (us.getD ia undef) (us.getD ic undef) n /\ (∀ w, Below B W w -> Zu B Ts W w -> YD M cl us W w (ic :: ds) -> JT (us.getD ic undef) n) /\ ZH P af B Ts W M cl (us ++ [undef]) os cs
 | us, o :: os, .old b _ _ k n ic ds :: cs => StoreF P (af us) o (.pointer (some ⟨b, k, none⟩)) (us.getD ic undef) n /\ (∀ w, Below B W w -> Zu B Ts W w -> YD M cl us W w (ic :: ds) -> JT (us.getD ic undef) n) /\ ZH P af B Ts W M cl (us ++ [undef]) os cs
 | us, _ :: os, .skip :: cs => ZH P af B Ts W M cl (us ++ [undef]) os cs
 | _, _, _ => True
def ZK (us : List Value) (w : World) : Nat -> List XN -> Prop
 | k, .any _ Φ _ :: cs => Φ (us.getD k undef) w /\ ZK us w (k + 1) cs
 | k, .put T _ ia ic _ :: cs => (∃ b, us.getD ia undef = .pointer (some ⟨b, 0, none⟩) /\ ZJ w b T (us.getD ic undef).cells) /\ ZK us w (k + 1) cs
 | k, .old b T cs0 o _ ic _ :: cs => ZJ w b T (Yd cs0 o (us.getD ic undef).cells.toList) /\ ZK us w (k + 1) cs
 | k, _ :: cs => ZK us w (k + 1) cs
 | _, [] => True
def YH (W : World) (K : List Value -> Prop) : List Value -> List XN -> Prop
 | us, .val v _ :: cs => YH W K (us ++ [v]) cs
 | us, .any _ _ _ :: cs => ∀ u, YH W K (us ++ [u]) cs
 | us, .new _ _ :: cs => ∀ b, W.heap.size <= b -> YH W K (us ++ [.pointer (some ⟨b, 0, none⟩)]) cs
 | us, .put _ _ _ _ _ :: cs => YH W K (us ++ [undef]) cs
 | us, .old _ _ _ _ _ _ _ :: cs => YH W K (us ++ [undef]) cs
 | us, .skip :: cs => YH W K (us ++ [undef]) cs
 | us, [] => K us
def newAt (cl : List XN) (i : Nat) : Bool := match cl[i]? with
 | some (.new _ _) => true
 | _ => false

def ApartF (M : Value -> Nat -> Prop) (cl : List XN) (us : List Value) : Prop := ∀ i j, JJ cl i = true -> JJ cl j = true -> i ≠ j -> ∀ g, M (us.getD i undef) g -> ¬ M (us.getD j undef) g
def TopF (M : Value -> Nat -> Prop) (lo : Nat) (cl : List XN) (us : List Value) (w : World) : Prop := ∀ i, JJ cl i = true -> ∀ g, M (us.getD i undef) g -> lo <= g /\ g < w.heap.size
def NewF (cl : List XN) (us : List Value) : Prop := ∀ i j, newAt cl i = true -> newAt cl j = true -> i ≠ j -> us.getD i undef ≠ us.getD j undef
def OnlyF (cl : List XN) (W w : World) : Prop := ∀ g, g < W.heap.size -> g ∉ ZP cl -> w.heap[g]? = W.heap[g]?
structure EndN (cl : List XN) (us : List Value) (W w : World) : Prop where
 new : NewF cl us
 only : OnlyF cl W w
theorem back_of {e : Edge} {i : Nat} (h : (!Region.binds .any e || decide (e.on < i)) = true) (hb : Region.binds .any e = true) : e.on < i := by
 rw [hb] at h
 simpa using h
theorem wpAny_inv2 (I : Array Bool -> Act -> World -> Prop) (hback : (ops.toList.zipIdx.all fun (o, i) => o.after.all fun e => !Region.binds .any e || decide (e.on < i)) = true)
  (hstep : ∀ L a w, I L a w -> ∀ i o, ops[i]? = some o -> L.size = ops.size -> L.getD i true = false -> (∀ e ∈ o.after, Region.binds .any e = true -> L.getD e.on false = true) ->
   (Region.wanted o (yielded ops a.tmps) = true -> o.wp P a w (I (L.setIfInBounds i true)) Q) /\ (Region.wanted o (yielded ops a.tmps) = false -> I (L.setIfInBounds i true) (a.put o.dst undef) w))
  (hend : ∀ L a w, I L a w -> (∀ i, i < ops.size -> L.getD i false = true) -> Q .normal a w) :
  ∀ (fuel : Nat) (L : Array Bool) (a : Act) (w : World), L.size = ops.size -> XT ops.size L <= fuel -> I L a w -> wpAny P .any ops Q fuel L a w := by
 have hall : ∀ L : Array Bool, L.size = ops.size -> Region.ready .any ops L = [] -> ∀ i, i < ops.size -> L.getD i false = true := fun L hs hr i => by
  induction i using Nat.strongRecOn with
  | _ i ih =>
   intro hi
   cases hb : L.getD i false with
   | true => rfl
   | false =>
    exfalso
    have hmem : i ∈ Region.ready .any ops L := by
     rw [mem_ready]
     have hl : i < L.size := by omega
     refine ⟨by simp [hl] at hb ⊢; exact hb, ops[i], Array.getElem?_eq_getElem hi, fun e he hbe => ?_⟩
     have h1 := List.all_eq_true.1 hback (ops[i], i) (by
      rw [List.mem_zipIdx_iff_getElem?]; simp [hi])
     simp only [Array.all_eq_true_iff_forall_mem] at h1
     have h2 := back_of (h1 e he) hbe
     exact ih e.on h2 (by omega)
    rw [hr] at hmem; cases hmem
 intro fuel
 induction fuel with
 | zero =>
  intro L a w hs hu hI
  have h0 := unlisted_zero (Nat.le_zero.1 hu)
  refine ⟨?_, hend L a w hI h0⟩
  cases hr : Region.ready .any ops L with
  | nil => rfl
  | cons i rest =>
   have hm : i ∈ Region.ready .any ops L := by rw [hr]; simp
   obtain ⟨h1, o, ho, _⟩ := mem_ready.1 hm
   have hi : i < ops.size := (Array.getElem?_eq_some_iff.1 ho).1
   have h2 := h0 i hi
   have hl : i < L.size := by omega
   simp [hl] at h1 h2
   rw [h1] at h2; cases h2
 | succ fuel ih =>
  intro L a w hs hu hI
  refine ⟨fun hr => hend L a w hI (hall L hs hr), fun i hi => ?_⟩
  obtain ⟨h1, o, ho, hp⟩ := mem_ready.1 hi
  have hlt : i < ops.size := (Array.getElem?_eq_some_iff.1 ho).1
  have hnext : ∀ a' w', I (L.setIfInBounds i true) a' w' -> wpAny P .any ops Q fuel (L.setIfInBounds i true) a' w' := fun a' w' h' => ih _ a' w' (by simp [hs]) (by
   have := unlisted_set hlt hs h1
   omega) h'
  have hst := hstep L a w hI i o ho hs h1 hp
  unfold wpOp
  simp only [ho]
  cases hw : Region.wanted o (yielded ops a.tmps) with
  | true =>
   rw [if_pos rfl]
   exact .inl (Oper.wp_mono hnext (hst.1 hw))
  | false =>
   rw [if_neg (by simp)]
   exact hnext _ _ (hst.2 hw)

def Jw (cl : List XN) (us : Nat -> Value) (j : Nat) : Prop := match cl[j]? with
 | some (.val v _) => us j = v
 | some (.any _ _ _) => True
 | some (.new _ _) => ∃ b, us j = .pointer (some ⟨b, 0, none⟩)
 | _ => us j = undef

structure FI (ops : Array Oper) (cl : List XN) (a0 : Act) (B : Nat) (Ts : List TypeId) (W : World) (M : Value -> Nat -> Prop) (us : Nat -> Value) (L : Array Bool) (a : Act) (w : World) : Prop where
 defers : a.defers = a0.defers
 size : a.tmps.size = a0.tmps.size
 out : ∀ t, (∀ (i : Nat) o, ops[i]? = some o -> L.getD i false = true -> o.dst ≠ some t) -> a.tmps[t]? = a0.tmps[t]?
 inn : ∀ (i : Nat) o d, ops[i]? = some o -> L.getD i false = true -> o.dst = some d -> a.tmps[d]? = some (us i)
 fits : ∀ j, Jw cl us j
 below : Below B W w
 kept : Zu B Ts W w
 closed : ∀ (i : Nat) o, ops[i]? = some o -> L.getD i false = true -> ∀ e ∈ o.after, Region.binds .any e = true -> L.getD e.on false = true
 told : ∀ (i : Nat) m Φ ds, cl[i]? = some (.any m Φ ds) -> L.getD i false = true -> Φ (us i) w
 top : ∀ i, JJ cl i = true -> L.getD i false = true -> ∀ g, M (us i) g -> W.heap.size <= g /\ g < w.heap.size
 apart : ∀ i j, JJ cl i = true -> JJ cl j = true -> i ≠ j -> L.getD i false = true -> L.getD j false = true -> ∀ g, M (us i) g -> ¬ M (us j) g
 new : ∀ (i : Nat) T n, cl[i]? = some (.new T n) -> L.getD i false = true -> ∃ b, us i = .pointer (some ⟨b, 0, none⟩) /\ W.heap.size <= b /\ ∃ cs, ZJ w b T cs /\ cs.size = n
 news : ∀ i j, newAt cl i = true -> newAt cl j = true -> i ≠ j -> L.getD i false = true -> L.getD j false = true -> us i ≠ us j
 put : ∀ (i : Nat) T n ia ic ds, cl[i]? = some (.put T n ia ic ds) -> L.getD i false = true -> L.getD ia false = true /\ L.getD ic false = true /\ ∃ b, us ia = .pointer (some ⟨b, 0, none⟩) /\ ZJ w b T (us ic).cells
 old : ∀ (i : Nat) b T cs o n ic ds, cl[i]? = some (.old b T cs o n ic ds) -> (L.getD i false = true -> L.getD ic false = true /\ ZJ w b T (Yd cs o (us ic).cells.toList)) /\ (L.getD i false = false -> ZJ w b T cs)
 only : ∀ g, g < W.heap.size -> g ∉ ZP cl -> w.heap[g]? = W.heap[g]?

theorem Yw {cl : List XN} {i : Nat} : JJ cl i = true ↔ ∃ Φ ds, cl[i]? = some (.any true Φ ds) := by
 unfold JJ
 constructor
 . intro h
   split at h
   . rename_i Φ ds e; exact ⟨Φ, ds, e⟩
   . cases h
 . rintro ⟨Φ, ds, e⟩; rw [e]
theorem Y2 {cl : List XN} {i : Nat} : newAt cl i = true ↔ ∃ T n, cl[i]? = some (.new T n) := by
 unfold newAt
 constructor
 . intro h
   split at h
   . rename_i T n e; exact ⟨T, n, e⟩
   . cases h
 . rintro ⟨T, n, e⟩; rw [e]

def fupd (us : Nat -> Value) (i : Nat) (u : Value) : Nat -> Value := fun j => if j = i then u else us j
theorem JG (us : Nat -> Value) (i : Nat) (u : Value) : fupd us i u i = u := by simp [fupd]
theorem fupd_ne (us : Nat -> Value) {i j : Nat} (u : Value) (h : j ≠ i) : fupd us i u j = us j := by simp [fupd, h]

section
variable {cl : List XN} {a0 : Act} {B : Nat} {Ts : List TypeId} {W : World} {M : Value -> Nat -> Prop} {us : Nat -> Value} {L : Array Bool} {a : Act} {w : World}
theorem FI.tmps {i : Nat} {o : Oper} (h : FI ops cl a0 B Ts W M us L a w) (hi : ops[i]? = some o) (hL : i < L.size) (hun : L.getD i false = false)
   (hdist : ∀ (i j : Nat) oi oj d, ops[i]? = some oi -> ops[j]? = some oj -> oi.dst = some d -> oj.dst = some d -> i = j) (hroom : ∀ (i : Nat) o d, ops[i]? = some o -> o.dst = some d -> d < a0.tmps.size)
   (v : Value) (us' : Nat -> Value) (hus : ∀ j, j ≠ i -> us' j = us j) (hv : ∀ d, o.dst = some d -> v = us' i) :
   (a.put o.dst v).defers = a0.defers /\ (a.put o.dst v).tmps.size = a0.tmps.size /\
   (∀ t, (∀ (k : Nat) ok, ops[k]? = some ok -> (L.setIfInBounds i true).getD k false = true -> ok.dst ≠ some t) -> (a.put o.dst v).tmps[t]? = a0.tmps[t]?) /\
   (∀ (k : Nat) ok d, ops[k]? = some ok -> (L.setIfInBounds i true).getD k false = true -> ok.dst = some d -> (a.put o.dst v).tmps[d]? = some (us' k)) := by
 refine ⟨?_, ?_, fun t ht => ?_, fun k ok d hk hLk hd => ?_⟩
 . cases hd : o.dst <;> simp [Act.put, h.defers]
 . cases hd : o.dst <;> simp [Act.put, h.size]
 . have h1 := ht i o hi ((Ze hL).2 (.inl rfl))
   have h2 := h.out t fun k ok hk hLk => ht k ok hk ((Ze hL).2 (.inr hLk))
   cases hd : o.dst with
   | none => exact h2
   | some d =>
     rw [<- h2]
     simp only [Act.put]
     exact Array.getElem?_setIfInBounds_ne (fun e => h1 (by rw [hd, e]))
 . rcases (Ze hL).1 hLk with rfl | hLk2
   . rw [hi] at hk; injection hk with hk; subst hk
     rw [hd, <- hv d hd]
     have := hroom k o d hi hd
     simp [Act.put, h.size, this]
   . have hne : k ≠ i := fun e => by rw [e, hun] at hLk2; cases hLk2
     rw [hus k hne, <- h.inn k ok d hk hLk2 hd]
     cases hdo : o.dst with
     | none => rfl
     | some d' =>
      simp only [Act.put]
      exact Array.getElem?_setIfInBounds_ne (fun e => hne (hdist k i ok o d hk hi hd (by rw [hdo, e])))
theorem FI.eval {i : Nat} {o : Oper} {c : XN} (h : FI ops cl a0 B Ts W M us L a w) (hi : ops[i]? = some o) (hc : cl[i]? = some c) (hns : c.isSkip = false) (hreads : readsF ops cl = true) (hdst : (ops.toList.filterMap (·.dst)).Nodup)
   (hback : (ops.toList.zipIdx.all fun (o, i) => o.after.all fun e => !Region.binds .any e || decide (e.on < i)) = true)
   (hroom : ∀ (i : Nat) o d, ops[i]? = some o -> o.dst = some d -> d < a0.tmps.size) (hp : ∀ e ∈ o.after, Region.binds .any e = true -> L.getD e.on false = true)
   (l : List Value) (hl : ∀ j, j < i -> l.getD j undef = us j) :
   (∀ cs b, o.op ≠ .select cs b) /\ ∀ x ∈ o.op.operands, a.eval x = (Zg ops a0 l).eval x := by
 have hlt : i < ops.size := (Array.getElem?_eq_some_iff.1 hi).1
 have h1 := List.all_eq_true.1 hreads i (List.mem_range.2 hlt)
 simp only [hi, hc, hns, Bool.false_or, Bool.and_eq_true] at h1
 obtain ⟨hsel, hops⟩ := h1
 refine ⟨fun cs b e => by rw [e] at hsel; simp at hsel, fun x hx => ?_⟩
 rw [Array.all_eq_true_iff_forall_mem] at hops
 have h2 := hops x hx
 cases x with
 | tmp t =>
   simp only [Bool.or_eq_true] at h2
   rcases h2 with h2 | h2
   . rw [Array.all_eq_true_iff_forall_mem] at h2
     have hno : ∀ (k : Nat) ok, ops[k]? = some ok -> ok.dst ≠ some t := fun k ok hk e => by
       have := h2 ok (Array.mem_of_getElem? hk)
       simp [e] at this
     have e1 := h.out t fun k ok hk _ => hno k ok hk
     have e2 := fill_other (Zn ops fun i => some (l.getD i undef)) t a0.tmps fun p hp e => by
       obtain ⟨k, ok, hk, hd, _⟩ := pairs_mem hp
       exact hno k ok hk (by rw [hd, e])
     show a.tmps.getD t undef = (Zg ops a0 l).tmps.getD t undef
     rw [Array.getD_eq_getD_getElem?, Array.getD_eq_getD_getElem?, e1]
     exact (congrArg (fun x : Option Value => x.getD undef) e2).symm
   . rw [<- Array.any_toList, List.any_eq_true] at h2
     obtain ⟨e, he, h3⟩ := h2
     rw [Array.mem_toList_iff] at he
     simp only [Bool.and_eq_true, beq_iff_eq] at h3
     obtain ⟨hb, hd⟩ := h3
     cases hoe : ops[e.on]? with
     | none => simp [hoe] at hd
     | some oe =>
       simp only [hoe, Option.bind_some] at hd
       have e1 := h.inn e.on oe t hoe (hp e he hb) hd
       have e2 := fill_at (Zn ops fun i => some (l.getD i undef)) (JY _ hdst) t (l.getD e.on undef) a0.tmps (hroom _ _ _ hoe hd) (pairs_has hoe hd rfl)
       have hlt2 : e.on < i := by
         have h4 := List.all_eq_true.1 hback (o, i) (by rw [List.mem_zipIdx_iff_getElem?]; simpa using hi)
         simp only [Array.all_eq_true_iff_forall_mem] at h4
         exact back_of (h4 e he) hb
       rw [hl _ hlt2] at e2
       show a.tmps.getD t undef = (Zg ops a0 l).tmps.getD t undef
       rw [Array.getD_eq_getD_getElem?, Array.getD_eq_getD_getElem?, e1]
       exact (congrArg (fun x : Option Value => x.getD undef) e2).symm
 | _ => rfl
end

def Kf (us : Nat -> Value) (i : Nat) : List Value := (List.range i).map us
theorem upTo_succ (us : Nat -> Value) (i : Nat) : Kf us (i + 1) = Kf us i ++ [us i] := by simp [Kf, List.range_succ]
theorem Ke (us : Nat -> Value) {i j : Nat} (h : j < i) : (Kf us i).getD j undef = us j := by simp [Kf, List.getD_eq_getElem?_getD, h]
def StepF (P : Program) (af : List Value -> Act) (B : Nat) (Ts : List TypeId) (W : World) (M : Value -> Nat -> Prop) (cl : List XN) (us : List Value) (o : Oper) : XN -> Prop
 | .val v ds => ∀ w, Below B W w -> Zu B Ts W w -> YD M cl us W w ds -> o.wp P (af us) w (fun a' w' => a' = (af us).put o.dst v /\ Below w.heap.size w w') (fun _ _ _ => False)
 | .any mine Φ ds => ∀ w, Below B W w -> Zu B Ts W w -> YD M cl us W w ds -> o.wp P (af us) w (fun a' w' => ∃ u, a' = (af us).put o.dst u /\ Φ u w' /\ Below w.heap.size w w' /\ (mine = true -> ∀ g, M u g -> w.heap.size <= g /\ g < w'.heap.size)) (fun _ _ _ => False)
 | .new T n => AllocF P o T n
 | .put _ n ia ic ds => StoreF P (af us) o (us.getD ia undef) (us.getD ic undef) n /\ ∀ w, Below B W w -> Zu B Ts W w -> YD M cl us W w (ic :: ds) -> JT (us.getD ic undef) n
 | .old b _ _ k n ic ds => StoreF P (af us) o (.pointer (some ⟨b, k, none⟩)) (us.getD ic undef) n /\ ∀ w, Below B W w -> Zu B Ts W w -> YD M cl us W w (ic :: ds) -> JT (us.getD ic undef) n
 | .skip => True
theorem ZH.get {af : List Value -> Act} {B : Nat} {Ts : List TypeId} {W : World} {M : Value -> Nat -> Prop} {cl : List XN} {us : Nat -> Value} : ∀ (os : List Oper) (cs : List XN) (k : Nat), (∀ j, cs[j]? = cl[k + j]?) -> (∀ j, Jw cl us j) -> ZH P af B Ts W M cl (Kf us k) os cs -> ∀ (i : Nat) o c, os[i]? = some o -> cs[i]? = some c -> StepF P af B Ts W M cl (Kf us (k + i)) o c
 | [], _, _, _, _, _, i, o, c, h1, _ => by simp at h1
 | _ :: _, [], _, _, _, _, i, o, c, _, h2 => by simp at h2
 | o' :: os, c' :: cs, k, hcs, hfit, h, i, o, c, h1, h2 => by
  have hk : cl[k]? = some c' := by have := hcs 0; simpa using this.symm
  have hf := hfit k
  unfold Jw at hf
  rw [hk] at hf
  have key : StepF P af B Ts W M cl (Kf us k) o' c' /\ ZH P af B Ts W M cl (Kf us (k + 1)) os cs := by
   rw [upTo_succ]
   cases c' with
   | val v ds => simp only at hf; rw [hf]; exact h
   | any m Φ ds => exact ⟨h.1, h.2 _⟩
   | new T n => obtain ⟨b, hb⟩ := hf; rw [hb]; exact ⟨h.1, h.2 b⟩
   | put T n ia ic ds => simp only at hf; rw [hf]; exact ⟨⟨h.1, h.2.1⟩, h.2.2⟩
   | old b T cs0 o n ic ds => simp only at hf; rw [hf]; exact ⟨⟨h.1, h.2.1⟩, h.2.2⟩
   | skip => simp only at hf; rw [hf]; exact ⟨trivial, h⟩
  cases i with
  | zero => simp at h1 h2; subst h1 h2; exact key.1
  | succ i =>
   have := ZH.get os cs (k + 1) (fun j => by have := hcs (j + 1); simpa [Nat.add_assoc, Nat.add_comm 1 j] using this) hfit key.2 i o c (by simpa using h1) (by simpa using h2)
   rwa [show k + 1 + i = k + (i + 1) by omega] at this
theorem YH.get {W : World} {K : List Value -> Prop} {cl : List XN} {us : Nat -> Value} : ∀ (cs : List XN) (k : Nat), (∀ j, cs[j]? = cl[k + j]?) -> (∀ j, Jw cl us j) -> (∀ (j : Nat) T n b, cl[j]? = some (.new T n) -> us j = .pointer (some ⟨b, 0, none⟩) -> W.heap.size <= b) -> YH W K (Kf us k) cs -> K (Kf us (k + cs.length))
 | [], k, _, _, _, h => h
 | c :: cs, k, hcs, hfit, hnew, h => by
  have hk : cl[k]? = some c := by have := hcs 0; simpa using this.symm
  have hf := hfit k
  unfold Jw at hf
  rw [hk] at hf
  have key : YH W K (Kf us (k + 1)) cs := by
   rw [upTo_succ]
   cases c with
   | val v ds => simp only at hf; rw [hf]; exact h
   | any m Φ ds => exact h _
   | new T n => obtain ⟨b, hb⟩ := hf; rw [hb]; exact h b (hnew k T n b hk hb)
   | put T n ia ic ds => simp only at hf; rw [hf]; exact h
   | old b T cs0 o n ic ds => simp only at hf; rw [hf]; exact h
   | skip => simp only at hf; rw [hf]; exact h
  have := YH.get cs (k + 1) (fun j => by have := hcs (j + 1); simpa [Nat.add_assoc, Nat.add_comm 1 j] using this) hfit hnew key
  rwa [show k + 1 + cs.length = k + (c :: cs).length by simp; omega] at this
theorem Zy.get {B : Nat} {Ts : List TypeId} : ∀ (cs : List XN), Zy B Ts cs -> ∀ (i : Nat) m Φ ds, cs[i]? = some (.any m Φ ds) -> ∀ u w w', Φ u w -> Zu B Ts w w' -> Φ u w'
 | [], _, i, _, _, _, h => by simp at h
 | c :: cs, hst, i, m, Φ, ds, h => by
  cases i with
  | zero => simp at h; subst h; exact hst.1
  | succ i =>
   have hst' : Zy B Ts cs := by cases c <;> first | exact hst.2 | exact hst
   exact Zy.get cs hst' i m Φ ds (by simpa using h)
theorem Z5.get {B : Nat} {W w0 : World} : ∀ (cs : List XN), Z5 B W w0 cs -> ∀ (i : Nat) b T c o n ic ds, cs[i]? = some (.old b T c o n ic ds) -> B <= b /\ b < W.heap.size /\ ZJ w0 b T c /\ o + n <= c.size
 | [], _, i, _, _, _, _, _, _, _, h => by simp at h
 | c :: cs, hst, i, b, T, c0, o, n, ic, ds, h => by
  cases i with
  | zero => simp at h; subst h; exact hst.1
  | succ i =>
   have hst' : Z5 B W w0 cs := by cases c <;> first | exact hst.2 | exact hst
   exact Z5.get cs hst' i b T c0 o n ic ds (by simpa using h)
theorem putsF_mem : ∀ (cl : List XN) (k : Nat) T n ia ic ds, cl[k]? = some (.put T n ia ic ds) -> ia ∈ putsF cl
 | [], k, _, _, _, _, _, h => by simp at h
 | c :: cl, k, T, n, ia, ic, ds, h => by
  cases k with
  | zero => simp at h; subst h; simp [putsF]
  | succ k =>
   have := putsF_mem cl k T n ia ic ds (by simpa using h)
   cases c <;> simp [putsF, this]
theorem putsF_inj : ∀ (cl : List XN), (putsF cl).Nodup -> ∀ (i j : Nat) T n ia ic ds T' n' ia' ic' ds', cl[i]? = some (.put T n ia ic ds) -> cl[j]? = some (.put T' n' ia' ic' ds') -> i ≠ j -> ia ≠ ia'
 | [], _, i, _, _, _, _, _, _, _, _, _, _, _, h, _, _ => by simp at h
 | c :: cl, hn, i, j, T, n, ia, ic, ds, T', n', ia', ic', ds', hi, hj, hne => by
  have hn' : (putsF cl).Nodup := by cases c <;> first | exact hn | exact (List.nodup_cons.1 hn).2
  cases i with
  | zero =>
   cases j with
   | zero => exact absurd rfl hne
   | succ j =>
    simp at hi; subst hi
    intro e; subst e
    exact (List.nodup_cons.1 hn).1 (putsF_mem cl j _ _ _ _ _ (by simpa using hj))
  | succ i =>
   cases j with
   | zero =>
    simp at hj; subst hj
    intro e; subst e
    exact (List.nodup_cons.1 hn).1 (putsF_mem cl i _ _ _ _ _ (by simpa using hi))
   | succ j => exact putsF_inj cl hn' i j _ _ _ _ _ _ _ _ _ _ (by simpa using hi) (by simpa using hj) (by omega)
theorem oldsF_mem : ∀ (cl : List XN) (k : Nat) b T c o n ic ds, cl[k]? = some (.old b T c o n ic ds) -> b ∈ ZP cl
 | [], k, _, _, _, _, _, _, _, h => by simp at h
 | c :: cl, k, b, T, c0, o, n, ic, ds, h => by
  cases k with
  | zero => simp at h; subst h; simp [ZP]
  | succ k =>
   have := oldsF_mem cl k b T c0 o n ic ds (by simpa using h)
   cases c <;> simp [ZP, this]
theorem oldsF_inj : ∀ (cl : List XN), (ZP cl).Nodup -> ∀ (i j : Nat) b T c o n ic ds b' T' c' o' n' ic' ds', cl[i]? = some (.old b T c o n ic ds) -> cl[j]? = some (.old b' T' c' o' n' ic' ds') -> i ≠ j -> b ≠ b'
 | [], _, i, _, _, _, _, _, _, _, _, _, _, _, _, _, _, _, h, _, _ => by simp at h
 | c :: cl, hn, i, j, b, T, c0, o, n, ic, ds, b', T', c', o', n', ic', ds', hi, hj, hne => by
  have hn' : (ZP cl).Nodup := by cases c <;> first | exact hn | exact (List.nodup_cons.1 hn).2
  cases i with
  | zero =>
   cases j with
   | zero => exact absurd rfl hne
   | succ j =>
    simp at hi; subst hi
    intro e; subst e
    exact (List.nodup_cons.1 hn).1 (oldsF_mem cl j _ _ _ _ _ _ _ (by simpa using hj))
  | succ i =>
   cases j with
   | zero =>
    simp at hj; subst hj
    intro e; subst e
    exact (List.nodup_cons.1 hn).1 (oldsF_mem cl i _ _ _ _ _ _ _ (by simpa using hi))
   | succ j => exact oldsF_inj cl hn' i j _ _ _ _ _ _ _ _ _ _ _ _ _ _ (by simpa using hi) (by simpa using hj) (by omega)
theorem YD.of {M : Value -> Nat -> Prop} {cl : List XN} {us : List Value} {W w : World} (hO : ∀ g, g < W.heap.size -> g ∉ ZP cl -> w.heap[g]? = W.heap[g]?) : ∀ (ds : List Nat), (∀ j ∈ ds, j < 999 -> ∀ m Φ ds', cl[j]? = some (.any m Φ ds') -> Φ (us.getD j undef) w) -> (∀ j ∈ ds, 1000 <= j -> j < 1000000 -> ∀ b T cs o n ic ds', cl[j - 1000]? = some (.old b T cs o n ic ds') -> ZJ w b T cs) -> (∀ j ∈ ds, 1000000 <= j -> ∀ g, M (us.getD ((j - 1000000) / 1000) undef) g -> ¬ M (us.getD ((j - 1000000) % 1000) undef) g) -> YD M cl us W w ds
 | [], _, _, _ => trivial
 | j :: js, h, g, q => by
  refine ⟨?_, YD.of hO js (fun k hk => h k (by simp [hk])) (fun k hk => g k (by simp [hk])) fun k hk => q k (by simp [hk])⟩
  by_cases hj3 : 1000000 <= j
  . rw [if_pos hj3]; exact q j (by simp) hj3
  rw [if_neg hj3]
  by_cases hj : 1000 <= j
  . rw [if_pos hj]
    split
    . rename_i b T cs o n ic ds' e; exact g j (by simp) hj (by omega) b T cs o n ic ds' e
    . trivial
  . rw [if_neg hj]
    by_cases hj2 : j = 999
    . rw [if_pos hj2]; exact hO
    . rw [if_neg hj2]
      split
      . rename_i m Φ ds' e; exact h j (by simp) (by omega) m Φ ds' e
      . trivial
theorem ZK.of {us : List Value} {w : World} {cl : List XN} (h1 : ∀ (i : Nat) m Φ ds, cl[i]? = some (.any m Φ ds) -> Φ (us.getD i undef) w) (h2 : ∀ (i : Nat) T n ia ic ds, cl[i]? = some (.put T n ia ic ds) -> ∃ b, us.getD ia undef = .pointer (some ⟨b, 0, none⟩) /\ ZJ w b T (us.getD ic undef).cells)
  (h3 : ∀ (i : Nat) b T c o n ic ds, cl[i]? = some (.old b T c o n ic ds) -> ZJ w b T (Yd c o (us.getD ic undef).cells.toList)) : ∀ (cs : List XN) (k : Nat), (∀ j, cs[j]? = cl[k + j]?) -> ZK us w k cs
 | [], _, _ => trivial
 | c :: cs, k, hcs => by
  have hk : cl[k]? = some c := by have := hcs 0; simpa using this.symm
  have ih := ZK.of h1 h2 h3 cs (k + 1) (fun j => by have := hcs (j + 1); simpa [Nat.add_assoc, Nat.add_comm 1 j] using this)
  cases c with
  | any m Φ ds => exact ⟨h1 k m Φ ds hk, ih⟩
  | put T n ia ic ds => exact ⟨h2 k T n ia ic ds hk, ih⟩
  | old b T c o n ic ds => exact ⟨h3 k b T c o n ic ds hk, ih⟩
  | _ => exact ih

theorem there_at {w : World} {b : Nat} {T : TypeId} {cs : Array Value} (h : ZJ w b T cs) {o n : Nat} (hn : o + n <= cs.size) : w.there b o n := fun j hj => by
 refine ⟨by rw [h.cell]; simp; omega, h.frozen _⟩
theorem Ki {L : Array Bool} (hcl : ∀ (i : Nat) o, ops[i]? = some o -> L.getD i false = true -> ∀ e ∈ o.after, Region.binds .any e = true -> L.getD e.on false = true) {k : Nat} {o : Oper} (hp : ∀ e ∈ o.after, Region.binds .any e = true -> L.getD e.on false = true)
   (h : (edgeB o k || Xz ops 4 o k) = true) : L.getD k false = true := by
 rw [Bool.or_eq_true] at h
 rcases h with h | h
 . obtain ⟨e, he, hb, rfl⟩ := any_edge h
   exact hp e he hb
 . exact reach_done hcl 4 o hp h

theorem reach_lt (hback : (ops.toList.zipIdx.all fun (o, i) => o.after.all fun e => !Region.binds .any e || decide (e.on < i)) = true) {i j : Nat} {o : Oper} (hi : ops[i]? = some o) (h : (edgeB o j || Xz ops 4 o j) = true) : j < i := by
 have hlo : ∀ (k : Nat) o', ops[k]? = some o' -> ∀ e ∈ o'.after, Region.binds .any e = true -> e.on < k := fun k o' hk e he hb => by
   have h7 := List.all_eq_true.1 hback (o', k) (by rw [List.mem_zipIdx_iff_getElem?]; simpa using hk)
   simp only [Array.all_eq_true_iff_forall_mem] at h7
   exact back_of (h7 e he) hb
 have hreach : ∀ (f : Nat) (o' : Oper) (k : Nat), ops[k]? = some o' -> Xz ops f o' j = true -> j < k := by
   intro f
   induction f with
   | zero => intro o' k _ h4; simp [Xz] at h4
   | succ f ih =>
    intro o' k hk h4
    unfold Xz at h4
    rw [<- Array.any_toList, List.any_eq_true] at h4
    obtain ⟨e, he, h5⟩ := h4
    rw [Array.mem_toList_iff] at he
    simp only [Bool.and_eq_true, Bool.or_eq_true, beq_iff_eq] at h5
    have h6 := hlo k o' hk e he h5.1
    rcases h5.2 with h7 | h7
    . omega
    . cases ho' : ops[e.on]? with
      | none => simp [ho'] at h7
      | some o2 =>
       rw [ho'] at h7
       have := ih o2 e.on ho' h7
       omega
 rw [Bool.or_eq_true] at h
 rcases h with h | h
 . obtain ⟨e, he, hb, e2⟩ := any_edge h
   have := hlo i o hi e he hb
   omega
 . exact hreach 4 o i hi h

theorem Zd {id : Nat} {a0 : Act} {w0 : World} (cl : List XN) (B : Nat) (W : World) (Ts : List TypeId) (M : Value -> Nat -> Prop) (af : List Value -> Act) (hm : P.follows .mixedOrders = true) (hB : B <= W.heap.size) (hW : Below B W w0) (hK : Zu B Ts W w0) (hlen : cl.length = ops.size)
   (hback : (ops.toList.zipIdx.all fun (o, i) => o.after.all fun e => !Region.binds .any e || decide (e.on < i)) = true) (hguard : guardsF ops cl = true)
   (hdst : nodupB (ops.toList.filterMap (·.dst)) = true) (hroom : (ops.toList.filterMap (·.dst)).all (fun d => decide (d < a0.tmps.size)) = true) (hreads : readsF ops cl = true)
   (hdeps : depsB ops cl = true) (hputs : nodupB (putsF cl) = true) (hnews : newsF Ts cl = true) (haf : af = Zg ops a0) (holds : (ZP cl).Nodup)
   (hst : Zy B Ts cl) (hold : Z5 B W w0 cl) (hsteps : ZH P af B Ts W M cl [] ops.toList cl)
   (hend : YH W (fun us => ∀ w, Below B W w -> Zu B Ts W w -> ZK us w 0 cl -> ApartF M cl us -> TopF M W.heap.size cl us w -> EndN cl us W w -> Q .normal (af us) w) [] cl) (hO : ∀ g, g < W.heap.size -> g ∉ ZP cl -> w0.heap[g]? = W.heap[g]? := by intros; rfl) :
   (Code.region id ops true).wp P Q a0 w0 := by
 subst haf
 have hnd := JZ hdst
 have hdist := dst_inj hnd
 have hroom' : ∀ (i : Nat) o d, ops[i]? = some o -> o.dst = some d -> d < a0.tmps.size := fun i o d hi hd =>
   of_decide_eq_true (List.all_eq_true.1 hroom d (by rw [List.mem_filterMap]; exact ⟨o, Array.mem_toList_iff.2 (Array.mem_of_getElem? hi), hd⟩))
 have hclAt : ∀ i, i < ops.size -> ∃ c, cl[i]? = some c := fun i hi => ⟨cl[i]'(by omega), List.getElem?_eq_getElem (by omega)⟩
 have hinOps : ∀ {i : Nat} {c : XN}, cl[i]? = some c -> i < ops.size := fun {i c} h => by
   have := (List.getElem?_eq_some_iff.1 h).1
   omega
 have hnewT : ∀ {i : Nat} {T : TypeId} {n : Nat}, cl[i]? = some (.new T n) -> T ∈ Ts := fun {i T n} h => by
   have := List.all_eq_true.1 hnews _ (List.mem_of_getElem? h)
   simpa using this
 have holdT : ∀ {i : Nat} {b : Nat} {T : TypeId} {cs : Array Value} {o n ic : Nat} {ds : List Nat}, cl[i]? = some (.old b T cs o n ic ds) -> T ∈ Ts := fun {i b T cs o n ic ds} h => by
   have := List.all_eq_true.1 hnews _ (List.mem_of_getElem? h)
   simpa using this
 have hputN : ∀ {i : Nat} {T : TypeId} {n ia ic : Nat} {ds : List Nat}, cl[i]? = some (.put T n ia ic ds) -> cl[ia]? = some (.new T n) := fun {i T n ia ic ds} h => by
   have h1 := List.all_eq_true.1 hnews _ (List.mem_of_getElem? h)
   simp only at h1
   split at h1
   . rename_i T' n' e
     simp only [Bool.and_eq_true, beq_iff_eq] at h1
     rw [e, h1.1, h1.2]
   . cases h1
 refine wp_region_any hm (wpAny_inv2 (fun L a w => ∃ us, FI ops cl a0 B Ts W M us L a w) hback ?_ ?_ _ _ _ _ (by simp) ?_ ?_)
 . rintro L a w ⟨us, h⟩ i o hi hs hun hp
   have hlt : i < ops.size := (Array.getElem?_eq_some_iff.1 hi).1
   have hL : i < L.size := by omega
   have hun' : L.getD i false = false := by simp [hL] at hun ⊢; exact hun
   have hkeep : ∀ j, j ≠ i -> (L.setIfInBounds i true).getD j false = L.getD j false := fun j hj => getD_set_ne false (Ne.symm hj)
   have hne : ∀ j, L.getD j false = true -> j ≠ i := fun j hj e => by rw [e, hun'] at hj; cases hj
   obtain ⟨c, hc⟩ := hclAt i hlt
   have hclosed : ∀ (j : Nat) oj, ops[j]? = some oj -> (L.setIfInBounds i true).getD j false = true -> ∀ e ∈ oj.after, Region.binds .any e = true -> (L.setIfInBounds i true).getD e.on false = true := fun j oj hj hLj e he hb => by
     rw [Ze hL] at hLj ⊢
     rcases hLj with rfl | hLj
     . rw [hi] at hj; injection hj with hj; subst hj
       exact .inr (hp e he hb)
     . exact .inr (h.closed j oj hj hLj e he hb)
   have hwant : Region.wanted o (yielded ops a.tmps) = !c.isSkip := by
     have h1 := List.all_eq_true.1 hguard i (List.mem_range.2 hlt)
     simp only [hi, hc] at h1
     unfold Region.wanted
     cases hg : o.guard with
     | none => simp only [hg] at h1; exact h1.symm
     | some jw =>
       obtain ⟨j, want⟩ := jw
       simp only [hg, Bool.and_eq_true] at h1
       obtain ⟨⟨hjd, hje⟩, hjc⟩ := h1
       have hLj := Ki h.closed hp hje
       obtain ⟨d, hd⟩ := Option.isSome_iff_exists.1 hjd
       obtain ⟨oj, hoj, hdj⟩ := bind_dst hd
       have htj := h.inn j oj d hoj hLj hdj
       have hfj := h.fits j
       unfold Jw at hfj
       simp only [yielded, hd, Option.bind_some, htj]
       cases hcj : cl[j]? with
       | none => simp [hcj] at hjc
       | some cj =>
         rw [hcj] at hfj hjc
         cases cj with
         | val v ds =>
           simp only at hfj hjc
           rw [hfj]
           cases v <;> simp at hjc ⊢
           rw [<- hjc]
         | skip =>
           simp only at hfj hjc
           rw [hfj, hjc]
           simp [undef]
         | _ => simp at hjc
   have hlist : ∀ j, j < i -> (Kf us i).getD j undef = us j := fun j hj => Ke us hj
   have hstep := ZH.get ops.toList cl 0 (fun j => by simp) h.fits hsteps i o c (by simpa using hi) hc
   rw [Nat.zero_add] at hstep
   have hdep : ∀ ds, (∀ j ∈ ds, j ∈ c.deps) -> YD M cl (Kf us i) W w ds := fun ds hds => YD.of h.only ds (fun j hj hjs m Φ ds' hcj => by
     have h1 := List.all_eq_true.1 hdeps i (List.mem_range.2 hlt)
     simp only [hi, hc, Bool.and_eq_true] at h1
     have h2 := List.all_eq_true.1 h1.1 j (hds j hj)
     rw [if_neg (by omega), if_neg (by omega), show (j == 999) = false by simp; omega, Bool.false_or] at h2
     have hLj := Ki h.closed hp h2
     have hji : j < i := reach_lt hback hi h2
     rw [hlist j hji]
     exact h.told j m Φ ds' hcj hLj) (fun j hj hjs hjm b T cs o' n ic ds' hcj => by
     have h1 := List.all_eq_true.1 hdeps i (List.mem_range.2 hlt)
     simp only [hi, hc, Bool.and_eq_true] at h1
     have h2 := List.all_eq_true.1 h1.1 j (hds j hj)
     rw [if_neg (by omega), if_pos hjs] at h2
     refine (h.old (j - 1000) b T cs o' n ic ds' hcj).2 ?_
     cases hLj : L.getD (j - 1000) false with
     | false => rfl
     | true =>
       cases hoj : ops[j - 1000]? with
       | none => rw [hoj] at h2; cases h2
       | some oj =>
         rw [hoj] at h2
         have := Ki h.closed (h.closed _ _ hoj hLj) h2
         rw [hun'] at this
         cases this) fun j hj hjs => by
     have h1 := List.all_eq_true.1 hdeps i (List.mem_range.2 hlt)
     simp only [hi, hc, Bool.and_eq_true] at h1
     have h2 := List.all_eq_true.1 h1.1 j (hds j hj)
     rw [if_pos hjs] at h2
     unfold pairB at h2
     rw [Bool.and_eq_true, Bool.and_eq_true, Bool.and_eq_true, Bool.and_eq_true] at h2
     obtain ⟨⟨⟨⟨m1, m2⟩, m3⟩, m4⟩, m5⟩ := h2
     rw [hlist _ (reach_lt hback hi m4), hlist _ (reach_lt hback hi m5)]
     exact h.apart _ _ m1 m2 (by simpa using m3) (Ki h.closed hp m4) (Ki h.closed hp m5)
   have hLdep : ∀ j ∈ c.hard, L.getD j false = true := fun j hj => by
     have h1 := List.all_eq_true.1 hdeps i (List.mem_range.2 hlt)
     simp only [hi, hc, Bool.and_eq_true] at h1
     exact Ki h.closed hp (Bool.and_eq_true_iff.1 (List.all_eq_true.1 h1.2 j hj)).2
   have hdepLt : ∀ j ∈ c.hard, j < i := fun j hj => by
     have h1 := List.all_eq_true.1 hdeps i (List.mem_range.2 hlt)
     simp only [hi, hc, Bool.and_eq_true] at h1
     exact reach_lt hback hi (Bool.and_eq_true_iff.1 (List.all_eq_true.1 h1.2 j hj)).2
   -- what stays when memory grows alone and the values of what is done stay
   have grow : ∀ (us' : Nat -> Value) (w' : World), Below w.heap.size w w' -> (∀ j, j ≠ i -> us' j = us j) -> (∀ j, Jw cl us' j) -> ∀ v, (∀ d, o.dst = some d -> v = us' i) -> (∀ T n, cl[i]? = some (.new T n) -> ∃ b, us' i = .pointer (some ⟨b, 0, none⟩) /\ w.heap.size <= b /\ ∃ cs, ZJ w' b T cs /\ cs.size = n) ->
       (∀ m Φ ds, cl[i]? = some (.any m Φ ds) -> Φ (us' i) w') -> (JJ cl i = true -> ∀ g, M (us' i) g -> w.heap.size <= g /\ g < w'.heap.size) -> (∀ T n ia ic ds, cl[i]? ≠ some (.put T n ia ic ds)) -> (∀ b T cs k n ic ds, cl[i]? ≠ some (.old b T cs k n ic ds)) ->
       FI ops cl a0 B Ts W M us' (L.setIfInBounds i true) (a.put o.dst v) w' := fun us' w' hb hus hfit v hv hnew htold hmine hnp hno => by
     obtain ⟨t1, t2, t3, t4⟩ := h.tmps hi hL hun' hdist hroom' v us' hus hv
     refine ⟨t1, t2, t3, t4, hfit, h.below.trans (hb.mono (Nat.le_trans hB h.below.size)), h.kept.trans (Zu.of_below hb), hclosed, ?_, ?_, ?_, ?_, ?_, ?_, ?_, fun g hg hn => (hb.block g (Nat.lt_of_lt_of_le hg h.kept.size)).trans (h.only g hg hn)⟩
     . intro k m Φ ds hk hLk
       rcases (Ze hL).1 hLk with rfl | hLk
       . exact htold m Φ ds hk
       . rw [hus k (hne k hLk)]
         exact Zy.get cl hst k m Φ ds hk _ _ _ (h.told k m Φ ds hk hLk) (Zu.of_below hb)
     . intro k hk hLk g hg
       rcases (Ze hL).1 hLk with rfl | hLk
       . have := hmine hk g hg
         have := h.below.size
         omega
       . rw [hus k (hne k hLk)] at hg
         have := h.top k hk hLk g hg
         have := hb.size
         omega
     . intro k j hk hj hkj hLk hLj g hg hg2
       rcases (Ze hL).1 hLk with rfl | hLk2
       . rcases (Ze hL).1 hLj with rfl | hLj2
         . exact hkj rfl
         . rw [hus j (hne j hLj2)] at hg2
           have := hmine hk g hg
           have := h.top j hj hLj2 g hg2
           omega
       . rcases (Ze hL).1 hLj with rfl | hLj2
         . rw [hus k (hne k hLk2)] at hg
           have := hmine hj g hg2
           have := h.top k hk hLk2 g hg
           omega
         . rw [hus k (hne k hLk2)] at hg
           rw [hus j (hne j hLj2)] at hg2
           exact h.apart k j hk hj hkj hLk2 hLj2 g hg hg2
     . intro k T n hk hLk
       rcases (Ze hL).1 hLk with rfl | hLk
       . obtain ⟨b, h1, h2, h3⟩ := hnew T n hk
         exact ⟨b, h1, Nat.le_trans h.below.size h2, h3⟩
       . rw [hus k (hne k hLk)]
         obtain ⟨b, h1, h2, cs, h3, h4⟩ := h.new k T n hk hLk
         exact ⟨b, h1, h2, cs, h3.below hb h3.lt, h4⟩
     . intro k j hk hj hkj hLk hLj
       have hfar : ∀ m, newAt cl m = true -> L.getD m false = true -> newAt cl i = true -> us m ≠ us' i := fun m hm hLm hin e => by
         obtain ⟨T, n, hm'⟩ := Y2.1 hm
         obtain ⟨T', n', hi'⟩ := Y2.1 hin
         obtain ⟨b, h1, h2, cs, h3, h4⟩ := h.new m T n hm' hLm
         obtain ⟨b', h1', h2', _⟩ := hnew T' n' hi'
         rw [h1, h1'] at e
         injection e with e
         injection e with e
         injection e with e
         have := h3.lt
         omega
       rcases (Ze hL).1 hLk with rfl | hLk2
       . rcases (Ze hL).1 hLj with rfl | hLj2
         . exact absurd rfl hkj
         . rw [hus j (hne j hLj2)]
           exact Ne.symm (hfar j hj hLj2 hk)
       . rcases (Ze hL).1 hLj with rfl | hLj2
         . rw [hus k (hne k hLk2)]
           exact hfar k hk hLk2 hj
         . rw [hus k (hne k hLk2), hus j (hne j hLj2)]
           exact h.news k j hk hj hkj hLk2 hLj2
     . intro k T n ia ic ds hk hLk
       rcases (Ze hL).1 hLk with rfl | hLk
       . exact absurd hk (hnp _ _ _ _ _)
       . obtain ⟨h1, h2, b, h3, h4⟩ := h.put k T n ia ic ds hk hLk
         exact ⟨(Ze hL).2 (.inr h1), (Ze hL).2 (.inr h2), b, by rw [hus ia (hne ia h1)]; exact h3, by rw [hus ic (hne ic h2)]; exact h4.below hb h4.lt⟩
     . intro k b T cs k0 n ic ds hk
       have hki : k ≠ i := fun e => by subst e; exact hno _ _ _ _ _ _ _ hk
       rw [hkeep k hki]
       obtain ⟨h1, h2⟩ := h.old k b T cs k0 n ic ds hk
       refine ⟨fun hLk => ?_, fun hLk => ?_⟩
       . obtain ⟨h3, h4⟩ := h1 hLk
         exact ⟨(Ze hL).2 (.inr h3), by rw [hus ic (hne ic h3)]; exact h4.below hb h4.lt⟩
       . exact (h2 hLk).below hb (h2 hLk).lt
   have fitsSame : ∀ u, (∃ m Φ ds, c = .any m Φ ds) ∨ (∃ T n, c = .new T n /\ ∃ b, u = .pointer (some ⟨b, 0, none⟩)) -> ∀ j, Jw cl (fupd us i u) j := fun u hu j => by
     by_cases e : j = i
     . subst e
       unfold Jw
       rw [hc]
       rcases hu with ⟨m, Φ, ds, rfl⟩ | ⟨T, n, rfl, b, rfl⟩
       . trivial
       . exact ⟨b, JG _ _ _⟩
     . have := h.fits j
       unfold Jw at this ⊢
       rw [fupd_ne _ _ e]
       exact this
   have hfi := h.fits i
   unfold Jw at hfi
   rw [hc] at hfi
   refine ⟨fun hw => ?_, fun hw => ?_⟩
   . rw [hwant] at hw
     have hns : c.isSkip = false := by simpa using hw
     obtain ⟨hsel, hev⟩ := h.eval hi hc hns hreads hnd hback hroom' hp (Kf us i) hlist
     cases c with
     | skip => cases hns
     | val v ds =>
       have h1 := Oper.wp_mono (K' := fun a' w' => ∃ u, a' = (Zg ops a0 (Kf us i)).put o.dst u /\ ((∀ d, o.dst = some d -> u = v) /\ Below w.heap.size w w')) (fun a' w' ⟨e, hb⟩ => ⟨v, e, fun _ _ => rfl, hb⟩) (hstep w h.below h.kept (hdep ds fun j hj => hj))
       unfold Oper.wp at h1
       rw [<- execOp_congr o hsel hev] at h1
       have h2 := upon_step (a2 := a) (Q := Q) (by intro d hd; simp only [Zg, Kn]; exact hroom' i o d hi hd) h1
       refine Oper.wp_mono ?_ h2
       rintro a' w' ⟨u, rfl, hu, hb⟩
       have huv : a.put o.dst u = a.put o.dst v := by
         cases hd : o.dst with
         | none => rfl
         | some d => rw [hu d hd]
       rw [huv]
       simp only at hfi
       exact ⟨us, grow us w' hb (fun _ _ => rfl) h.fits v (fun _ _ => hfi.symm) (fun T n e => by rw [hc] at e; cases e) (fun m Φ ds e => by rw [hc] at e; cases e) (fun hmi => by obtain ⟨Φ, ds, e⟩ := Yw.1 hmi; rw [hc] at e; cases e) (fun _ _ _ _ _ e => by rw [hc] at e; cases e) (fun _ _ _ _ _ _ _ e => by rw [hc] at e; cases e)⟩
     | any m Φ ds =>
       have h1 := hstep w h.below h.kept (hdep ds fun j hj => hj)
       unfold Oper.wp at h1
       rw [<- execOp_congr o hsel hev] at h1
       have h2 := upon_step (a2 := a) (Q := Q) (by intro d hd; simp only [Zg, Kn]; exact hroom' i o d hi hd) h1
       refine Oper.wp_mono ?_ h2
       rintro a' w' ⟨u, rfl, hΦ, hb, hmine⟩
       exact ⟨fupd us i u, grow (fupd us i u) w' hb (fun j hj => fupd_ne _ _ hj) (fitsSame u (.inl ⟨m, Φ, ds, rfl⟩)) u (fun _ _ => (JG _ _ _).symm) (fun T n e => by rw [hc] at e; cases e)
         (fun m' Φ' ds' e => by rw [hc] at e; injection e with e; injection e with e1 e2 e3; rw [JG, <- e2]; exact hΦ)
         (fun hmi => by obtain ⟨Φ', ds', e⟩ := Yw.1 hmi; rw [hc] at e; injection e with e; injection e with e1 e2 e3; rw [JG]; exact hmine e1) (fun _ _ _ _ _ e => by rw [hc] at e; cases e) (fun _ _ _ _ _ _ _ e => by rw [hc] at e; cases e)⟩
     | new T n =>
       obtain ⟨z, hz, hrun⟩ := hstep
       unfold Oper.wp
       rw [hrun, Oper.upon_value]
       exact ⟨fupd us i (.pointer (some ⟨w.heap.size, 0, none⟩)), grow (fupd us i (.pointer (some ⟨w.heap.size, 0, none⟩))) (w.alloc (.cells z T)) ((Below.refl _ _).alloc (Nat.le_refl _) _) (fun j hj => fupd_ne _ _ hj) (fitsSame _ (.inr ⟨T, n, rfl, _, rfl⟩)) _ (fun _ _ => (JG _ _ _).symm)
         (fun T' n' e => by rw [hc] at e; injection e with e; injection e with e1 e2; subst e1 e2; exact ⟨_, JG _ _ _, Nat.le_refl _, z, ZJ.new w T z, hz⟩)
         (fun m Φ ds e => by rw [hc] at e; cases e) (fun hmi => by obtain ⟨Φ, ds, e⟩ := Yw.1 hmi; rw [hc] at e; cases e) (fun _ _ _ _ _ e => by rw [hc] at e; cases e) (fun _ _ _ _ _ _ _ e => by rw [hc] at e; cases e)⟩
     | put T n ia ic ds =>
       obtain ⟨⟨T1, X, Y, hop, hdo, hX, hY, hinfo⟩, hcell⟩ := hstep
       obtain ⟨hsz, hone⟩ := hcell w h.below h.kept (hdep (ic :: ds) fun j hj => by simp only [XN.deps]; exact List.mem_cons_of_mem _ hj)
       have hLa := hLdep ia (by simp [XN.hard])
       have hLc := hLdep ic (by simp [XN.hard])
       have hia := hdepLt ia (by simp [XN.hard])
       have hic := hdepLt ic (by simp [XN.hard])
       have hnewA := hputN hc
       obtain ⟨b, hb1, hb2, cs, hb3, hb4⟩ := h.new ia T n hnewA hLa
       rw [hlist ic hic] at hY hsz hone
       rw [hlist ia hia, hb1] at hX
       have eX := hev X (by rw [hop]; simp [Op.operands])
       have eY := hev Y (by rw [hop]; simp [Op.operands])
       refine wp_store_cells T1 X Y hop b 0 (us ic) (by rw [eX]; exact hX) (by rw [eY]; exact hY) (there_at hb3 (by omega)) (by rw [hsz]; exact hinfo) hone ?_
       obtain ⟨t1, t2, t3, t4⟩ := h.tmps hi hL hun' hdist hroom' undef us (fun _ _ => rfl) (fun d hd => by rw [hdo] at hd; cases hd)
       have hTs := hnewT hnewA
       have hBb := Nat.le_trans hB hb2
       have hblt := hb3.lt
       have hoth : ∀ k b', newAt cl k = true -> L.getD k false = true -> k ≠ ia -> us k = .pointer (some ⟨b', 0, none⟩) -> b' ≠ b := fun k b' hk hLk hka e e2 => by
         subst e2
         exact h.news k ia hk (Y2.2 ⟨T, n, hnewA⟩) hka hLk hLa (by rw [e, hb1])
       refine ⟨us, t1, t2, t3, t4, h.fits, JP hBb _ _ _ h.below, h.kept.trans (Zu.setCells hb3 hTs hBb _ _), hclosed, ?_, ?_, ?_, ?_, ?_, ?_, ?_, fun g hg hn => (JB _ _ _ _ g (by omega)).trans (h.only g hg hn)⟩
       . intro k m Φ ds' hk hLk
         rcases (Ze hL).1 hLk with rfl | hLk
         . rw [hc] at hk; cases hk
         . exact Zy.get cl hst k m Φ ds' hk _ _ _ (h.told k m Φ ds' hk hLk) (Zu.setCells hb3 hTs hBb _ _)
       . intro k hk hLk g hg
         rcases (Ze hL).1 hLk with rfl | hLk
         . obtain ⟨_, _, e⟩ := Yw.1 hk; rw [hc] at e; cases e
         . rw [Jj]; exact h.top k hk hLk g hg
       . intro k j hk hj hkj hLk hLj
         rcases (Ze hL).1 hLk with rfl | hLk
         . obtain ⟨_, _, e⟩ := Yw.1 hk; rw [hc] at e; cases e
         . rcases (Ze hL).1 hLj with rfl | hLj
           . obtain ⟨_, _, e⟩ := Yw.1 hj; rw [hc] at e; cases e
           . exact h.apart k j hk hj hkj hLk hLj
       . intro k T' n' hk hLk
         rcases (Ze hL).1 hLk with rfl | hLk
         . rw [hc] at hk; cases hk
         . obtain ⟨b', g1, g2, cs', g3, g4⟩ := h.new k T' n' hk hLk
           by_cases e : k = ia
           . subst e
             rw [hb1] at g1
             injection g1 with g1
             injection g1 with g1
             injection g1 with g1
             subst g1
             exact ⟨_, hb1, g2, _, g3.setCells _ _ _ _, by rw [setAll_size, g4]⟩
           . exact ⟨b', g1, g2, cs', g3.setCells_far (hoth k b' (Y2.2 ⟨_, _, hk⟩) hLk e g1) _ _ _, g4⟩
       . intro k j hk hj hkj hLk hLj
         rcases (Ze hL).1 hLk with rfl | hLk
         . obtain ⟨_, _, e⟩ := Y2.1 hk; rw [hc] at e; cases e
         . rcases (Ze hL).1 hLj with rfl | hLj
           . obtain ⟨_, _, e⟩ := Y2.1 hj; rw [hc] at e; cases e
           . exact h.news k j hk hj hkj hLk hLj
       . intro k T' n' ja jc ds' hk hLk
         rcases (Ze hL).1 hLk with rfl | hLk
         . rw [hc] at hk; injection hk with hk; injection hk with e1 e2 e3 e4 e5
           subst e1 e2 e3 e4
           refine ⟨(Ze hL).2 (.inr hLa), (Ze hL).2 (.inr hLc), b, hb1, ?_⟩
           have := hb3.setCells (us ic).cells.toList 0
           rwa [setAll_all _ _ (by omega)] at this
         . obtain ⟨g1, g2, b', g3, g4⟩ := h.put k T' n' ja jc ds' hk hLk
           have hka : ja ≠ ia := putsF_inj cl (JZ hputs) k i _ _ _ _ _ _ _ _ _ _ hk hc (fun e => hne k hLk e)
           exact ⟨(Ze hL).2 (.inr g1), (Ze hL).2 (.inr g2), b', g3, g4.setCells_far (hoth ja b' (Y2.2 ⟨_, _, hputN hk⟩) g1 hka g3) _ _ _⟩
       . intro k b' T' cs' k0 n' jc ds' hk
         have hki : k ≠ i := fun e => by subst e; rw [hc] at hk; cases hk
         rw [hkeep k hki]
         obtain ⟨g1, g2⟩ := h.old k b' T' cs' k0 n' jc ds' hk
         have hb' := (Z5.get cl hold k b' T' cs' k0 n' jc ds' hk).2.1
         refine ⟨fun hLk => ?_, fun hLk => (g2 hLk).setCells_far (by omega) _ _ _⟩
         obtain ⟨g3, g4⟩ := g1 hLk
         exact ⟨(Ze hL).2 (.inr g3), g4.setCells_far (by omega) _ _ _⟩
     | old b T cs k0 n ic ds =>
       obtain ⟨⟨T1, X, Y, hop, hdo, hX, hY, hinfo⟩, hcell⟩ := hstep
       obtain ⟨hsz, hone⟩ := hcell w h.below h.kept (hdep (ic :: ds) fun j hj => hj)
       have hLc := hLdep ic (by simp [XN.hard])
       have hic := hdepLt ic (by simp [XN.hard])
       obtain ⟨hb1, hb2, _, hb4⟩ := Z5.get cl hold i b T cs k0 n ic ds hc
       have hb3 := (h.old i b T cs k0 n ic ds hc).2 hun'
       rw [hlist ic hic] at hY hsz hone
       have eX := hev X (by rw [hop]; simp [Op.operands])
       have eY := hev Y (by rw [hop]; simp [Op.operands])
       refine wp_store_cells T1 X Y hop b k0 (us ic) (by rw [eX]; exact hX) (by rw [eY]; exact hY) (there_at hb3 (by omega)) (by rw [hsz]; exact hinfo) hone ?_
       obtain ⟨t1, t2, t3, t4⟩ := h.tmps hi hL hun' hdist hroom' undef us (fun _ _ => rfl) (fun d hd => by rw [hdo] at hd; cases hd)
       have hTs := holdT hc
       refine ⟨us, t1, t2, t3, t4, h.fits, JP hb1 _ _ _ h.below, h.kept.trans (Zu.setCells hb3 hTs hb1 _ _), hclosed, ?_, ?_, ?_, ?_, ?_, ?_, ?_, fun g hg hn => (JB _ _ _ _ g (fun e => hn (e ▸ oldsF_mem cl i _ _ _ _ _ _ _ hc))).trans (h.only g hg hn)⟩
       . intro k m Φ ds' hk hLk
         rcases (Ze hL).1 hLk with rfl | hLk
         . rw [hc] at hk; cases hk
         . exact Zy.get cl hst k m Φ ds' hk _ _ _ (h.told k m Φ ds' hk hLk) (Zu.setCells hb3 hTs hb1 _ _)
       . intro k hk hLk g hg
         rcases (Ze hL).1 hLk with rfl | hLk
         . obtain ⟨_, _, e⟩ := Yw.1 hk; rw [hc] at e; cases e
         . rw [Jj]; exact h.top k hk hLk g hg
       . intro k j hk hj hkj hLk hLj
         rcases (Ze hL).1 hLk with rfl | hLk
         . obtain ⟨_, _, e⟩ := Yw.1 hk; rw [hc] at e; cases e
         . rcases (Ze hL).1 hLj with rfl | hLj
           . obtain ⟨_, _, e⟩ := Yw.1 hj; rw [hc] at e; cases e
           . exact h.apart k j hk hj hkj hLk hLj
       . intro k T' n' hk hLk
         rcases (Ze hL).1 hLk with rfl | hLk
         . rw [hc] at hk; cases hk
         . obtain ⟨b', g1, g2, cs', g3, g4⟩ := h.new k T' n' hk hLk
           exact ⟨b', g1, g2, cs', g3.setCells_far (by omega) _ _ _, g4⟩
       . intro k j hk hj hkj hLk hLj
         rcases (Ze hL).1 hLk with rfl | hLk
         . obtain ⟨_, _, e⟩ := Y2.1 hk; rw [hc] at e; cases e
         . rcases (Ze hL).1 hLj with rfl | hLj
           . obtain ⟨_, _, e⟩ := Y2.1 hj; rw [hc] at e; cases e
           . exact h.news k j hk hj hkj hLk hLj
       . intro k T' n' ja jc ds' hk hLk
         rcases (Ze hL).1 hLk with rfl | hLk
         . rw [hc] at hk; cases hk
         . obtain ⟨g1, g2, b', g3, g4⟩ := h.put k T' n' ja jc ds' hk hLk
           obtain ⟨b2, g5, g6, _⟩ := h.new ja T' n' (hputN hk) g1
           rw [g3] at g5
           injection g5 with g5
           injection g5 with g5
           injection g5 with g5
           exact ⟨(Ze hL).2 (.inr g1), (Ze hL).2 (.inr g2), b', g3, g4.setCells_far (by omega) _ _ _⟩
       . intro k b' T' cs' k1 n' jc ds' hk
         obtain ⟨g1, g2⟩ := h.old k b' T' cs' k1 n' jc ds' hk
         by_cases hki : k = i
         . subst hki
           rw [hc] at hk; injection hk with hk; injection hk with e1 e2 e3 e4 e5 e6 e7
           subst e1 e2 e3 e4 e6
           refine ⟨fun _ => ⟨(Ze hL).2 (.inr hLc), hb3.setCells _ _ _ _⟩, fun hLk => ?_⟩
           rw [(Ze hL).2 (.inl rfl)] at hLk; cases hLk
         . rw [hkeep k hki]
           have hbb : b' ≠ b := oldsF_inj cl holds k i _ _ _ _ _ _ _ _ _ _ _ _ _ _ hk hc hki
           refine ⟨fun hLk => ?_, fun hLk => (g2 hLk).setCells_far hbb _ _ _⟩
           obtain ⟨g3, g4⟩ := g1 hLk
           exact ⟨(Ze hL).2 (.inr g3), g4.setCells_far hbb _ _ _⟩
   . rw [hwant] at hw
     have hsk : c.isSkip = true := by simpa using hw
     cases c with
     | skip =>
       simp only at hfi
       exact ⟨us, grow us w (Below.refl _ _) (fun _ _ => rfl) h.fits undef (fun _ _ => hfi.symm) (fun T n e => by rw [hc] at e; cases e) (fun m Φ ds e => by rw [hc] at e; cases e) (fun hmi => by obtain ⟨Φ, ds, e⟩ := Yw.1 hmi; rw [hc] at e; cases e) (fun _ _ _ _ _ e => by rw [hc] at e; cases e) (fun _ _ _ _ _ _ _ e => by rw [hc] at e; cases e)⟩
     | _ => cases hsk
 . rintro L a w ⟨us, h⟩ hdone
   have hact : a = Zg ops a0 (Kf us cl.length) := by
     obtain ⟨t, d⟩ := a
     have h1 := h.defers
     simp only at h1
     subst h1
     unfold Zg
     have hget : ∀ (i : Nat) (o : Oper), ops[i]? = some o -> (Kf us cl.length).getD i undef = us i := fun i o hi => Ke us (by have := (Array.getElem?_eq_some_iff.1 hi).1; omega)
     have h2 := fill_unique (Zn ops fun i => some ((Kf us cl.length).getD i undef)) (JY _ hnd) a0.tmps t h.size (fun d hd => ?_) (fun p hp _ => ?_)
     . rw [<- h2]
     . refine h.out d fun i o hi _ hd2 => ?_
       exact hd _ (pairs_has hi hd2 rfl) rfl
     . obtain ⟨i, o, hi, hd, hv⟩ := pairs_mem hp
       have := h.inn i o p.1 hi (hdone i (Array.getElem?_eq_some_iff.1 hi).1) hd
       rw [this, <- hv, hget i o hi]
   have hin : ∀ {i : Nat} {c : XN}, cl[i]? = some c -> L.getD i false = true := fun hc => hdone _ (hinOps hc)
   have hg : ∀ {i : Nat} {c : XN}, cl[i]? = some c -> (Kf us cl.length).getD i undef = us i := fun {i c} hc => Ke us (List.getElem?_eq_some_iff.1 hc).1
   have hdepIn : ∀ {i : Nat} {c : XN}, cl[i]? = some c -> ∀ j ∈ c.hard, j < cl.length := fun {i c} hc j hj => by
     have hi := hinOps hc
     have h1 := List.all_eq_true.1 hdeps i (List.mem_range.2 hi)
     obtain ⟨o, ho⟩ : ∃ o, ops[i]? = some o := ⟨ops[i], Array.getElem?_eq_getElem hi⟩
     simp only [ho, hc, Bool.and_eq_true] at h1
     have h3 := reach_lt hback ho (Bool.and_eq_true_iff.1 (List.all_eq_true.1 h1.2 j hj)).2
     omega
   have hend' := YH.get cl 0 (fun j => by simp) h.fits (fun j T n b hj hb => by
     obtain ⟨b', h1, h2, _⟩ := h.new j T n hj (hin hj)
     rw [h1] at hb
     injection hb with hb
     injection hb with hb
     injection hb with hb
     omega) hend
   rw [Nat.zero_add] at hend'
   rw [hact]
   refine hend' w h.below h.kept (ZK.of (cl := cl) ?_ ?_ ?_ cl 0 (fun j => by simp)) ?_ ?_ ?_
   . intro i m Φ ds hc
     rw [hg hc]; exact h.told i m Φ ds hc (hin hc)
   . intro i T n ia ic ds hc
     obtain ⟨h1, h2, b, h3, h4⟩ := h.put i T n ia ic ds hc (hin hc)
     rw [Ke us (hdepIn hc ia (by simp [XN.hard])), Ke us (hdepIn hc ic (by simp [XN.hard]))]
     exact ⟨b, h3, h4⟩
   . intro i b T cs o n ic ds hc
     obtain ⟨h1, h2⟩ := (h.old i b T cs o n ic ds hc).1 (hin hc)
     rw [Ke us (hdepIn hc ic (by simp [XN.hard]))]
     exact h2
   . intro i j hi hj hne g
     obtain ⟨_, _, ei⟩ := Yw.1 hi
     obtain ⟨_, _, ej⟩ := Yw.1 hj
     rw [hg ei, hg ej]
     exact h.apart i j hi hj hne (hin ei) (hin ej) g
   . intro i hi g
     obtain ⟨_, _, ei⟩ := Yw.1 hi
     rw [hg ei]
     exact h.top i hi (hin ei) g
   . refine ⟨fun i j hi hj hne => ?_, h.only⟩
     obtain ⟨_, _, ei⟩ := Y2.1 hi
     obtain ⟨_, _, ej⟩ := Y2.1 hj
     rw [hg ei, hg ej]
     exact h.news i j hi hj hne (hin ei) (hin ej)
 . have : (List.filter (fun i => !(Array.replicate ops.size false).getD i false) (List.range ops.size)).length <= (List.range ops.size).length := List.length_filter_le _ _
   unfold XT
   simpa using this
 . have hno : ∀ i, (Array.replicate ops.size false).getD i false = true -> False := fun i hL => by
     simp at hL; rcases Nat.lt_or_ge i ops.size with h | h <;> simp [h] at hL
   let us : Nat -> Value := fun j => match cl[j]? with
     | some (.val v _) => v
     | some (.new _ _) => .pointer (some ⟨0, 0, none⟩)
     | _ => undef
   refine ⟨us, rfl, rfl, fun _ _ => rfl, fun i o d _ hL _ => (hno i hL).elim, fun j => ?_, hW.drew, hK.drew, fun i o _ hL => (hno i hL).elim, fun i _ _ _ _ hL => (hno i hL).elim, fun i _ hL => (hno i hL).elim, fun i _ _ _ _ hL => (hno i hL).elim, fun i _ _ _ hL => (hno i hL).elim, fun i _ _ _ _ hL => (hno i hL).elim, fun i _ _ _ _ _ _ hL => (hno i hL).elim, fun i b T cs o n ic ds hc => ⟨fun hL => (hno i hL).elim, fun _ => (Z5.get cl hold i b T cs o n ic ds hc).2.2.1.drew⟩, hO⟩
   unfold Jw
   cases hj : cl[j]? with
   | none => simp [us, hj]
   | some c => cases c <;> simp [us, hj]
end

def val : List Nat -> Nat
 | [] => 0
 | x :: xs => x + 4294967296 * val xs
def Zj (xs : List Nat) : Prop := ∀ x ∈ xs, x < 4294967296

def natLF : Nat -> Nat -> List Nat
 | 0, _ => []
 | f + 1, n => if n = 0 then [] else n % 4294967296 :: natLF f (n / 4294967296)
def Za (n : Nat) : List Nat := natLF n n

theorem natLF_fuel : ∀ (f g n : Nat), n <= f -> n <= g -> natLF f n = natLF g n
 | 0, 0, _, _, _ => rfl
 | 0, g + 1, n, h, _ => by
  obtain rfl : n = 0 := by omega
  simp [natLF]
 | f + 1, 0, n, _, h => by
  obtain rfl : n = 0 := by omega
  simp [natLF]
 | f + 1, g + 1, n, h1, h2 => by
  simp only [natLF]
  split
  . rfl
  . rw [natLF_fuel f g _ (by omega) (by omega)]
theorem Z8 : Za 0 = [] := rfl
theorem JI {n : Nat} (h : n ≠ 0) : Za n = n % 4294967296 :: Za (n / 4294967296) := by
 unfold Za
 obtain ⟨m, rfl⟩ : ∃ m, n = m + 1 := ⟨n - 1, by omega⟩
 conv => lhs; rw [natLF, if_neg h]
 rw [natLF_fuel m _ _ (by omega) (Nat.le_refl _)]
theorem natL_ind {P : Nat -> Prop} (h0 : P 0) (h1 : ∀ n, n ≠ 0 -> P (n / 4294967296) -> P n) (n : Nat) : P n := by
 induction n using Nat.strongRecOn with
 | _ n ih =>
  by_cases h : n = 0
  . subst h; exact h0
  . exact h1 n h (ih _ (by omega))
theorem Zi (n : Nat) : val (Za n) = n := by
 induction n using natL_ind with
 | h0 => rfl
 | h1 n h ih => rw [JI h, val, ih]; omega
theorem Yt (n : Nat) : Zj (Za n) := by
 induction n using natL_ind with
 | h0 => intro x hx; simp [Z8] at hx
 | h1 n h ih =>
  rw [JI h]
  intro x hx
  simp only [List.mem_cons] at hx
  rcases hx with rfl | hx
  . omega
  . exact ih x hx
theorem Ym {n : Nat} : Za n = [] ↔ n = 0 := by
 constructor
 . intro h
   by_cases hn : n = 0
   . exact hn
   . rw [JI hn] at h; cases h
 . rintro rfl; rfl
theorem limbs_cons {x : Nat} {xs : List Nat} : Zj (x :: xs) ↔ x < 4294967296 /\ Zj xs := by
 simp [Zj]
theorem Yh {xs ys : List Nat} : Zj (xs ++ ys) ↔ Zj xs /\ Zj ys := by
 simp only [Zj, List.mem_append]
 exact ⟨fun h => ⟨fun x hx => h x (.inl hx), fun x hx => h x (.inr hx)⟩, fun h x hx => hx.elim (h.1 x) (h.2 x)⟩
theorem YG {xs : List Nat} (h : Zj xs) (n : Nat) : Zj (xs.take n) := fun x hx => h x (List.mem_of_mem_take hx)
theorem Zs {xs : List Nat} (h : Zj xs) {k : Nat} (hk : k < xs.length) : xs[k] < 4294967296 := h _ (List.getElem_mem hk)
theorem YK (xs ys : List Nat) : val (xs ++ ys) = val xs + 4294967296 ^ xs.length * val ys := by
 induction xs with
 | nil => simp [val]
 | cons x xs ih => simp only [List.cons_append, val, ih, List.length_cons, Nat.pow_succ]; grind
theorem Y7 {xs : List Nat} (h : Zj xs) : val xs < 4294967296 ^ xs.length := by
 induction xs with
 | nil => simp [val]
 | cons x xs ih =>
  obtain ⟨h1, h2⟩ := limbs_cons.1 h
  have := ih h2
  simp only [val, List.length_cons, Nat.pow_succ]
  have e : 4294967296 ^ xs.length * 4294967296 = 4294967296 * 4294967296 ^ xs.length := Nat.mul_comm _ _
  omega
def ZU (xs : List Nat) : Prop := ∀ x, xs.getLast? = some x -> x ≠ 0
theorem ZB (n : Nat) : ZU (Za n) := by
 induction n using natL_ind with
 | h0 => intro x hx; simp [Z8] at hx
 | h1 n h ih =>
  rw [JI h]
  intro x hx
  by_cases hq : n / 4294967296 = 0
  . rw [hq, Z8] at hx
    simp at hx; omega
  . rw [JI hq] at ih hx
    rw [List.getLast?_cons_cons] at hx
    exact ih x hx
theorem YU {xs : List Nat} (hl : Zj xs) (hc : ZU xs) : Za (val xs) = xs := by
 induction xs with
 | nil => rfl
 | cons x xs ih =>
  obtain ⟨h1, h2⟩ := limbs_cons.1 hl
  have hc2 : ZU xs := by
   intro y hy
   cases xs with
   | nil => simp at hy
   | cons z zs => exact hc y (by rw [List.getLast?_cons_cons]; exact hy)
  have hne : val (x :: xs) ≠ 0 := by
   intro h0
   simp only [val] at h0
   have hx : x = 0 := by omega
   have hv : val xs = 0 := by omega
   have : xs = [] := by rw [<- ih h2 hc2, hv]; rfl
   subst this
   exact hc x (by simp) hx
  rw [JI hne]
  simp only [val]
  rw [show (x + 4294967296 * val xs) % 4294967296 = x by omega, show (x + 4294967296 * val xs) / 4294967296 = val xs by omega, ih h2 hc2]
theorem ZN {n k : Nat} : (Za n).length <= k ↔ n < 4294967296 ^ k := by
 induction n using natL_ind generalizing k with
 | h0 => simp [Z8]; exact Nat.pow_pos (by omega)
 | h1 n h ih =>
  rw [JI h]
  cases k with
  | zero => simp; omega
  | succ k =>
   simp only [List.length_cons, Nat.add_le_add_iff_right, ih, Nat.pow_succ]
   rw [Nat.div_lt_iff_lt_mul (by omega)]
theorem canon_of_get {xs : List Nat} {k : Nat} (hk : k < xs.length) (h : xs[k] ≠ 0) : ZU (xs.take (k + 1)) := by
 intro x hx
 rw [List.take_succ_eq_append_getElem hk, List.getLast?_concat] at hx
 injection hx with hx
 rw [<- hx]; exact h
theorem Jb {xs : List Nat} {k : Nat} (hk : k < xs.length) (h : xs[k] = 0) : val (xs.take (k + 1)) = val (xs.take k) := by
 rw [List.take_succ_eq_append_getElem hk, YK, h]; simp [val]
theorem Y3 {xs : List Nat} (h : Zj xs) : Za (val xs) = xs.take (Za (val xs)).length := by
 induction hn : xs.length generalizing xs with
 | zero => 
  obtain rfl := List.eq_nil_of_length_eq_zero hn
  rfl
 | succ k ih =>
  by_cases h0 : xs[k] = 0
  . have e := Jb (xs := xs) (k := k) (by omega) h0
    rw [List.take_of_length_le (by omega)] at e
    have := ih (YG h k) (by simp; omega)
    rw [<- e] at this
    rw [List.take_take] at this
    have hle : (Za (val xs)).length <= k := by
     rw [ZN, e]
     have := Y7 (YG h k)
     simpa [List.length_take, Nat.min_eq_left (show k <= xs.length by omega)] using this
    rw [Nat.min_eq_left hle] at this
    exact this
  . have hc : ZU xs := by
     have := canon_of_get (xs := xs) (k := k) (by omega) h0
     rwa [List.take_of_length_le (by omega)] at this
    rw [YU h hc, List.take_length]
theorem YB {xs : List Nat} (h : Zj xs) : (Za (val xs)).length <= xs.length := ZN.2 (Y7 h)
end Go.Proofs.YtdonecnhdkjniaaGreatDoor
