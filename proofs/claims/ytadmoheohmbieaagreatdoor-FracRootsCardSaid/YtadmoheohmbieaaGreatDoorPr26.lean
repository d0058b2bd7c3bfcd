/- Several texts in one: FChecks, FLaw, Builder, DecLaw. -/
import Derived.Test.YtadmoheohmbieaaGreatDoorPr22
import Derived.Test.YtadmoheohmbieaaGreatDoorPr07
import Derived.Test.YtadmoheohmbieaaGreatDoorPr25
import Derived.Test.YtadmoheohmbieaaGreatDoorPr17
import Derived.Test.YtadmoheohmbieaaGreatDoorPr01
import Derived.Lib.Builder
import Derived.Lib.AppendStr
import Derived.Lib.Slices
import Derived.Lib.Walk
import Derived.Lib.Strings
import Derived.Laws.Externs
import Derived.WalkKit
import Derived.Lib.ItoaNum
/- Checks of package ratio: may all fractions of a list be? -/
namespace Go.Proofs.YtadmoheohmbieaaGreatDoor
open Go.RowKit

/-- A fraction as it lies in a list. -/
structure FLoc where
  n1 : Bool
  A : Option Addr
  n : Nat
  c : Nat
  n2 : Bool
  B : Option Addr
  m : Nat
  e : Nat
def FLoc.val (q : FLoc) : Value := .agg #[.bool q.n1, .slice q.A q.n q.c, .bool q.n2, .slice q.B q.m q.e]
def FLoc.cells (q : FLoc) : List Value := [.bool q.n1, .slice q.A q.n q.c, .bool q.n2, .slice q.B q.m q.e]
def cellsF (l : List FLoc) : List Value := l.flatMap FLoc.cells
theorem cellsF_get : ∀ (l : List FLoc) (k : Nat) (hk : k < l.length), (cellsF l)[k * 4]? = some (.bool l[k].n1) ∧ (cellsF l)[k * 4 + 1]? = some (.slice l[k].A l[k].n l[k].c) ∧ (cellsF l)[k * 4 + 2]? = some (.bool l[k].n2) ∧ (cellsF l)[k * 4 + 3]? = some (.slice l[k].B l[k].m l[k].e)
  | [], k, hk => by simp at hk
  | q :: l, 0, _ => by simp [cellsF, FLoc.cells]
  | q :: l, k + 1, hk => by
    have ih := cellsF_get l k (by simpa using hk)
    simp only [cellsF, List.flatMap_cons, FLoc.cells, show (k + 1) * 4 = k * 4 + 4 by omega]
    simpa [cellsF, FLoc.cells] using ih

set_option maxRecDepth 100000 in
set_option maxHeartbeats 1000000 in
theorem ratio_Checks (l : List FLoc) (ks : FLoc → Bool) (A : Option Addr) (c : Nat) (hl : l.length ≤ 9223372036854775807) (w : World) (h : Reads w w.heap.size 4 A l.length (cellsF l))
    (H : ∀ q ∈ l, ∀ V, Below w.heap.size w V → Calls Tryz.prog 68 #[q.val] V fun e w' => e = .returned (.int .i64 (if ks q then 0 else 1)) ∧ Below V.heap.size V w') :
    Calls Tryz.prog 128 #[.slice A l.length c] w fun e w' => e = .returned (.bool (l.all ks)) ∧ Below w.heap.size w w' := by
  have HR := Lib.hid h
  have HS := Lib.hid H
  clear h H
  have H0 := Lib.hid (by intro j hj; omega : ∀ j (_ : j < 0), (h : j < l.length) → ks l[j] = true)
  go_enter Tryz.func128, Tryz.ntmps128
  go_wp2_with fail
  go_loopw [7] (fun s wr => ∃ i : Nat, s = .int .i64 i ∧ i ≤ l.length ∧ Hid (∀ j (_ : j < i), (h : j < l.length) → ks l[j] = true) ∧ Below w.heap.size w wr) (fun s _ => l.length - (intOf s).toNat)
  case atStart => exact ⟨0, rfl, Nat.zero_le _, H0, Below.refl _ _⟩
  case round =>
    obtain ⟨i, rfl, hi, HN, hb⟩ := hrel
    clear H0
    by_cases hlt : i < l.length
    · have a0 : (0 : Int) ≤ (i : Int) := by omega
      have a1 : (i : Int) < (l.length : Int) := by omega
      obtain ⟨e0, e1, e2, e3⟩ := cellsF_get l i hlt
      obtain ⟨ad, rfl, hbl, c0, c1, c2, c3⟩ := (HR.out.below hb).row4 hlt e0 e1 e2 e3
      have C := HS.out _ (List.getElem_mem hlt)
      unfold FLoc.val at C
      have HB := Lib.hid hb
      clear e0 e1 e2 e3 hbl hb
      by_cases hlong : ks l[i] = true
      · rw [if_pos hlong] at C
        have C := Lib.hid C
        have HL := Lib.hid hlong
        clear hlong
        go_wp2_with (first | (go_at_call 68; with_reducible refine (C.out _ (HB.out.alloc HB.out.size _)).mono ?_; rintro e w' ⟨rfl, hb'⟩; have B1 := belowTo (HB.out.alloc HB.out.size _) hb'))
        go_roundw
        case rel =>
          refine ⟨i + 1, by go_num, hlt, Lib.hid fun j hj h => ?_, B1⟩
          rcases (by omega : j < i ∨ j = i) with hj | rfl
          · exact HN.out j hj h
          · exact HL.out
        case measure => simp [intOf]; omega
      · rw [if_neg hlong] at C
        have C := Lib.hid C
        have HL := Lib.hid hlong
        clear hlong
        go_wp2_with (first | (go_at_call 68; with_reducible refine (C.out _ (HB.out.alloc HB.out.size _)).mono ?_; rintro e w' ⟨rfl, hb'⟩; have B1 := belowTo (HB.out.alloc HB.out.size _) hb'))
        go_ret
        have e : l.all ks = false := List.all_eq_false.2 ⟨l[i], List.getElem_mem hlt, HL.out⟩
        exact ⟨by rw [e]; rfl, B1⟩
    · have HB := Lib.hid hb
      clear hb
      go_wp2_with fail
      go_ret
      have e : l.all ks = true := List.all_eq_true.2 fun x hx => by
        obtain ⟨j, hj, rfl⟩ := List.getElem_of_mem hx
        exact HN.out j (by omega) hj
      exact ⟨by rw [e]; rfl, HB.out⟩

theorem chkE_bool (n1 n2 : Bool) (xs ys : List Nat) : chkE n1 n2 xs ys = if (chkE n1 n2 xs ys == 0) = true then 0 else 1 := by
  unfold chkE
  split <;> (try split) <;> simp_all
/-- Checks of a list of one that was just made. -/
theorem checks_new (n1 n2 : Bool) (A B : Option Addr) (c e0 : Nat) (xs ys : List Nat) (V : World) (g' : Nat) (h : Raw V A c xs) (g : Raw V B e0 ys) (hg : V.heap.size = g') :
    Calls Tryz.prog 128 #[.slice (some ⟨g', 0, none⟩) 1 1] (V.alloc (.cells #[.bool n1, .slice A xs.length c, .bool n2, .slice B ys.length e0] 30)) fun e w' => e = .returned (.bool (chkE n1 n2 xs ys == 0)) ∧ Below (V.alloc (.cells #[.bool n1, .slice A xs.length c, .bool n2, .slice B ys.length e0] 30)).heap.size (V.alloc (.cells #[.bool n1, .slice A xs.length c, .bool n2, .slice B ys.length e0] 30)) w' := by
  have := ratio_Checks [⟨n1, A, xs.length, c, n2, B, ys.length, e0⟩] (fun _ => chkE n1 n2 xs ys == 0) (some ⟨g', 0, none⟩) 1 (by simp) (V.alloc (.cells #[.bool n1, .slice A xs.length c, .bool n2, .slice B ys.length e0] 30))
    (by subst hg; exact (Reads.new1 V 30 4 [.bool n1, .slice A xs.length c, .bool n2, .slice B ys.length e0] rfl).more (by simp))
    (by
      intro q hq W hW
      obtain rfl : q = ⟨n1, A, xs.length, c, n2, B, ys.length, e0⟩ := by simpa using hq
      rw [← chkE_bool]
      exact ratio_Check n1 n2 A B c e0 xs ys W ((h.alloc _).below hW) ((g.alloc _).below hW))
  simpa using this
end Go.Proofs.YtadmoheohmbieaaGreatDoor

/- FracCost, TwinFrac, LeftFrac of the laws; Checks and Sign of the references. (Written by wip/frac/genflaw.py.) -/
namespace Go.Proofs.YtadmoheohmbieaaGreatDoor
open Go.RowKit

set_option maxRecDepth 100000 in
set_option maxHeartbeats 1000000 in
theorem frac_size (n1 n2 : Bool) (A B : Option Addr) (c e0 : Nat) (xs ys : List Nat) (hx : xs.length ≤ 1152921504606846975) (hy : ys.length ≤ 1152921504606846975) (w : World) :
    Calls Tryz.prog 120 #[.agg #[.bool n1, .slice A xs.length c, .bool n2, .slice B ys.length e0]] w fun e w' => e = .returned (.int .i64 ((1 + xs.length + (1 + ys.length) : Nat) : Int)) ∧ Below w.heap.size w w' := by
  have D1 := fun V => intSize_any n1 A c xs.length hx V
  have D2 := fun V => intSize_any n2 B e0 ys.length hy V
  obtain ⟨s1, hs1⟩ : ∃ k : Nat, k = 1 + xs.length := ⟨_, rfl⟩
  obtain ⟨s2, hs2⟩ : ∃ k : Nat, k = 1 + ys.length := ⟨_, rfl⟩
  rw [← hs1] at D1 ⊢
  rw [← hs2] at D2 ⊢
  obtain ⟨s3, hs3⟩ : ∃ k : Nat, k = s1 + s2 := ⟨_, rfl⟩
  rw [← hs3]
  have HW := Lib.hid (show IntKind.i64.wrap ((s1 : Int) + (s2 : Int)) = (s3 : Int) from by rw [IntKind.wrap_i64]; omega)
  have H1 := Lib.hid D1
  have H2 := Lib.hid D2
  clear D1 D2 hx hy hs1 hs2 hs3
  have px := Quad.new w (.bool n1) (.slice A xs.length c) (.bool n2) (.slice B ys.length e0)
  have b0 := (Below.refl w.heap.size w).alloc (Nat.le_refl _) (.cells #[.bool n1, .slice A xs.length c, .bool n2, .slice B ys.length e0] 30)
  have PX := Lib.hid px
  have HB := Lib.hid b0
  clear px b0
  go_enter Tryz.func120, Tryz.ntmps120
  go_wp2_with fail
  obtain ⟨W, E⟩ : ∃ W, W = w.alloc (.cells #[.bool n1, .slice A xs.length c, .bool n2, .slice B ys.length e0] 30) := ⟨_, rfl⟩
  rw [← E] at PX HB ⊢
  clear E
  refine wp_region_free [.val (.pointer (some ⟨w.heap.size, 0, none⟩)) [], .val (.agg #[.bool n1, .slice A xs.length c]) [], .val (.int .i64 s1) [], .val (.pointer (some ⟨w.heap.size, 2, none⟩)) [], .val (.agg #[.bool n2, .slice B ys.length e0]) [], .val (.int .i64 s2) [], .val (.int .i64 s3) [], .val (.int .i64 s3) []] W.heap.size W [] blkInt _ mixedOrders2 (Nat.le_refl _) (Below.refl _ _) (KeptV.refl _ _ _) rfl (by kernel_rfl) (by kernel_rfl) (by kernel_rfl) (by kernel_rfl) (by kernel_rfl) (by kernel_rfl) (by kernel_rfl) (by kernel_rfl) rfl (by simp [oldsF]) ?_ ?_ ?_ ?_
  · simp only [StableF]
  · simp only [OldsF]
  · simp (maxSteps := 4000000) [StepsF, DepF, freeAct, fill, pairs]
    repeat' (first | apply And.intro | (intro (u : Value)) | (intro (u : Nat)))
    all_goals
      intro V hV hK
      obtain ⟨-, a_x, b_x, c_x, d_x, -, -, -, -⟩ := (PX.out.below hV).facts
      clear hV hK
      go_simp
      first
      | exact Below.refl _ _
      | exact ⟨HW.out, Below.refl _ _⟩
      | ((with_reducible refine (H1.out V).mono ?_); rintro e w' ⟨rfl, hb⟩; exact ⟨rfl, hb⟩)
      | ((with_reducible refine (H2.out V).mono ?_); rintro e w' ⟨rfl, hb⟩; exact ⟨rfl, hb⟩)
  · simp [EndF, FactsF, freeAct, fill, pairs]
    intro V hV hK _ _ _
    have HB := Lib.hid (belowTo HB.out hV)
    clear hV hK
    go_wp2_with fail
    go_ret
    exact ⟨rfl, HB.out⟩

def fcost (a b : Nat) : Nat := 1 + a + (1 + b) + costN a b
theorem fcost_le {a b : Nat} (ha : a ≤ 1152921504606846975) (hb : b ≤ 1152921504606846975) : fcost a b ≤ 2305913377957871618 := by
  have := costN_le a b
  unfold fcost
  omega

set_option maxRecDepth 100000 in
set_option maxHeartbeats 1000000 in
theorem frac_cost (n1 n2 : Bool) (A B : Option Addr) (c e0 : Nat) (xs ys : List Nat) (hx : xs.length ≤ 1152921504606846975) (hy : ys.length ≤ 1152921504606846975) (w : World) (h : Raw w A c xs) (g : Raw w B e0 ys) :
    Calls Tryz.prog 26 #[.agg #[.bool n1, .slice A xs.length c, .bool n2, .slice B ys.length e0]] w fun e w' => e = .returned (.int .i64 (fcost xs.length ys.length : Nat)) ∧ Below w.heap.size w w' := by
  have D1 := fun V => frac_size n1 n2 A B c e0 xs ys hx hy V
  have D2 := fun (V : World) (h : Raw V A c xs) (g : Raw V B e0 ys) => cost_low n1 n2 A B c e0 xs ys V h g
  rw [costLow_N] at D2
  have hc := costN_le xs.length ys.length
  obtain ⟨s1, hs1⟩ : ∃ k : Nat, k = 1 + xs.length + (1 + ys.length) := ⟨_, rfl⟩
  obtain ⟨s2, hs2⟩ : ∃ k : Nat, k = costN xs.length ys.length := ⟨_, rfl⟩
  obtain ⟨s3, hs3⟩ : ∃ k : Nat, k = fcost xs.length ys.length := ⟨_, rfl⟩
  have e3 : s3 = s1 + s2 := by rw [hs3, hs1, hs2]; rfl
  rw [← hs1] at D1
  rw [← hs2] at D2 hc
  rw [← hs3]
  have HW := Lib.hid (show IntKind.i64.wrap ((s1 : Int) + (s2 : Int)) = (s3 : Int) from by rw [IntKind.wrap_i64]; omega)
  have H1 := Lib.hid D1
  have H2 := Lib.hid D2
  clear D1 D2 hx hy hs1 hs2 hs3 e3 hc
  have px := Quad.new w (.bool n1) (.slice A xs.length c) (.bool n2) (.slice B ys.length e0)
  have b0 := (Below.refl w.heap.size w).alloc (Nat.le_refl _) (.cells #[.bool n1, .slice A xs.length c, .bool n2, .slice B ys.length e0] 30)
  have rx := Lib.hid (h.below b0)
  have ry := Lib.hid (g.below b0)
  clear h g
  have PX := Lib.hid px
  have HB := Lib.hid b0
  clear px b0
  go_enter Tryz.func26, Tryz.ntmps26
  go_wp2_with fail
  obtain ⟨W, E⟩ : ∃ W, W = w.alloc (.cells #[.bool n1, .slice A xs.length c, .bool n2, .slice B ys.length e0] 30) := ⟨_, rfl⟩
  rw [← E] at PX HB rx ry ⊢
  clear E
  refine wp_region_free [.val (.agg #[.bool n1, .slice A xs.length c, .bool n2, .slice B ys.length e0]) [], .val (.int .i64 s1) [], .val (.pointer (some ⟨w.heap.size, 0, none⟩)) [], .val (.agg #[.bool n1, .slice A xs.length c]) [], .val (.pointer (some ⟨w.heap.size, 2, none⟩)) [], .val (.agg #[.bool n2, .slice B ys.length e0]) [], .val (.int .i64 s2) [], .val (.int .i64 s3) [], .val (.int .i64 s3) []] W.heap.size W [] blkInt _ mixedOrders2 (Nat.le_refl _) (Below.refl _ _) (KeptV.refl _ _ _) rfl (by kernel_rfl) (by kernel_rfl) (by kernel_rfl) (by kernel_rfl) (by kernel_rfl) (by kernel_rfl) (by kernel_rfl) (by kernel_rfl) rfl (by simp [oldsF]) ?_ ?_ ?_ ?_
  · simp only [StableF]
  · simp only [OldsF]
  · simp (maxSteps := 4000000) [StepsF, DepF, freeAct, fill, pairs]
    repeat' (first | apply And.intro | (intro (u : Value)) | (intro (u : Nat)))
    all_goals
      intro V hV hK
      obtain ⟨-, a_x, b_x, c_x, d_x, -, -, -, -⟩ := (PX.out.below hV).facts
      have r1 := rx.out.below hV
      have r2 := ry.out.below hV
      clear hV hK
      go_simp
      first
      | exact Below.refl _ _
      | exact ⟨HW.out, Below.refl _ _⟩
      | ((with_reducible refine (H1.out V).mono ?_); rintro e w' ⟨rfl, hb⟩; exact ⟨rfl, hb⟩)
      | ((with_reducible refine (H2.out V r1 r2).mono ?_); rintro e w' ⟨rfl, hb⟩; exact ⟨rfl, hb⟩)
  · simp [EndF, FactsF, freeAct, fill, pairs]
    intro V hV hK _ _ _
    have HB := Lib.hid (belowTo HB.out hV)
    clear hV hK
    go_wp2_with fail
    go_ret
    exact ⟨rfl, HB.out⟩

/-- A copy of a number, in memory of its own. -/
structure TwinI (neg : Bool) (xs : List Nat) (v : Value) (V : World) : Prop where
  form : ∃ g, v = .agg #[.bool neg, .slice (some ⟨g, 0, none⟩) xs.length (xs.length + 1)] ∧ TwinAt V g xs
theorem TwinI.kept {neg : Bool} {xs : List Nat} {v : Value} {V V' : World} {B : Nat} {Ts : List TypeId} (h : TwinI neg xs v V) (k : KeptV B Ts V V') (hT : 89 ∉ Ts) : TwinI neg xs v V' := by
  obtain ⟨g, h1, h2⟩ := h.form
  exact ⟨g, h1, ⟨k.blk h2.blk hT⟩⟩
/-- A copy of a fraction. -/
structure TwinF (n1 n2 : Bool) (xs ys : List Nat) (v : Value) (V : World) : Prop where
  form : ∃ g1 g2, v = .agg #[.bool n1, .slice (some ⟨g1, 0, none⟩) xs.length (xs.length + 1), .bool n2, .slice (some ⟨g2, 0, none⟩) ys.length (ys.length + 1)] ∧ TwinAt V g1 xs ∧ TwinAt V g2 ys
theorem TwinF.kept {n1 n2 : Bool} {xs ys : List Nat} {v : Value} {V V' : World} {B : Nat} {Ts : List TypeId} (h : TwinF n1 n2 xs ys v V) (k : KeptV B Ts V V') (hT : 89 ∉ Ts) : TwinF n1 n2 xs ys v V' := by
  obtain ⟨g1, g2, h1, h2, h3⟩ := h.form
  exact ⟨g1, g2, h1, ⟨k.blk h2.blk hT⟩, ⟨k.blk h3.blk hT⟩⟩
theorem TwinF.cells {n1 n2 : Bool} {xs ys : List Nat} {v : Value} {V : World} (h : TwinF n1 n2 xs ys v V) : CellsN v 4 := by
  obtain ⟨g1, g2, rfl, -⟩ := h.form
  exact ⟨rfl, by simp [Value.cells, Value.oneCell']⟩
theorem TwinF.below {n1 n2 : Bool} {xs ys : List Nat} {v : Value} {V V' : World} (h : TwinF n1 n2 xs ys v V) (k : Below V.heap.size V V') : TwinF n1 n2 xs ys v V' := by
  obtain ⟨g1, g2, h1, h2, h3⟩ := h.form
  exact ⟨g1, g2, h1, h2.below k, h3.below k⟩

set_option maxRecDepth 100000 in
set_option maxHeartbeats 2000000 in
theorem twin_frac (n1 n2 : Bool) (A B : Option Addr) (c e0 : Nat) (xs ys : List Nat) (w : World) (h : Raw w A c xs) (g : Raw w B e0 ys) (hx : xs.length ≤ 1048576) (hy : ys.length ≤ 1048576) :
    Calls Tryz.prog 27 #[.agg #[.bool n1, .slice A xs.length c, .bool n2, .slice B ys.length e0]] w fun e w' => ∃ v, e = .returned v ∧ TwinF n1 n2 xs ys v w' ∧ Below w.heap.size w w' := by
  have px := (Quad.new w (.bool n1) (.slice A xs.length c) (.bool n2) (.slice B ys.length e0)).alloc (.cells #[.bool false, .slice none 0 0, .bool false, .slice none 0 0] 30)
  have pr := Quad.new (w.alloc (.cells #[.bool n1, .slice A xs.length c, .bool n2, .slice B ys.length e0] 30)) (.bool false) (.slice none 0 0) (.bool false) (.slice none 0 0)
  have b0 := ((Below.refl w.heap.size w).alloc (Nat.le_refl _) (.cells #[.bool n1, .slice A xs.length c, .bool n2, .slice B ys.length e0] 30)).alloc (by simp) (.cells #[.bool false, .slice none 0 0, .bool false, .slice none 0 0] 30)
  simp only [World.size_alloc] at pr
  have H1 := Lib.hid (fun (V : World) (h : Raw V A c xs) => twin_any n1 A c xs V h hx)
  have H2 := Lib.hid (fun (V : World) (h : Raw V B e0 ys) => twin_any n2 B e0 ys V h hy)
  have RW := Lib.hid h
  have KW := Lib.hid g
  have PX := Lib.hid px
  have PR := Lib.hid pr
  have HB := Lib.hid b0
  clear px pr b0 h g hx hy
  go_enter Tryz.func27, Tryz.ntmps27
  go_wp2_with fail
  obtain ⟨W, E⟩ : ∃ W, W = (w.alloc (.cells #[.bool n1, .slice A xs.length c, .bool n2, .slice B ys.length e0] 30)).alloc (.cells #[.bool false, .slice none 0 0, .bool false, .slice none 0 0] 30) := ⟨_, rfl⟩
  rw [← E] at PX PR HB ⊢
  clear E
  have hsz := PR.out.blk.lt
  refine wp_region_free [.val (.pointer (some ⟨w.heap.size, 0, none⟩)) [], .val (.agg #[.bool n1, .slice A xs.length c]) [], .any false (fun u V => TwinI n1 xs u V) [], .val (.pointer (some ⟨w.heap.size, 2, none⟩)) [], .val (.agg #[.bool n2, .slice B ys.length e0]) [], .any false (fun u V => TwinI n2 ys u V) [], .any false (fun u V => TwinF n1 n2 xs ys u V) [2, 5], .old (w.heap.size + 1) 30 #[.bool false, .slice none 0 0, .bool false, .slice none 0 0] 0 4 6 []] (w.heap.size + 1) W [30] blkInt _ mixedOrders2 (by omega) (Below.refl _ _) (KeptV.refl _ _ _) rfl (by kernel_rfl) (by kernel_rfl) (by kernel_rfl) (by kernel_rfl) (by kernel_rfl) (by kernel_rfl) (by kernel_rfl) (by kernel_rfl) rfl (by simp [oldsF]) ?_ ?_ ?_ ?_
  · simp only [StableF, and_true]
    exact ⟨fun u V V' h k => h.kept k (by decide), fun u V V' h k => h.kept k (by decide), fun u V V' h k => h.kept k (by decide)⟩
  · simp only [OldsF, and_true]
    exact ⟨Nat.le_refl _, PR.out.blk.lt, PR.out.blk, by simp⟩
  · simp (maxSteps := 4000000) [StepsF, DepF, freeAct, fill, pairs]
    repeat' (first | apply And.intro | (intro (u : Value)) | (intro (u : Nat)))
    all_goals try exact ⟨_, _, _, rfl, rfl, rfl, rfl, fracInfo⟩
    all_goals first
    | (intro V hV hK
       have qx : Quad V w.heap.size _ _ _ _ := ⟨PX.out.blk.below hV (Nat.lt_succ_self _)⟩
       obtain ⟨-, a_x, b_x, c_x, d_x, -, -, -, -⟩ := qx.facts
       have rn := Lib.hid (RW.out.below (HB.out.trans (hV.mono (by omega))))
       have rd := Lib.hid (KW.out.below (HB.out.trans (hV.mono (by omega))))
       clear hV hK qx
       go_simp
       first
       | exact Below.refl _ _
       | ((with_reducible refine (H1.out V rn.out).mono ?_); rintro e w' ⟨g, rfl, ht, _, hb⟩; exact ⟨⟨g, rfl, ht⟩, hb⟩)
       | ((with_reducible refine (H2.out V rd.out).mono ?_); rintro e w' ⟨g, rfl, ht, _, hb⟩; exact ⟨⟨g, rfl, ht⟩, hb⟩))
    | (intro V hV hK h1 h2
       obtain ⟨g1, rfl, t1⟩ := h1.form
       obtain ⟨g2, rfl, t2⟩ := h2.form
       clear hV hK h1 h2
       go_simp
       exact ⟨⟨g1, g2, rfl, t1, t2⟩, Below.refl _ _⟩)
    | exact fun _ _ _ (h : TwinF _ _ _ _ _ _) => h.cells
  · simp [EndF, FactsF, freeAct, fill, pairs]
    intro u1 u2 u3 V hV hK h1 h2 h3 bq _ _ _
    have HF := Lib.hid h3
    obtain ⟨g1, g2, rfl, -⟩ := h3.form
    simp [setAll, Value.cells] at bq
    have k0 := bq.cell 0
    have k1 := bq.cell 1
    have k2 := bq.cell 2
    have k3 := bq.cell 3
    simp at k0 k1 k2 k3
    have HB9 := Lib.hid (HB.out.trans (hV.mono (by omega)))
    clear h1 h2 h3 hV hK bq
    go_wp2_with fail
    exact bodyPost_ret (by simp [results, Tryz.results27, go_sem, k0, k1, k2, k3]) rfl ⟨_, rfl, HF.out, HB9.out⟩

set_option maxRecDepth 100000 in
set_option maxHeartbeats 1000000 in
theorem left_frac (n1 n2 : Bool) (A B : Option Addr) (c e0 : Nat) (xs ys : List Nat) (g1 g2 : Nat) (w : World) (h : Raw w A c xs) (g : Raw w B e0 ys) (t1 : TwinAt w g1 xs) (t2 : TwinAt w g2 ys) (hx : xs.length ≤ 1048576) (hy : ys.length ≤ 1048576) :
    Calls Tryz.prog 35 #[.agg #[.bool n1, .slice (some ⟨g1, 0, none⟩) xs.length (xs.length + 1), .bool n2, .slice (some ⟨g2, 0, none⟩) ys.length (ys.length + 1)], .agg #[.bool n1, .slice A xs.length c, .bool n2, .slice B ys.length e0]] w fun e w' => e = .returned (.bool true) ∧ Below w.heap.size w w' := by
  have pt := (Quad.new w (.bool n1) (.slice (some ⟨g1, 0, none⟩) xs.length (xs.length + 1)) (.bool n2) (.slice (some ⟨g2, 0, none⟩) ys.length (ys.length + 1))).alloc (.cells #[.bool n1, .slice A xs.length c, .bool n2, .slice B ys.length e0] 30)
  have px := Quad.new (w.alloc (.cells #[.bool n1, .slice (some ⟨g1, 0, none⟩) xs.length (xs.length + 1), .bool n2, .slice (some ⟨g2, 0, none⟩) ys.length (ys.length + 1)] 30)) (.bool n1) (.slice A xs.length c) (.bool n2) (.slice B ys.length e0)
  have b0 := ((Below.refl w.heap.size w).alloc (Nat.le_refl _) (.cells #[.bool n1, .slice (some ⟨g1, 0, none⟩) xs.length (xs.length + 1), .bool n2, .slice (some ⟨g2, 0, none⟩) ys.length (ys.length + 1)] 30)).alloc (by simp) (.cells #[.bool n1, .slice A xs.length c, .bool n2, .slice B ys.length e0] 30)
  simp only [World.size_alloc] at px
  have PT := Lib.hid pt
  have PX := Lib.hid px
  have HB := Lib.hid b0
  have RX := Lib.hid (h.below b0)
  have RY := Lib.hid (g.below b0)
  have T1 := Lib.hid (t1.below b0)
  have T2 := Lib.hid (t2.below b0)
  have HL := Lib.hid (And.intro hx hy)
  clear pt px b0 h g t1 t2 hx hy
  go_enter Tryz.func35, Tryz.ntmps35
  go_wp2_with fail
  obtain ⟨W, E⟩ : ∃ W, W = (w.alloc (.cells #[.bool n1, .slice (some ⟨g1, 0, none⟩) xs.length (xs.length + 1), .bool n2, .slice (some ⟨g2, 0, none⟩) ys.length (ys.length + 1)] 30)).alloc (.cells #[.bool n1, .slice A xs.length c, .bool n2, .slice B ys.length e0] 30) := ⟨_, rfl⟩
  rw [← E] at PT PX HB RX RY T1 T2 ⊢
  clear E
  obtain ⟨l_t, t0, t1, t2, t3, -, -, -, -⟩ := PT.out.facts
  obtain ⟨l_x, x0, x1, x2, x3, -, -, -, -⟩ := PX.out.facts
  go_wp2_with fail
  refine (left_any n1 A c g1 xs W RX.out T1.out HL.out.1).mono ?_
  rintro e wx1 ⟨rfl, hb⟩
  clear l_t t0 t1 t2 t3 l_x x0 x1 x2 x3
  have HS_wx1 := Lib.hid (show W.heap.size ≤ wx1.heap.size from hb.size)
  have PT := Lib.hid (PT.out.below hb)
  have PX := Lib.hid (PX.out.below hb)
  have RX := Lib.hid (RX.out.below hb)
  have RY := Lib.hid (RY.out.below hb)
  have T1 := Lib.hid (T1.out.below hb)
  have T2 := Lib.hid (T2.out.below hb)
  have HB := Lib.hid (belowTo HB.out hb)
  obtain ⟨l_t, t0, t1, t2, t3, -, -, -, -⟩ := PT.out.facts
  obtain ⟨l_x, x0, x1, x2, x3, -, -, -, -⟩ := PX.out.facts
  go_wp2_with fail
  refine (left_any n2 B e0 g2 ys wx1 RY.out T2.out HL.out.2).mono ?_
  rintro e wx2 ⟨rfl, hb⟩
  clear l_t t0 t1 t2 t3 l_x x0 x1 x2 x3
  have HS_wx2 := Lib.hid (show wx1.heap.size ≤ wx2.heap.size from hb.size)
  have PT := Lib.hid (PT.out.below hb)
  have PX := Lib.hid (PX.out.below hb)
  have RX := Lib.hid (RX.out.below hb)
  have RY := Lib.hid (RY.out.below hb)
  have T1 := Lib.hid (T1.out.below hb)
  have T2 := Lib.hid (T2.out.below hb)
  have HB := Lib.hid (belowTo HB.out hb)
  go_wp2_with fail
  go_ret
  exact ⟨rfl, HB.out⟩

set_option maxRecDepth 100000 in
set_option maxHeartbeats 1000000 in
theorem beyond_big (A : Option Addr) (c : Nat) (zs : List Nat) (hz : zs.length ≤ 1000) (hm : ∀ z ∈ zs, z ≤ 4611686018427387904) (w : World) (B : Nat) (hr : Reads w B 1 A zs.length (cellsI zs)) :
    Calls Tryz.prog 11 #[.slice A zs.length c] w fun e w' => e = .returned (.bool (decide (1048576 < zs.sum))) ∧ w = w' := by
  have HR := Lib.hid hr
  have HM := Lib.hid hm
  clear hr hm
  go_enter Tryz.func11, Tryz.ntmps11
  go_wp2_with fail
  go_loop [3, 4] (fun n i => ∃ k s : Nat, i = .int .i64 k ∧ n = .int .i64 s ∧ k ≤ zs.length ∧ s = (zs.take k).sum ∧ s ≤ 1048576) (fun _ i => zs.length - (intOf i).toNat)
  case atStart => exact ⟨0, 0, rfl, rfl, Nat.zero_le _, rfl, by omega⟩
  case round =>
    obtain ⟨k, s, rfl, rfl, hk, hs, hle⟩ := hrel
    have HS := Lib.hid hs
    clear hs
    by_cases hlt : k < zs.length
    · obtain ⟨ad, rfl, -, hc⟩ := HR.out.2 (by omega)
      have hcell := hc k _ (cellsI_get hlt)
      have hz1 := HM.out zs[k] (List.getElem_mem hlt)
      have hs2 := sum_take_more zs k hlt
      rw [← HS.out] at hs2
      have HS2 := Lib.hid hs2
      clear hc hs2
      generalize zs[k] = z at *
      by_cases hbig : s + z ≤ 1048576
      · go_wp2_with fail
        go_round
        case rel => exact ⟨k + 1, s + z, by go_num, by go_num, hlt, HS2.out.symm, hbig⟩
        case measure => simp [intOf]; omega
      · have hd : decide (1048576 < zs.sum) = true := by
          have h1 := sum_take_le zs (k + 1)
          rw [HS2.out] at h1
          simp; omega
        have HD := Lib.hid hd
        clear hd
        have hbig2 : 1048576 < (s : Int) + (z : Int) := by omega
        clear hbig
        go_wp2
        go_ret
        exact ⟨by rw [HD.out]; rfl, rfl⟩
    · have hd : decide (1048576 < zs.sum) = false := by
        have h1 := HS.out
        rw [List.take_of_length_le (by omega)] at h1
        simp; omega
      have HD := Lib.hid hd
      clear hd
      go_wp2
      go_ret
      exact ⟨by rw [HD.out]; rfl, rfl⟩
theorem beyond_of2 (ns : List Nat) (b : Bool) (hl : ns.length ≤ 1000) (hm : ∀ z ∈ ns, z ≤ 4611686018427387904) (hb : b = decide (1048576 < ns.sum)) (u : Value) (V : World) (h : SliceOf ns u V) :
    Calls Tryz.prog 11 #[u] V fun e w' => e = .returned (.bool b) ∧ Below V.heap.size V w' := by
  obtain ⟨g, t, rfl, h2⟩ := h.form
  subst hb
  refine (beyond_big (some ⟨g, 0, none⟩) ns.length ns hl hm V V.heap.size ?_).mono ?_
  · refine ⟨by rw [cellsI_length, Nat.mul_one], fun _ => ⟨_, rfl, h2.lt, fun j u hu => ?_⟩⟩
    rw [show (⟨g, 0, none⟩ : Addr).add j = ⟨g, j, none⟩ by unfold Addr.add; split <;> simp_all, h2.cell j, ← hu]
    simp
  · rintro e w' ⟨rfl, rfl⟩
    exact ⟨rfl, Below.refl _ _⟩

set_option maxRecDepth 100000 in
set_option maxHeartbeats 1000000 in
theorem ref02_Checks (l : List FLoc) (ks : FLoc → Bool) (A : Option Addr) (c : Nat) (hl : l.length ≤ 9223372036854775807) (w : World) (h : Reads w w.heap.size 4 A l.length (cellsF l))
    (H : ∀ q ∈ l, ∀ V, Below w.heap.size w V → Calls Tryz.prog 21 #[q.val] V fun e w' => e = .returned (.int .i64 (if ks q then 0 else 1)) ∧ Below V.heap.size V w') :
    Calls Tryz.prog 30 #[.slice A l.length c] w fun e w' => e = .returned (.bool (l.all ks)) ∧ Below w.heap.size w w' := by
  have HR := Lib.hid h
  have HS := Lib.hid H
  clear h H
  have H0 := Lib.hid (by intro j hj; omega : ∀ j (_ : j < 0), (h : j < l.length) → ks l[j] = true)
  go_enter Tryz.func30, Tryz.ntmps30
  go_wp2_with fail
  go_loopw [3] (fun s wr => ∃ i : Nat, s = .int .i64 i ∧ i ≤ l.length ∧ Hid (∀ j (_ : j < i), (h : j < l.length) → ks l[j] = true) ∧ Below w.heap.size w wr) (fun s _ => l.length - (intOf s).toNat)
  case atStart => exact ⟨0, rfl, Nat.zero_le _, H0, Below.refl _ _⟩
  case round =>
    obtain ⟨i, rfl, hi, HN, hb⟩ := hrel
    clear H0
    by_cases hlt : i < l.length
    · have a0 : (0 : Int) ≤ (i : Int) := by omega
      have a1 : (i : Int) < (l.length : Int) := by omega
      obtain ⟨e0, e1, e2, e3⟩ := cellsF_get l i hlt
      obtain ⟨ad, rfl, hbl, c0, c1, c2, c3⟩ := (HR.out.below hb).row4 hlt e0 e1 e2 e3
      have C := HS.out _ (List.getElem_mem hlt)
      unfold FLoc.val at C
      have HB := Lib.hid hb
      clear e0 e1 e2 e3 hbl hb
      by_cases hlong : ks l[i] = true
      · rw [if_pos hlong] at C
        have C := Lib.hid C
        have HL := Lib.hid hlong
        clear hlong
        go_wp2_with (first | (go_at_call 21; with_reducible refine (C.out _ HB.out).mono ?_; rintro e w' ⟨rfl, hb'⟩; have B1 := belowTo HB.out hb'))
        go_roundw
        case rel =>
          refine ⟨i + 1, by go_num, hlt, Lib.hid fun j hj h => ?_, B1⟩
          rcases (by omega : j < i ∨ j = i) with hj | rfl
          · exact HN.out j hj h
          · exact HL.out
        case measure => simp [intOf]; omega
      · rw [if_neg hlong] at C
        have C := Lib.hid C
        have HL := Lib.hid hlong
        clear hlong
        go_wp2_with (first | (go_at_call 21; with_reducible refine (C.out _ HB.out).mono ?_; rintro e w' ⟨rfl, hb'⟩; have B1 := belowTo HB.out hb'))
        go_ret
        have e : l.all ks = false := List.all_eq_false.2 ⟨l[i], List.getElem_mem hlt, HL.out⟩
        exact ⟨by rw [e]; rfl, B1⟩
    · have HB := Lib.hid hb
      clear hb
      go_wp2_with fail
      go_ret
      have e : l.all ks = true := List.all_eq_true.2 fun x hx => by
        obtain ⟨j, hj, rfl⟩ := List.getElem_of_mem hx
        exact HN.out j (by omega) hj
      exact ⟨by rw [e]; rfl, HB.out⟩

/-- Checks of a list of one that was just made. -/
theorem rchecks_new (n1 n2 : Bool) (A B : Option Addr) (c e0 : Nat) (xs ys : List Nat) (V : World) (g' : Nat) (h : Raw V A c xs) (g : Raw V B e0 ys) (hg : V.heap.size = g') :
    Calls Tryz.prog 30 #[.slice (some ⟨g', 0, none⟩) 1 1] (V.alloc (.cells #[.bool n1, .slice A xs.length c, .bool n2, .slice B ys.length e0] 30)) fun e w' => e = .returned (.bool (chkE n1 n2 xs ys == 0)) ∧ Below (V.alloc (.cells #[.bool n1, .slice A xs.length c, .bool n2, .slice B ys.length e0] 30)).heap.size (V.alloc (.cells #[.bool n1, .slice A xs.length c, .bool n2, .slice B ys.length e0] 30)) w' := by
  have := ref02_Checks [⟨n1, A, xs.length, c, n2, B, ys.length, e0⟩] (fun _ => chkE n1 n2 xs ys == 0) (some ⟨g', 0, none⟩) 1 (by simp) (V.alloc (.cells #[.bool n1, .slice A xs.length c, .bool n2, .slice B ys.length e0] 30))
    (by subst hg; exact (Reads.new1 V 30 4 [.bool n1, .slice A xs.length c, .bool n2, .slice B ys.length e0] rfl).more (by simp))
    (by
      intro q hq W hW
      obtain rfl : q = ⟨n1, A, xs.length, c, n2, B, ys.length, e0⟩ := by simpa using hq
      rw [← chkE_bool]
      exact ref02_Check n1 n2 A B c e0 xs ys W ((h.alloc _).below hW) ((g.alloc _).below hW))
  simpa using this
set_option maxRecDepth 100000 in
set_option maxHeartbeats 1000000 in
theorem ref02_Sign (n s : Int) (d : Int) (A B : Option Addr) (c e0 : Nat) (w : World) (h : Raw w A c (natL n.natAbs)) (hs : s = n.sign) :
    Calls Tryz.prog 31 #[.agg #[.bool (decide (n < 0)), .slice A (natL n.natAbs).length c, .bool (decide (d < 0)), .slice B (natL d.natAbs).length e0]] w fun e w' => e = .returned (.int .i64 s) ∧ Below w.heap.size w w' := by
  have px := Quad.new w (.bool (decide (n < 0))) (.slice A (natL n.natAbs).length c) (.bool (decide (d < 0))) (.slice B (natL d.natAbs).length e0)
  have b0 := (Below.refl w.heap.size w).alloc (Nat.le_refl _) (.cells #[.bool (decide (n < 0)), .slice A (natL n.natAbs).length c, .bool (decide (d < 0)), .slice B (natL d.natAbs).length e0] 30)
  have C := Lib.hid (rsign n s A c _ (h.below b0) hs)
  have B0 := Lib.hid b0
  obtain ⟨-, x0, x1, x2, x3, -, -, -, -⟩ := px.facts
  clear h hs px b0
  go_enter Tryz.func31, Tryz.ntmps31
  go_wp2_with fail
  refine C.out.mono ?_
  rintro e w1 ⟨rfl, hb⟩
  have HF := Lib.hid (belowTo B0.out hb)
  clear x0 x1 x2 x3 hb
  go_wp2_with fail
  go_ret
  exact ⟨rfl, HF.out⟩
end Go.Proofs.YtadmoheohmbieaaGreatDoor

/- strings.Builder of a call's own: copyCheck, WriteByte, WriteString at this dump (whose copyCheck has no panic's text: so the shelf's do not lie here). -/
namespace Go.Proofs.YtadmoheohmbieaaGreatDoor
open Go.RowKit

theorem builderSize : (Tryz.prog.info? 251).map (·.size) = some 2 := by kernel_rfl
theorem builderLies : liesAt Tryz.prog Tryz.prog.depth 251 (2 / Tryz.prog.cellsOf 251) 0 251 1 = true := by kernel_rfl
theorem byteInfo : (Tryz.prog.info? 5).map (fun i => (i.zero, i.size, i.bytes)) = some (some (.int .u8 0), 1, 1) := by kernel_rfl
abbrev Bld (B b : Nat) (bs : List Value) (w : World) : Prop := Lib.IsBuilder 251 5 B b bs w

set_option maxRecDepth 100000 in
set_option maxHeartbeats 1000000 in
theorem check_used (b : Nat) (w : World) (h0 : w.cell? ⟨b, 0, none⟩ = some (.pointer (some ⟨b, 0, none⟩))) :
    Calls Tryz.prog 266 #[.pointer (some ⟨b, 0, none⟩)] w fun e w' => e = .returned (.tuple #[]) ∧ w' = w := by
  obtain ⟨j, hj, -⟩ := Option.map_eq_some_iff.1 builderSize
  go_enter Tryz.func266, Tryz.ntmps266
  go_wp2
  rw [Lib.run_neq_ptr_same w _ Tryz.underlying248 hj]
  go_wp2
  go_end0
  exact ⟨rfl, rfl⟩

set_option maxRecDepth 100000 in
set_option maxHeartbeats 1000000 in
theorem check_fresh (b : Nat) (w : World) (h0 : w.cell? ⟨b, 0, none⟩ = some (.pointer none)) (hsh : w.shape? b = some (251, 2)) (hfz : w.frozen? ⟨b, 0, none⟩ = false) :
    Calls Tryz.prog 266 #[.pointer (some ⟨b, 0, none⟩)] w fun e w' => e = .returned (.tuple #[]) ∧ w' = w.setCell ⟨b, 0, none⟩ (.pointer (some ⟨b, 0, none⟩)) := by
  obtain ⟨j, hj, hjs⟩ := Option.map_eq_some_iff.1 builderSize
  go_enter Tryz.func266, Tryz.ntmps266
  go_wp2
  rw [Lib.run_to_unsafe w ⟨b, 0, none⟩ Tryz.underlying248 Tryz.underlying280 hj (by rw [hjs]; decide) hsh (Nat.zero_lt_succ 1)]
  simp only [Result.andThen]
  rw [Oper.upon_value]
  go_wp2
  rw [run_callFunc_extern Tryz.func281 (by kernel_rfl) (by kernel_rfl) (by kernel_rfl) (e := Extern.AbiNoEscape.same) (by kernel_rfl)]
  rw [Lib.run_noEscape]
  simp only [Result.andThen]
  rw [Oper.upon_value]
  go_wp2
  rw [Lib.run_from_unsafe w ⟨b, 0, none⟩ Tryz.underlying280 Tryz.underlying248 hj hsh builderLies]
  simp only [Result.andThen]
  rw [Oper.upon_value]
  go_wp2
  go_end0
  exact ⟨rfl, rfl⟩

theorem builder_check (B b : Nat) (bs : List Value) (w : World) (h : Bld B b bs w) :
    Calls Tryz.prog 266 #[.pointer (some ⟨b, 0, none⟩)] w fun e w' => e = .returned (.tuple #[]) ∧ Lib.BuilderAt 251 5 B b (.pointer (some ⟨b, 0, none⟩)) bs w' ∧ Below B w w' ∧ w'.heap.size = w.heap.size ∧ w.grownBy w' (some b) := by
  rcases h with h | h
  · refine (check_fresh b w h.cell0 h.shape h.frozen0).mono ?_
    rintro e w' ⟨rfl, rfl⟩
    exact ⟨rfl, h.used _, (Below.refl B w).setCell (p := ⟨b, 0, none⟩) h.1 _, by simp [World.setCell], ⟨rfl, rfl, rfl, by simp [World.setCell], fun k _ hk => Below.heap_setCell _ _ _ _ (fun e => hk (by simp [e]))⟩⟩
  · refine (check_used b w h.cell0).mono ?_
    rintro e w' ⟨rfl, rfl⟩
    exact ⟨rfl, h, Below.refl B _, rfl, World.grownBy.refl _ _⟩

set_option maxRecDepth 100000 in
set_option maxHeartbeats 2000000 in
theorem write_byte (B b : Nat) (bs : List Value) (u : Int) (w : World) (h : Bld B b bs w) (hlen : bs.length + 1 ≤ 140737488355328) (hBw : B ≤ w.heap.size) :
    Calls Tryz.prog 250 #[.pointer (some ⟨b, 0, none⟩), .int .u8 u] w fun e w' => e = .returned .nilIface ∧ Bld B b (bs ++ [.int .u8 u]) w' ∧ Below B w w' := by
  obtain ⟨i0, hi, hz0, hz1, hz2⟩ := info_parts byteInfo
  have C := Lib.hid (builder_check B b bs w h)
  clear h
  go_enter Tryz.func250, Tryz.ntmps250
  go_wp2_with fail
  refine C.out.mono ?_
  rintro e w1 ⟨rfl, ⟨hB, v, hbk, hown, hne⟩, hb1, hs1, -⟩
  have c0 : w1.cell? ⟨b, 0, none⟩ = some (.pointer (some ⟨b, 0, none⟩)) := by rw [Lib.cell_of_heap hbk]; rfl
  have c1 : w1.cell? ⟨b, 1, none⟩ = some v := by rw [Lib.cell_of_heap hbk]; rfl
  have hlt : b < w1.heap.size := by
    rcases Nat.lt_or_ge b w1.heap.size with h' | h'
    · exact h'
    · simp [Array.getElem?_eq_none h'] at hbk
  have HB1 := Lib.hid hb1
  have hBw1 : B ≤ w1.heap.size := by omega
  have hwl : w.heap.size ≤ w1.heap.size := by omega
  clear C hb1 hs1
  go_wp2_with (
      at_builtin
      refine wpList_append_own _ rfl _ _ 249 rfl B 5 i0 (.int .u8 0) 1 1 Tryz.underlying249 hi hz0 hz1 hz2 rfl (by decide) _ _ _ rfl (hown.alloc _) ⟨w1.heap.size, 0, none⟩ 1 1 [.int .u8 u] rfl rfl (by
      intro j x hj
      match j, hj with
      | 0, hj => simp at hj; subst hj; simp [Addr.add]) (by intro x hx; simp at hx; subst hx; rfl) (by unfold maxLen; omega) (by omega) (by simp; omega) ?_
      intro v' w2 hown' hgrow hat'
      have hb2 : w2.heap[b]? = some (.cells #[.pointer (some ⟨b, 0, none⟩), v] 251 (0, 0)) := by
        rw [hgrow.block b (by simp; omega) (fun e => hne e.symm), Lib.alloc_old w1 _ b hlt]
        exact hbk
      have d0 : w2.cell? ⟨b, 0, none⟩ = some (.pointer (some ⟨b, 0, none⟩)) := by rw [Lib.cell_of_heap hb2]; rfl
      have d1 : w2.cell? ⟨b, 1, none⟩ = some v := by rw [Lib.cell_of_heap hb2]; rfl
      have f1 : w2.frozen? ⟨b, 1, none⟩ = false := Lib.frozen_of_heap hb2 1
      obtain ⟨g, cap, rfl⟩ : ∃ g cap, v' = .slice (some ⟨g, 0, none⟩) (bs.length + 1) cap := by
        rcases hown'.2 with ⟨_, h0⟩ | ⟨g, cap, cur, hv, _⟩
        · omega
        · exact ⟨g, cap, hv⟩)
  go_ret
  refine ⟨rfl, .inr ?_, ?_⟩
  · exact Lib.BuilderAt.put (T := 251) (e := 5) hB hb2 (bs' := bs ++ [.int .u8 u]) (by simpa using hown') (by decide)
  · exact ((HB1.out.alloc (by omega) _).grown hgrow (by simp; omega) (fun k hk => (hown.lt k hk).1)).setCell (p := ⟨b, 1, none⟩) hB _

set_option maxRecDepth 100000 in
set_option maxHeartbeats 2000000 in
theorem write_string (B b : Nat) (bs : List Value) (s : ByteArray) (w : World) (h : Bld B b bs w) (hlen : bs.length + s.size ≤ 140737488355328) (hBw : B ≤ w.heap.size) :
    Calls Tryz.prog 251 #[.pointer (some ⟨b, 0, none⟩), .string s] w fun e w' => e = .returned (.tuple #[.int .i64 s.size, .nilIface]) ∧ Bld B b (bs ++ Lib.strCells s) w' ∧ Below B w w' := by
  obtain ⟨i0, hi, hz0, hz1, hz2⟩ := info_parts byteInfo
  have C := Lib.hid (builder_check B b bs w h)
  clear h
  go_enter Tryz.func251, Tryz.ntmps251
  go_wp2_with fail
  refine C.out.mono ?_
  rintro e w1 ⟨rfl, ⟨hB, v, hbk, hown, hne⟩, hb1, hs1, -⟩
  have c0 : w1.cell? ⟨b, 0, none⟩ = some (.pointer (some ⟨b, 0, none⟩)) := by rw [Lib.cell_of_heap hbk]; rfl
  have c1 : w1.cell? ⟨b, 1, none⟩ = some v := by rw [Lib.cell_of_heap hbk]; rfl
  have hlt : b < w1.heap.size := by
    rcases Nat.lt_or_ge b w1.heap.size with h' | h'
    · exact h'
    · simp [Array.getElem?_eq_none h'] at hbk
  have HB1 := Lib.hid hb1
  have hBw1 : B ≤ w1.heap.size := by omega
  have hwl : w.heap.size ≤ w1.heap.size := by omega
  clear C hb1 hs1
  go_wp2_with (
      at_builtin
      refine Lib.wpList_append_own_string _ rfl _ _ 249 9 rfl B 5 i0 Tryz.underlying249 Tryz.underlying9 hi hz0 hz1 hz2 _ _ _ rfl hown s rfl (by unfold maxLen; omega) (by omega) (by omega) ?_
      intro v' w2 hown' hgrow hat'
      have hb2 : w2.heap[b]? = some (.cells #[.pointer (some ⟨b, 0, none⟩), v] 251 (0, 0)) := by
        rw [hgrow.block b hlt (fun e => hne e.symm)]
        exact hbk
      have d0 : w2.cell? ⟨b, 0, none⟩ = some (.pointer (some ⟨b, 0, none⟩)) := by rw [Lib.cell_of_heap hb2]; rfl
      have d1 : w2.cell? ⟨b, 1, none⟩ = some v := by rw [Lib.cell_of_heap hb2]; rfl
      have f1 : w2.frozen? ⟨b, 1, none⟩ = false := Lib.frozen_of_heap hb2 1
      obtain ⟨ao, n', cap, rfl⟩ : ∃ ao n' cap, v' = .slice ao n' cap := by
        rcases hown'.2 with ⟨hv, _⟩ | ⟨g, cap, cur, hv, _⟩
        · exact ⟨_, _, _, hv⟩
        · exact ⟨_, _, _, hv⟩)
  go_ret2
  refine ⟨rfl, .inr ?_, ?_⟩
  · exact Lib.BuilderAt.put (T := 251) (e := 5) hB hb2 (bs' := bs ++ Lib.strCells s) (by simpa [Lib.strCells_length] using hown') (by decide)
  · exact (HB1.out.grown hgrow (by omega) (fun k hk => (hown.lt k hk).1)).setCell (p := ⟨b, 1, none⟩) hB _
end Go.Proofs.YtadmoheohmbieaaGreatDoor

/- Decimal digits by nines: plain Lean. -/
namespace Go.Proofs.YtadmoheohmbieaaGreatDoor

/-- k digits, noughts ahead. -/
def padN : Nat → Nat → List UInt8
  | 0, _ => []
  | k + 1, c => padN k (c / 10) ++ [UInt8.ofNat (48 + c % 10)]
theorem padN_length : ∀ (k c : Nat), (padN k c).length = k
  | 0, _ => rfl
  | k + 1, c => by simp [padN, padN_length k]
theorem dec_last {v : Nat} (h : 10 ≤ v) : Lib.decDigits v = Lib.decDigits (v / 10) ++ [UInt8.ofNat (48 + v % 10)] := by
  rw [Lib.decDigits, dif_neg (by omega)]
theorem dec_split : ∀ (k v : Nat), 10 ^ k ≤ v → Lib.decDigits v = Lib.decDigits (v / 10 ^ k) ++ padN k v
  | 0, v, _ => by simp [padN]
  | k + 1, v, h => by
    have e : 10 ^ (k + 1) = 10 * 10 ^ k := by rw [Nat.pow_succ, Nat.mul_comm]
    have hp : 0 < 10 ^ k := Nat.pow_pos (by omega)
    have h10 : 10 ≤ v := by
      have : 10 * 1 ≤ 10 * 10 ^ k := Nat.mul_le_mul_left _ hp
      omega
    have hk : 10 ^ k ≤ v / 10 := by
      rw [Nat.le_div_iff_mul_le (by omega), Nat.mul_comm]; omega
    rw [dec_last h10, dec_split k (v / 10) hk, padN, e, Nat.div_div_eq_div_mul, List.append_assoc]
theorem padN_dec : ∀ (k c : Nat), 0 < k → c < 10 ^ k → padN k c = List.replicate (k - (Lib.decDigits c).length) 48 ++ Lib.decDigits c
  | 0, _, h, _ => absurd h (by omega)
  | k + 1, c, _, hc => by
    rw [padN]
    rcases Nat.lt_or_ge c 10 with h | h
    · have e0 : c / 10 = 0 := by omega
      have em : c % 10 = c := by omega
      rw [e0, em, Lib.decDigits_one h]
      have z : ∀ j, padN j 0 = List.replicate j 48 := by
        intro j
        induction j with
        | zero => rfl
        | succ j ih => rw [padN, Nat.zero_div, ih, List.replicate_succ']; rfl
      rw [z]; simp
    · have hk : 0 < k := by
        rcases Nat.eq_zero_or_pos k with h0 | h0
        · subst h0; simp at hc; omega
        · exact h0
      have hc2 : c / 10 < 10 ^ k := by
        rw [Nat.div_lt_iff_lt_mul (by omega), Nat.mul_comm, ← Nat.pow_succ']; exact hc
      rw [padN_dec k (c / 10) hk hc2, dec_last h, List.append_assoc]
      simp
theorem padN_mod (k : Nat) : ∀ (c : Nat), padN k (c % 10 ^ k) = padN k c := by
  induction k with
  | zero => intro c; rfl
  | succ k ih =>
    intro c
    rw [padN, padN]
    have e : 10 ^ (k + 1) = 10 * 10 ^ k := by rw [Nat.pow_succ, Nat.mul_comm]
    have e1 : c % 10 ^ (k + 1) / 10 = c / 10 % 10 ^ k := by rw [e, Nat.mod_mul_right_div_self]
    have e2 : c % 10 ^ (k + 1) % 10 = c % 10 := by rw [e, Nat.mod_mul_right_mod]
    rw [e1, e2, ih]
/-- Nine digits of a chunk, as the program tells them: noughts ahead, then its digits. -/
theorem pad9 (c : Nat) (h : c < 1000000000) : padN 9 c = List.replicate (9 - (Lib.decDigits c).length) 48 ++ Lib.decDigits c := padN_dec 9 c (by omega) (by simpa using h)
theorem dec_nine {v : Nat} (h : 1000000000 ≤ v) : Lib.decDigits v = Lib.decDigits (v / 1000000000) ++ padN 9 (v % 1000000000) := by
  have e : (10 : Nat) ^ 9 = 1000000000 := by decide
  have := dec_split 9 v (by rw [e]; exact h)
  rw [← padN_mod, e] at this
  exact this
/-- A number's chunks of nine digits, the lowest ahead. -/
def chunks (v : Nat) : List Nat := if h : v = 0 then [] else (v % 1000000000) :: chunks (v / 1000000000)
decreasing_by omega
theorem chunks_nil : chunks 0 = [] := by rw [chunks, dif_pos rfl]
theorem chunks_cons {v : Nat} (h : v ≠ 0) : chunks v = (v % 1000000000) :: chunks (v / 1000000000) := by rw [chunks, dif_neg h]
theorem chunks_lt : ∀ (v : Nat), ∀ c ∈ chunks v, c < 1000000000 := by
  intro v
  induction v using Nat.strongRecOn with
  | ind v ih =>
    intro c hc
    by_cases h : v = 0
    · subst h; rw [chunks_nil] at hc; simp at hc
    · rw [chunks_cons h] at hc
      rcases List.mem_cons.1 hc with rfl | hc
      · omega
      · exact ih _ (by omega) c hc
/-- The text of chunks, the highest one plain, the others of nine digits. -/
def chunkText : List Nat → List UInt8
  | [] => []
  | [c] => Lib.decDigits c
  | c :: d :: r => chunkText (d :: r) ++ padN 9 c
theorem chunk_text : ∀ (v : Nat), v ≠ 0 → chunkText (chunks v) = Lib.decDigits v := by
  intro v
  induction v using Nat.strongRecOn with
  | ind v ih =>
    intro h
    rw [chunks_cons h]
    by_cases h2 : v / 1000000000 = 0
    · rw [h2, chunks_nil]
      show Lib.decDigits (v % 1000000000) = _
      rw [Nat.mod_eq_of_lt (by omega)]
    · rw [dec_nine (by omega), ← ih _ (by omega) h2, chunks_cons h2]
      rfl
theorem dec_short : ∀ (k c : Nat), 0 < k → c < 10 ^ k → (Lib.decDigits c).length ≤ k
  | 0, _, h, _ => absurd h (by omega)
  | k + 1, c, _, hc => by
    rcases Nat.lt_or_ge c 10 with h | h
    · rw [Lib.decDigits_one h]; simp
    · have hk : 0 < k := by
        rcases Nat.eq_zero_or_pos k with h0 | h0
        · subst h0; simp at hc; omega
        · exact h0
      have hc2 : c / 10 < 10 ^ k := by
        rw [Nat.div_lt_iff_lt_mul (by omega), Nat.mul_comm, ← Nat.pow_succ']; exact hc
      have := dec_short k (c / 10) hk hc2
      rw [dec_last h]; simp; omega
theorem dec_nine_len {c : Nat} (h : c < 1000000000) : (Lib.decDigits c).length ≤ 9 := dec_short 9 c (by omega) (by simpa using h)
theorem chunkText_length : ∀ (cs : List Nat), (∀ c ∈ cs, c < 1000000000) → (chunkText cs).length ≤ 9 * cs.length
  | [], _ => by simp [chunkText]
  | [c], h => by have := dec_nine_len (h c (by simp)); simp [chunkText]; omega
  | c :: d :: r, h => by
    have := chunkText_length (d :: r) (fun x hx => h x (List.mem_cons_of_mem _ hx))
    simp [chunkText, padN_length] at *
    omega
theorem chunk_top {cs : List Nat} {m : Nat} (h : m + 1 = cs.length) : chunkText (cs.drop m) = Lib.decDigits (cs[m]'(by omega)) := by
  have e : cs.drop m = [cs[m]'(by omega)] := by
    rw [List.drop_eq_getElem_cons (by omega), List.drop_eq_nil_of_le (by omega)]
  rw [e]; rfl
theorem chunk_next {cs : List Nat} {m : Nat} (h : m + 1 < cs.length) : chunkText (cs.drop m) = chunkText (cs.drop (m + 1)) ++ padN 9 (cs[m]'(by omega)) := by
  have e : cs.drop m = cs[m]'(by omega) :: cs[m + 1]'h :: cs.drop (m + 1 + 1) := by
    rw [List.drop_eq_getElem_cons (by omega), List.drop_eq_getElem_cons h]
  have e2 : cs.drop (m + 1) = cs[m + 1]'h :: cs.drop (m + 1 + 1) := List.drop_eq_getElem_cons h
  rw [e, e2]; rfl
end Go.Proofs.YtadmoheohmbieaaGreatDoor
