/- Several texts in one: FOps, Kp, Oct, Ratio0, FPlain. -/
import Derived.Test.YtdonecnhdkjniaaGreatDoorGx22
set_option maxRecDepth 100000
set_option maxHeartbeats 8000000
namespace Go.Proofs.YtdonecnhdkjniaaGreatDoor
open Go.RowKit

theorem ZD.blk {w : World} {g n size : Nat} {t : TypeId} {cs : List Value} (h : ZJ w g t cs.toArray) (hl : cs.length = n * size) : ZD w w.heap.size size (some ⟨g, 0, none⟩) n cs :=
 ⟨hl, fun _ => ⟨⟨g, 0, none⟩, rfl, h.lt, fun j u hu => by
  rw [show (⟨g, 0, none⟩ : Addr).add j = ⟨g, j, none⟩ by unfold Addr.add; split <;> simp_all, h.cell j, <- hu]
  simp⟩⟩
theorem ZE.quad {w : World} {base g : Nat} {v a b c d : Value} {n m : Int} (h : ZE w base v n m) (q : Zz w g a b c d) (x y z u : Value) : ZE ((((w.setCell ⟨g, 0, none⟩ x).setCell ⟨g, 1, none⟩ y).setCell ⟨g, 2, none⟩ z).setCell ⟨g, 3, none⟩ u) base v n m := by
 obtain ⟨A, k, B, e, h1, h2, h3⟩ := h.form
 exact ⟨A, k, B, e, h1, h2.quad q _ _ _ _, h3.quad q _ _ _ _⟩
theorem ZE.below {w w' : World} {base : Nat} {v : Value} {n d : Int} (h : ZE w base v n d) (hb : Below w.heap.size w w') : ZE w' base v n d := by
 obtain ⟨A, k, B, e, h1, h2, h3⟩ := h.form
 exact ⟨A, k, B, e, h1, h2.below hb, h3.below hb⟩

theorem ratio_ChecksI (l : List XG) (ks : Nat -> Bool) (A : Option Addr) (c : Nat) (hl : l.length <= 9223372036854775807) (w : World) (h : ZD w w.heap.size 4 A l.length (Ju l))
  (H : ∀ q (hq : q < l.length), ∀ V, Below w.heap.size w V -> Calls Tryz.prog 159 #[l[q].val] V fun e w' => e = .returned (.int .i64 (if ks q then 0 else 1)) /\ Below V.heap.size V w') :
  Calls Tryz.prog 92 #[.slice A l.length c] w fun e w' => e = .returned (.bool ((List.range l.length).all ks)) /\ Below w.heap.size w w' := by
 have HR := Hd h
 have HS := Hd H
 clear h H
 have H0 := Hd (by intro j hj; omega : ∀ j (_ : j < 0), (h : j < l.length) -> ks j = true)
 go_enter Tryz.func92, Tryz.ntmps92
 go_wp2_with fail
 go_loopw [7] (fun s wr => ∃ i : Nat, s = .int .i64 i /\ i <= l.length /\ Hid (∀ j (_ : j < i), (h : j < l.length) -> ks j = true) /\ Below w.heap.size w wr) (fun s _ => l.length - (intOf s).toNat)
 case atStart => exact ⟨0, rfl, Nat.zero_le _, H0, Below.refl _ _⟩
 case round =>
  obtain ⟨i, rfl, hi, HN, hb⟩ := hrel
  clear H0
  by_cases hlt : i < l.length
  . have a0 : (0 : Int) <= (i : Int) := by omega
    have a1 : (i : Int) < (l.length : Int) := by omega
    obtain ⟨e0, e1, e2, e3⟩ := JO l i hlt
    obtain ⟨ad, rfl, hbl, c0, c1, c2, c3⟩ := (HR.out.below hb).row4 hlt e0 e1 e2 e3
    have C := HS.out i hlt
    unfold XG.val at C
    have HB := Hd hb
    clear e0 e1 e2 e3 hbl hb
    by_cases hlong : ks i = true
    . rw [if_pos hlong] at C
      have C := Hd C
      have HL := Hd hlong
      clear hlong
      go_wp2_with (first | (go_at_call 159; with_reducible refine (C.out _ (HB.out.alloc HB.out.size _)).mono ?_; rintro e w' ⟨rfl, hb'⟩; have B1 := Zb (HB.out.alloc HB.out.size _) hb'))
      go_roundw
      case rel =>
       refine ⟨i + 1, by go_num, hlt, Hd fun j hj h => ?_, B1⟩
       rcases (by omega : j < i ∨ j = i) with hj | rfl
       . exact HN.out j hj h
       . exact HL.out
      case measure => simp [intOf]; omega
    . rw [if_neg hlong] at C
      have C := Hd C
      have HL := Hd hlong
      clear hlong
      go_wp2_with (first | (go_at_call 159; with_reducible refine (C.out _ (HB.out.alloc HB.out.size _)).mono ?_; rintro e w' ⟨rfl, hb'⟩; have B1 := Zb (HB.out.alloc HB.out.size _) hb'))
      go_ret
      have e : (List.range l.length).all ks = false := List.all_eq_false.2 ⟨i, List.mem_range.2 hlt, HL.out⟩
      exact ⟨by rw [e]; rfl, B1⟩
  . have HB := Hd hb
    clear hb
    go_wp2_with fail
    go_ret
    have e : (List.range l.length).all ks = true := List.all_eq_true.2 fun x hx => by
      have hj := List.mem_range.1 hx
      exact HN.out x (by omega) hj
    exact ⟨by rw [e]; rfl, HB.out⟩

theorem checks_two (n1 n2 n3 n4 : Bool) (A B A2 B2 : Option Addr) (c e0 c2 e2 : Nat) (xs ys us vs : List Nat) (V : World) (g' : Nat) (hx : Zm V A c xs) (kx : Zm V B e0 ys) (hy : Zm V A2 c2 us) (ky : Zm V B2 e2 vs) (hg : V.heap.size = g') :
  Calls Tryz.prog 92 #[.slice (some ⟨g', 0, none⟩) 2 2] (V.alloc (.cells #[.bool n1, .slice A xs.length c, .bool n2, .slice B ys.length e0, .bool n3, .slice A2 us.length c2, .bool n4, .slice B2 vs.length e2] 26)) fun e w' => e = .returned (.bool (XC n1 n2 xs ys == 0 && XC n3 n4 us vs == 0)) /\ Below (V.alloc (.cells #[.bool n1, .slice A xs.length c, .bool n2, .slice B ys.length e0, .bool n3, .slice A2 us.length c2, .bool n4, .slice B2 vs.length e2] 26)).heap.size (V.alloc (.cells #[.bool n1, .slice A xs.length c, .bool n2, .slice B ys.length e0, .bool n3, .slice A2 us.length c2, .bool n4, .slice B2 vs.length e2] 26)) w' := by
 have := ratio_ChecksI [⟨n1, A, xs.length, c, n2, B, ys.length, e0⟩, ⟨n3, A2, us.length, c2, n4, B2, vs.length, e2⟩] (fun i => if i = 0 then XC n1 n2 xs ys == 0 else XC n3 n4 us vs == 0) (some ⟨g', 0, none⟩) 2 (by simp) (V.alloc (.cells #[.bool n1, .slice A xs.length c, .bool n2, .slice B ys.length e0, .bool n3, .slice A2 us.length c2, .bool n4, .slice B2 vs.length e2] 26))
  (by subst hg; exact ZD.blk (ZJ.new V 26 #[.bool n1, .slice A xs.length c, .bool n2, .slice B ys.length e0, .bool n3, .slice A2 us.length c2, .bool n4, .slice B2 vs.length e2]) rfl)
  (by
   intro q hq W hW
   rcases (by simp at hq; omega : q = 0 ∨ q = 1) with rfl | rfl
   . have := ratio_Check n1 n2 A B c e0 xs ys W ((hx.alloc _).below hW) ((kx.alloc _).below hW)
     rw [chkE_bool] at this
     exact this
   . have := ratio_Check n3 n4 A2 B2 c2 e2 us vs W ((hy.alloc _).below hW) ((ky.alloc _).below hW)
     rw [chkE_bool] at this
     exact this)
 simpa [List.range, List.range.loop] using this

theorem ref02_ChecksI (l : List XG) (ks : Nat -> Bool) (A : Option Addr) (c : Nat) (hl : l.length <= 9223372036854775807) (w : World) (h : ZD w w.heap.size 4 A l.length (Ju l))
  (H : ∀ q (hq : q < l.length), ∀ V, Below w.heap.size w V -> Calls Tryz.prog 184 #[l[q].val] V fun e w' => e = .returned (.int .i64 (if ks q then 0 else 1)) /\ Below V.heap.size V w') :
  Calls Tryz.prog 110 #[.slice A l.length c] w fun e w' => e = .returned (.bool ((List.range l.length).all ks)) /\ Below w.heap.size w w' := by
 have HR := Hd h
 have HS := Hd H
 clear h H
 have H0 := Hd (by intro j hj; omega : ∀ j (_ : j < 0), (h : j < l.length) -> ks j = true)
 go_enter Tryz.func110, Tryz.ntmps110
 go_wp2_with fail
 go_loopw [3] (fun s wr => ∃ i : Nat, s = .int .i64 i /\ i <= l.length /\ Hid (∀ j (_ : j < i), (h : j < l.length) -> ks j = true) /\ Below w.heap.size w wr) (fun s _ => l.length - (intOf s).toNat)
 case atStart => exact ⟨0, rfl, Nat.zero_le _, H0, Below.refl _ _⟩
 case round =>
  obtain ⟨i, rfl, hi, HN, hb⟩ := hrel
  clear H0
  by_cases hlt : i < l.length
  . have a0 : (0 : Int) <= (i : Int) := by omega
    have a1 : (i : Int) < (l.length : Int) := by omega
    obtain ⟨e0, e1, e2, e3⟩ := JO l i hlt
    obtain ⟨ad, rfl, hbl, c0, c1, c2, c3⟩ := (HR.out.below hb).row4 hlt e0 e1 e2 e3
    have C := HS.out i hlt
    unfold XG.val at C
    have HB := Hd hb
    clear e0 e1 e2 e3 hbl hb
    by_cases hlong : ks i = true
    . rw [if_pos hlong] at C
      have C := Hd C
      have HL := Hd hlong
      clear hlong
      go_wp2_with (first | (go_at_call 184; with_reducible refine (C.out _ HB.out).mono ?_; rintro e w' ⟨rfl, hb'⟩; have B1 := Zb HB.out hb'))
      go_roundw
      case rel =>
       refine ⟨i + 1, by go_num, hlt, Hd fun j hj h => ?_, B1⟩
       rcases (by omega : j < i ∨ j = i) with hj | rfl
       . exact HN.out j hj h
       . exact HL.out
      case measure => simp [intOf]; omega
    . rw [if_neg hlong] at C
      have C := Hd C
      have HL := Hd hlong
      clear hlong
      go_wp2_with (first | (go_at_call 184; with_reducible refine (C.out _ HB.out).mono ?_; rintro e w' ⟨rfl, hb'⟩; have B1 := Zb HB.out hb'))
      go_ret
      have e : (List.range l.length).all ks = false := List.all_eq_false.2 ⟨i, List.mem_range.2 hlt, HL.out⟩
      exact ⟨by rw [e]; rfl, B1⟩
  . have HB := Hd hb
    clear hb
    go_wp2_with fail
    go_ret
    have e : (List.range l.length).all ks = true := List.all_eq_true.2 fun x hx => by
      have hj := List.mem_range.1 hx
      exact HN.out x (by omega) hj
    exact ⟨by rw [e]; rfl, HB.out⟩

theorem rchecks_two (n1 n2 n3 n4 : Bool) (A B A2 B2 : Option Addr) (c e0 c2 e2 : Nat) (xs ys us vs : List Nat) (V : World) (g' : Nat) (hx : Zm V A c xs) (kx : Zm V B e0 ys) (hy : Zm V A2 c2 us) (ky : Zm V B2 e2 vs) (hg : V.heap.size = g') :
  Calls Tryz.prog 110 #[.slice (some ⟨g', 0, none⟩) 2 2] (V.alloc (.cells #[.bool n1, .slice A xs.length c, .bool n2, .slice B ys.length e0, .bool n3, .slice A2 us.length c2, .bool n4, .slice B2 vs.length e2] 26)) fun e w' => e = .returned (.bool (XC n1 n2 xs ys == 0 && XC n3 n4 us vs == 0)) /\ Below (V.alloc (.cells #[.bool n1, .slice A xs.length c, .bool n2, .slice B ys.length e0, .bool n3, .slice A2 us.length c2, .bool n4, .slice B2 vs.length e2] 26)).heap.size (V.alloc (.cells #[.bool n1, .slice A xs.length c, .bool n2, .slice B ys.length e0, .bool n3, .slice A2 us.length c2, .bool n4, .slice B2 vs.length e2] 26)) w' := by
 have := ref02_ChecksI [⟨n1, A, xs.length, c, n2, B, ys.length, e0⟩, ⟨n3, A2, us.length, c2, n4, B2, vs.length, e2⟩] (fun i => if i = 0 then XC n1 n2 xs ys == 0 else XC n3 n4 us vs == 0) (some ⟨g', 0, none⟩) 2 (by simp) (V.alloc (.cells #[.bool n1, .slice A xs.length c, .bool n2, .slice B ys.length e0, .bool n3, .slice A2 us.length c2, .bool n4, .slice B2 vs.length e2] 26))
  (by subst hg; exact ZD.blk (ZJ.new V 26 #[.bool n1, .slice A xs.length c, .bool n2, .slice B ys.length e0, .bool n3, .slice A2 us.length c2, .bool n4, .slice B2 vs.length e2]) rfl)
  (by
   intro q hq W hW
   rcases (by simp at hq; omega : q = 0 ∨ q = 1) with rfl | rfl
   . have := ref02_Check n1 n2 A B c e0 xs ys W ((hx.alloc _).below hW) ((kx.alloc _).below hW)
     rw [chkE_bool] at this
     exact this
   . have := ref02_Check n3 n4 A2 B2 c2 e2 us vs W ((hy.alloc _).below hW) ((ky.alloc _).below hW)
     rw [chkE_bool] at this
     exact this)
 simpa [List.range, List.range.loop] using this

structure Fine (n d : Int) : Prop where
 chk : XC (decide (n < 0)) (decide (d < 0)) (Za n.natAbs) (Za d.natAbs) = 0
 num : Fit n
 den : Fit d
 pos : 0 < d
 low : ZL n d = 1
theorem fine_of {n1 n2 : Bool} {xs ys : List Nat} (hx : Zj xs) (hy : Zj ys) (h0 : XC n1 n2 xs ys = 0) : ∃ n d, Fine n d /\ n1 = decide (n < 0) /\ n2 = decide (d < 0) /\ xs = Za n.natAbs /\ ys = Za d.natAbs := by
 have hc := h0
 unfold XC mkOk at h0
 cases o1 : okI n1 xs with
 | false => rw [o1] at h0; simp at h0
 | true =>
  cases o2 : okI n2 ys with
  | false => rw [o1, o2] at h0; simp at h0
  | true =>
   obtain ⟨a1, a2, a3⟩ := ok_num hx o1
   obtain ⟨b1, b2, b3⟩ := ok_num hy o2
   rw [o1, o2] at h0
   simp only [Bool.and_self, if_true] at h0
   generalize Zv n1 xs = n at a1 a2 a3 h0
   generalize Zv n2 ys = d at b1 b2 b3 h0
   subst a1 a2 b1 b2
   split at h0
   . next h1 => exact ⟨n, d, ⟨hc, a3, b3, h1.1, h1.2⟩, rfl, rfl, rfl, rfl⟩
   . simp at h0
def ansN (n d : Int) : Int := if lz n <= 2048 /\ lz d <= 2048 then n else 0
def ansD (n d : Int) : Int := if lz n <= 2048 /\ lz d <= 2048 then d else 0
def ansK (n d : Int) : Int := if lz n <= 2048 /\ lz d <= 2048 then 0 else 4
def Js (w : World) (n d : Int) (b : Bool) (e : Ending) (w' : World) : Prop := ∃ v, e = .returned (.tuple #[v, .bool b]) /\ ZE w' 0 v n d /\ Below w.heap.size w w'


structure Kp (P : World -> Prop) (V : World) : Prop where
 h : P V
 st : ∀ V V', P V -> Below V.heap.size V V' -> P V'
theorem Kp.below {P : World -> Prop} {V V' : World} (k : Kp P V) (hb : Below V.heap.size V V') : Kp P V' := ⟨k.st _ _ k.h hb, k.st⟩
theorem Kp.add {P Q : World -> Prop} {V : World} (k : Kp P V) (q : Q V) (s : ∀ V V', Q V -> Below V.heap.size V V' -> Q V') : Kp (fun V => Q V /\ P V) V :=
 ⟨⟨q, k.h⟩, fun V V' h hb => ⟨s V V' h.1 hb, k.st V V' h.2 hb⟩⟩
theorem Kp.base {w V : World} (h : Below w.heap.size w V) : Kp (fun V => Below w.heap.size w V) V := ⟨h, fun _ _ a b => Zb a b⟩

structure Yl (w : World) (g : Nat) (T : TypeId) (a b c d e f h i : Value) : Prop where
 blk : ZJ w g T #[a, b, c, d, e, f, h, i]
section
variable {w w' : World} {g : Nat} {T : TypeId} {a b c d e f h i : Value}
theorem Yl.new (w : World) (T : TypeId) (a b c d e f h i : Value) : Yl (w.alloc (.cells #[a, b, c, d, e, f, h, i] T)) w.heap.size T a b c d e f h i := ⟨ZJ.new w _ _⟩
theorem Yl.below (k : Yl w g T a b c d e f h i) (hb : Below w.heap.size w w') : Yl w' g T a b c d e f h i := ⟨k.blk.below hb k.blk.lt⟩
theorem Yl.facts (k : Yl w g T a b c d e f h i) : g < w.heap.size /\ w.cell? ⟨g, 0, none⟩ = some a /\ w.cell? ⟨g, 1, none⟩ = some b /\ w.cell? ⟨g, 2, none⟩ = some c /\ w.cell? ⟨g, 3, none⟩ = some d /\
  w.cell? ⟨g, 4, none⟩ = some e /\ w.cell? ⟨g, 5, none⟩ = some f /\ w.cell? ⟨g, 6, none⟩ = some h /\ w.cell? ⟨g, 7, none⟩ = some i :=
 ⟨k.blk.lt, k.blk.cell 0, k.blk.cell 1, k.blk.cell 2, k.blk.cell 3, k.blk.cell 4, k.blk.cell 5, k.blk.cell 6, k.blk.cell 7⟩
theorem Yl.free (k : Yl w g T a b c d e f h i) : w.frozen? ⟨g, 0, none⟩ = false /\ w.frozen? ⟨g, 1, none⟩ = false /\ w.frozen? ⟨g, 2, none⟩ = false /\ w.frozen? ⟨g, 3, none⟩ = false /\
  w.frozen? ⟨g, 4, none⟩ = false /\ w.frozen? ⟨g, 5, none⟩ = false /\ w.frozen? ⟨g, 6, none⟩ = false /\ w.frozen? ⟨g, 7, none⟩ = false :=
 ⟨k.blk.frozen 0, k.blk.frozen 1, k.blk.frozen 2, k.blk.frozen 3, k.blk.frozen 4, k.blk.frozen 5, k.blk.frozen 6, k.blk.frozen 7⟩
end
theorem set8_far (w : World) (g : Nat) (x0 x1 x2 x3 x4 x5 x6 x7 : Value) (k : Nat) (hk : k ≠ g) : ((((((((w.setCell ⟨g, 0, none⟩ x0).setCell ⟨g, 1, none⟩ x1).setCell ⟨g, 2, none⟩ x2).setCell ⟨g, 3, none⟩ x3).setCell ⟨g, 4, none⟩ x4).setCell ⟨g, 5, none⟩ x5).setCell ⟨g, 6, none⟩ x6).setCell ⟨g, 7, none⟩ x7).heap[k]? = w.heap[k]? := by
 rw [Below.heap_setCell _ ⟨g, 7, none⟩ x7 k hk, Below.heap_setCell _ ⟨g, 6, none⟩ x6 k hk, Below.heap_setCell _ ⟨g, 5, none⟩ x5 k hk, Below.heap_setCell _ ⟨g, 4, none⟩ x4 k hk, Below.heap_setCell _ ⟨g, 3, none⟩ x3 k hk, Below.heap_setCell _ ⟨g, 2, none⟩ x2 k hk, Below.heap_setCell _ ⟨g, 1, none⟩ x1 k hk, Below.heap_setCell _ ⟨g, 0, none⟩ x0 k hk]
theorem below8 {W w : World} {B g : Nat} (h : Below B W w) (hg : B <= g) (x0 x1 x2 x3 x4 x5 x6 x7 : Value) : Below B W ((((((((w.setCell ⟨g, 0, none⟩ x0).setCell ⟨g, 1, none⟩ x1).setCell ⟨g, 2, none⟩ x2).setCell ⟨g, 3, none⟩ x3).setCell ⟨g, 4, none⟩ x4).setCell ⟨g, 5, none⟩ x5).setCell ⟨g, 6, none⟩ x6).setCell ⟨g, 7, none⟩ x7) :=
 ((((((((h.setCell (p := ⟨g, 0, none⟩) hg x0).setCell (p := ⟨g, 1, none⟩) hg x1).setCell (p := ⟨g, 2, none⟩) hg x2).setCell (p := ⟨g, 3, none⟩) hg x3).setCell (p := ⟨g, 4, none⟩) hg x4).setCell (p := ⟨g, 5, none⟩) hg x5).setCell (p := ⟨g, 6, none⟩) hg x6).setCell (p := ⟨g, 7, none⟩) hg x7)
theorem Yl.store {w : World} {g : Nat} {T : TypeId} {a b c d e f h i : Value} (k : Yl w g T a b c d e f h i) (x0 x1 x2 x3 x4 x5 x6 x7 : Value) : Yl ((((((((w.setCell ⟨g, 0, none⟩ x0).setCell ⟨g, 1, none⟩ x1).setCell ⟨g, 2, none⟩ x2).setCell ⟨g, 3, none⟩ x3).setCell ⟨g, 4, none⟩ x4).setCell ⟨g, 5, none⟩ x5).setCell ⟨g, 6, none⟩ x6).setCell ⟨g, 7, none⟩ x7) g T x0 x1 x2 x3 x4 x5 x6 x7 := by
 have key := ((((((((k.blk.set_ 0 x0).set_ 1 x1).set_ 2 x2).set_ 3 x3).set_ 4 x4).set_ 5 x5).set_ 6 x6).set_ 7 x7)
 have e9 : ((((((((#[a, b, c, d, e, f, h, i].setIfInBounds 0 x0).setIfInBounds 1 x1).setIfInBounds 2 x2).setIfInBounds 3 x3).setIfInBounds 4 x4).setIfInBounds 5 x5).setIfInBounds 6 x6).setIfInBounds 7 x7) = #[x0, x1, x2, x3, x4, x5, x6, x7] := by simp
 rw [e9] at key
 exact ⟨key⟩
theorem Zc.other {w w' : World} {base g : Nat} {v : Value} {n : Int} {T : TypeId} {cs : Array Value} (hi : Zc w base v n) (hb : ZJ w g T cs) (hT : 109 ≠ T) (hw : ∀ k, k ≠ g -> w'.heap[k]? = w.heap[k]?) : Zc w' base v n := by
 obtain ⟨A', c', a1, a2, a3, a4⟩ := hi.form
 have hne := Xb a4 hb hT
 refine ⟨A', c', a1, a2, a3, a4.1, ?_⟩
 rcases a4.2 with p | ⟨g', cap, cur, p1, p2, p3, p4⟩
 . exact .inl p
 . refine .inr ⟨g', cap, cur, p1, p2, ?_, p4⟩
   have hg : g' ≠ g := fun e => by
    rw [p1] at hne
    exact hne (by simp [Value.ownBlock, e])
   rw [hw g' hg]
   exact p3
theorem Zl.other {w w' : World} {base g : Nat} {v : Value} {n d : Int} {T : TypeId} {cs : Array Value} (h : Zl w base v n d) (hb : ZJ w g T cs) (hT : 109 ≠ T) (hw : ∀ k, k ≠ g -> w'.heap[k]? = w.heap[k]?) : Zl w' base v n d := by
 obtain ⟨A, c, B, e, h1, h2, h3, h4⟩ := h.form
 exact ⟨A, c, B, e, h1, h2.other hb hT hw, h3.other hb hT hw, h4⟩
theorem ZE.other {w w' : World} {base g : Nat} {v : Value} {n d : Int} {T : TypeId} {cs : Array Value} (h : ZE w base v n d) (hb : ZJ w g T cs) (hT : 109 ≠ T) (hw : ∀ k, k ≠ g -> w'.heap[k]? = w.heap[k]?) : ZE w' base v n d := by
 obtain ⟨A, c, B, e, h1, h2, h3⟩ := h.form
 exact ⟨A, c, B, e, h1, h2.other hb hT hw, h3.other hb hT hw⟩
structure Cell1 (w : World) (b : Nat) (T : TypeId) (v : Value) : Prop where
 blk : ZJ w b T #[v]
theorem Zp {w : World} {c1 : Array Value} {T1 : TypeId} {P : World -> Prop} (h : ∀ W, ZJ W w.heap.size T1 c1 -> Below w.heap.size w W -> P W) : P (w.alloc (.cells c1 T1)) := h _ (ZJ.new w _ _) ((Below.refl _ _).alloc (Nat.le_refl _) _)
theorem boxes2 {w : World} {c1 c2 : Array Value} {T1 T2 : TypeId} {P : World -> Prop} (h : ∀ W, ZJ W w.heap.size T1 c1 -> ZJ W (w.heap.size + 1) T2 c2 -> Below w.heap.size w W -> P W) : P ((w.alloc (.cells c1 T1)).alloc (.cells c2 T2)) := by
 have k := ZJ.new (w.alloc (.cells c1 T1)) T2 c2
 rw [World.size_alloc] at k
 exact h _ ((ZJ.new w _ _).alloc _) k (((Below.refl _ _).alloc (Nat.le_refl _) _).alloc (by simp) _)
theorem boxes3 {w : World} {c1 c2 c3 : Array Value} {T1 T2 T3 : TypeId} {P : World -> Prop} (h : ∀ W, ZJ W w.heap.size T1 c1 -> ZJ W (w.heap.size + 1) T2 c2 -> ZJ W (w.heap.size + 1 + 1) T3 c3 -> Below w.heap.size w W -> P W) : P (((w.alloc (.cells c1 T1)).alloc (.cells c2 T2)).alloc (.cells c3 T3)) := by
 refine boxes2 (w := w) (c1 := c1) (T1 := T1) (c2 := c2) (T2 := T2) (P := fun V => V.heap.size = w.heap.size + 1 + 1 -> P (V.alloc (.cells c3 T3))) (fun V h1 h2 h3 hz => ?_) (by simp)
 have k := ZJ.new V T3 c3
 rw [hz] at k
 exact h _ (h1.alloc _) (h2.alloc _) k (h3.alloc (by omega) _)
def Yj (v : Value) (g : Nat) : Prop := ∃ b1 A k c b2 B l e, v = .agg #[.bool b1, .slice A k c, .bool b2, .slice B l e] /\ ((Value.slice A k c).ownBlock = some g ∨ (Value.slice B l e).ownBlock = some g)
theorem Yj.at {b1 b2 : Bool} {A B : Option Addr} {k c l e g : Nat} (h : Yj (.agg #[.bool b1, .slice A k c, .bool b2, .slice B l e]) g) : (Value.slice A k c).ownBlock = some g ∨ (Value.slice B l e).ownBlock = some g := by
 obtain ⟨c1, A', k', c', c2, B', l', e', h1, h2⟩ := h
 simp only [Value.agg.injEq, Array.mk.injEq, List.cons.injEq, Value.slice.injEq, and_true] at h1
 obtain ⟨-, ⟨rfl, rfl, rfl⟩, -, rfl, rfl, rfl⟩ := h1
 exact h2
theorem Yj.of {b1 b2 : Bool} {A B : Option Addr} {k c l e g : Nat} (h : (Value.slice A k c).ownBlock = some g ∨ (Value.slice B l e).ownBlock = some g) : Yj (.agg #[.bool b1, .slice A k c, .bool b2, .slice B l e]) g := ⟨_, _, _, _, _, _, _, _, rfl, h⟩
theorem Zl.mine {w : World} {base : Nat} {v : Value} {n d : Int} (h : Zl w base v n d) : ∀ g, Yj v g -> base <= g /\ g < w.heap.size := by
 obtain ⟨A, c, B, e, rfl, h1, h2, -⟩ := h.form
 intro g hg
 rcases hg.at with h3 | h3
 . exact h1.mine g h3
 . exact h2.mine g h3
theorem Zl.in_ {w : World} {base : Nat} {v : Value} {n d : Int} (h : Zl w base v n d) : ZE w 0 v n d := by
 obtain ⟨A, c, B, e, h1, h2, h3, -⟩ := h.form
 exact ⟨A, c, B, e, h1, h2.base (Nat.zero_le _), h3.base (Nat.zero_le _)⟩
structure Zq (w : World) (v : Value) (n d m f : Int) : Prop where
 form : ∃ A c B e A2 c2 B2 e2, v = .agg #[.bool (decide (n < 0)), .slice A (Za n.natAbs).length c, .bool (decide (d < 0)), .slice B (Za d.natAbs).length e, .bool (decide (m < 0)), .slice A2 (Za m.natAbs).length c2, .bool (decide (f < 0)), .slice B2 (Za f.natAbs).length e2] /\
  Zm w A c (Za n.natAbs) /\ Zm w B e (Za d.natAbs) /\ Zm w A2 c2 (Za m.natAbs) /\ Zm w B2 e2 (Za f.natAbs)
theorem Zq.below {w w' : World} {v : Value} {n d m f : Int} (h : Zq w v n d m f) (hb : Below w.heap.size w w') : Zq w' v n d m f := by
 obtain ⟨A, c, B, e, A2, c2, B2, e2, h1, h2, h3, h4, h5⟩ := h.form
 exact ⟨A, c, B, e, A2, c2, B2, e2, h1, h2.below hb, h3.below hb, h4.below hb, h5.below hb⟩
structure ZV (w : World) (v : Value) (n d m f : Int) : Prop where
 form : ∃ A c B e A2 c2 B2 e2, v = .agg #[.bool (decide (n < 0)), .slice A (Za n.natAbs).length c, .bool (decide (d < 0)), .slice B (Za d.natAbs).length e, .bool (decide (m < 0)), .slice A2 (Za m.natAbs).length c2, .bool (decide (f < 0)), .slice B2 (Za f.natAbs).length e2] /\
  ZE w 0 (.agg #[.bool (decide (n < 0)), .slice A (Za n.natAbs).length c, .bool (decide (d < 0)), .slice B (Za d.natAbs).length e]) n d /\ ZE w 0 (.agg #[.bool (decide (m < 0)), .slice A2 (Za m.natAbs).length c2, .bool (decide (f < 0)), .slice B2 (Za f.natAbs).length e2]) m f
theorem ZE.raws {w : World} {base c e : Nat} {A B : Option Addr} {n d : Int} (h : ZE w base (.agg #[.bool (decide (n < 0)), .slice A (Za n.natAbs).length c, .bool (decide (d < 0)), .slice B (Za d.natAbs).length e]) n d) : Zm w A c (Za n.natAbs) /\ Zm w B e (Za d.natAbs) := by
 obtain ⟨A', c', B', e', h1, h2, h3⟩ := h.form
 simp only [Value.agg.injEq, Array.mk.injEq, List.cons.injEq, Value.slice.injEq, and_true, true_and] at h1
 obtain ⟨⟨rfl, rfl⟩, rfl, rfl⟩ := h1
 exact ⟨h2.rawAt, h3.rawAt⟩
theorem ZV.at_ {w : World} {v : Value} {n d m f : Int} (h : ZV w v n d m f) : Zq w v n d m f := by
 obtain ⟨A, c, B, e, A2, c2, B2, e2, h1, h2, h3⟩ := h.form
 exact ⟨A, c, B, e, A2, c2, B2, e2, h1, h2.raws.1, h2.raws.2, h3.raws.1, h3.raws.2⟩
theorem ZV.kept {B : Nat} {Ts : List TypeId} {w w' : World} {v : Value} {n d m f : Int} (h : ZV w v n d m f) (k : Zu B Ts w w') (hT : 109 ∉ Ts) : ZV w' v n d m f := by
 obtain ⟨A, c, B, e, A2, c2, B2, e2, h1, h2, h3⟩ := h.form
 exact ⟨A, c, B, e, A2, c2, B2, e2, h1, h2.kept k hT, h3.kept k hT⟩
theorem ZV.below {w w' : World} {v : Value} {n d m f : Int} (h : ZV w v n d m f) (hb : Below w.heap.size w w') : ZV w' v n d m f := by
 obtain ⟨A, c, B, e, A2, c2, B2, e2, h1, h2, h3⟩ := h.form
 exact ⟨A, c, B, e, A2, c2, B2, e2, h1, h2.below hb, h3.below hb⟩
theorem ZV.cells {w : World} {v : Value} {n d m f : Int} (h : ZV w v n d m f) : JT v 8 := by
 obtain ⟨A, c, B, e, A2, c2, B2, e2, rfl, -⟩ := h.form
 exact ⟨rfl, by simp [Value.cells, Value.oneCell']⟩
structure Zo (w : World) (base : Nat) (v : Value) (n d m f : Int) : Prop where
 form : ∃ A c B e A2 c2 B2 e2, v = .agg #[.bool (decide (n < 0)), .slice A (Za n.natAbs).length c, .bool (decide (d < 0)), .slice B (Za d.natAbs).length e, .bool (decide (m < 0)), .slice A2 (Za m.natAbs).length c2, .bool (decide (f < 0)), .slice B2 (Za f.natAbs).length e2] /\
  Zl w base (.agg #[.bool (decide (n < 0)), .slice A (Za n.natAbs).length c, .bool (decide (d < 0)), .slice B (Za d.natAbs).length e]) n d /\ Zl w base (.agg #[.bool (decide (m < 0)), .slice A2 (Za m.natAbs).length c2, .bool (decide (f < 0)), .slice B2 (Za f.natAbs).length e2]) m f /\
  ∀ g, Yj (.agg #[.bool (decide (n < 0)), .slice A (Za n.natAbs).length c, .bool (decide (d < 0)), .slice B (Za d.natAbs).length e]) g -> ¬ Yj (.agg #[.bool (decide (m < 0)), .slice A2 (Za m.natAbs).length c2, .bool (decide (f < 0)), .slice B2 (Za f.natAbs).length e2]) g
theorem Zo.in_ {w : World} {base : Nat} {v : Value} {n d m f : Int} (h : Zo w base v n d m f) : ZV w v n d m f := by
 obtain ⟨A, c, B, e, A2, c2, B2, e2, h1, h2, h3, -⟩ := h.form
 exact ⟨A, c, B, e, A2, c2, B2, e2, h1, h2.in_, h3.in_⟩
theorem Zo.cells {w : World} {base : Nat} {v : Value} {n d m f : Int} (h : Zo w base v n d m f) : JT v 8 := h.in_.cells
theorem Zo.kept {B : Nat} {Ts : List TypeId} {w w' : World} {base : Nat} {v : Value} {n d m f : Int} (h : Zo w base v n d m f) (k : Zu B Ts w w') (hT : 109 ∉ Ts) : Zo w' base v n d m f := by
 obtain ⟨A, c, B, e, A2, c2, B2, e2, h1, h2, h3, h4⟩ := h.form
 exact ⟨A, c, B, e, A2, c2, B2, e2, h1, h2.kept k hT, h3.kept k hT, h4⟩
theorem Zo.below {w w' : World} {base : Nat} {v : Value} {n d m f : Int} (h : Zo w base v n d m f) (hb : Below w.heap.size w w') : Zo w' base v n d m f := by
 obtain ⟨A, c, B, e, A2, c2, B2, e2, h1, h2, h3, h4⟩ := h.form
 exact ⟨A, c, B, e, A2, c2, B2, e2, h1, h2.below hb, h3.below hb, h4⟩
theorem Zo.base {w : World} {b b' : Nat} {v : Value} {n d m f : Int} (h : Zo w b v n d m f) (hb : b' <= b) : Zo w b' v n d m f := by
 obtain ⟨A, c, B, e, A2, c2, B2, e2, h1, h2, h3, h4⟩ := h.form
 exact ⟨A, c, B, e, A2, c2, B2, e2, h1, h2.base hb, h3.base hb, h4⟩
theorem Zo.nought (w : World) (base : Nat) : Zo w base (.agg #[.bool false, .slice none 0 0, .bool false, .slice none 0 0, .bool false, .slice none 0 0, .bool false, .slice none 0 0]) 0 0 0 0 :=
 ⟨none, 0, none, 0, none, 0, none, 0, rfl, Zl.nought _ _, Zl.nought _ _, fun g hg => by rcases hg.at with h | h <;> cases h⟩
theorem Zo.oct {w : World} {base g : Nat} {v : Value} {n d m f : Int} {T : TypeId} {a b c e h i j k : Value} (q : Zo w base v n d m f) (o : Yl w g T a b c e h i j k) (hT : 109 ≠ T) (x0 x1 x2 x3 x4 x5 x6 x7 : Value) : Zo ((((((((w.setCell ⟨g, 0, none⟩ x0).setCell ⟨g, 1, none⟩ x1).setCell ⟨g, 2, none⟩ x2).setCell ⟨g, 3, none⟩ x3).setCell ⟨g, 4, none⟩ x4).setCell ⟨g, 5, none⟩ x5).setCell ⟨g, 6, none⟩ x6).setCell ⟨g, 7, none⟩ x7) base v n d m f := by
 obtain ⟨A, c, B, e, A2, c2, B2, e2, h1, h2, h3, h4⟩ := q.form
 exact ⟨A, c, B, e, A2, c2, B2, e2, h1, h2.other o.blk hT (set8_far w g x0 x1 x2 x3 x4 x5 x6 x7), h3.other o.blk hT (set8_far w g x0 x1 x2 x3 x4 x5 x6 x7), h4⟩
theorem ZV.oct {w : World} {g : Nat} {v : Value} {n d m f : Int} {T : TypeId} {a b c e h i j k : Value} (q : ZV w v n d m f) (o : Yl w g T a b c e h i j k) (hT : 109 ≠ T) (x0 x1 x2 x3 x4 x5 x6 x7 : Value) : ZV ((((((((w.setCell ⟨g, 0, none⟩ x0).setCell ⟨g, 1, none⟩ x1).setCell ⟨g, 2, none⟩ x2).setCell ⟨g, 3, none⟩ x3).setCell ⟨g, 4, none⟩ x4).setCell ⟨g, 5, none⟩ x5).setCell ⟨g, 6, none⟩ x6).setCell ⟨g, 7, none⟩ x7) v n d m f := by
 obtain ⟨A, c, B, e, A2, c2, B2, e2, h1, h2, h3⟩ := q.form
 exact ⟨A, c, B, e, A2, c2, B2, e2, h1, h2.other o.blk hT (set8_far w g x0 x1 x2 x3 x4 x5 x6 x7), h3.other o.blk hT (set8_far w g x0 x1 x2 x3 x4 x5 x6 x7)⟩
def ZQ (base : Nat) (w : World) (n d m f : Int) (e : Ending) (w' : World) : Prop := ∃ v, e = .returned v /\ Zo w' base v n d m f /\ Below w.heap.size w w'
def ZZ (base : Nat) (w : World) (n d m f k : Int) (e : Ending) (w' : World) : Prop := ∃ v, e = .returned (.tuple #[v, .int .i64 k]) /\ Zo w' base v n d m f /\ Below w.heap.size w w'
def RetGaussIn (w : World) (n d m f : Int) (e : Ending) (w' : World) : Prop := ∃ v, e = .returned v /\ ZV w' v n d m f /\ Below w.heap.size w w'
def Y6 (w : World) (n d m f k : Int) (e : Ending) (w' : World) : Prop := ∃ v, e = .returned (.tuple #[v, .int .i64 k]) /\ ZV w' v n d m f /\ Below w.heap.size w w'
structure FracRaw (w : World) (v : Value) (n1 n2 : Bool) (xs ys : List Nat) : Prop where
 form : ∃ A c B e, v = .agg #[.bool n1, .slice A xs.length c, .bool n2, .slice B ys.length e] /\ Zm w A c xs /\ Zm w B e ys
structure ZR (w : World) (v : Value) (n1 n2 n3 n4 : Bool) (xs ys us vs : List Nat) : Prop where
 form : ∃ A c B e A2 c2 B2 e2, v = .agg #[.bool n1, .slice A xs.length c, .bool n2, .slice B ys.length e, .bool n3, .slice A2 us.length c2, .bool n4, .slice B2 vs.length e2] /\ Zm w A c xs /\ Zm w B e ys /\ Zm w A2 c2 us /\ Zm w B2 e2 vs
theorem Zq.raw {w : World} {v : Value} {n d m f : Int} (h : Zq w v n d m f) : ZR w v (decide (n < 0)) (decide (d < 0)) (decide (m < 0)) (decide (f < 0)) (Za n.natAbs) (Za d.natAbs) (Za m.natAbs) (Za f.natAbs) := ⟨h.form⟩
section
variable {w w' : World} {c e k l : Nat} {n d m f : Int} {A B C D : Option Addr}
theorem Zq.raws (h : Zq w (.agg #[.bool (decide (n < 0)), .slice A (Za n.natAbs).length c, .bool (decide (d < 0)), .slice B (Za d.natAbs).length e, .bool (decide (m < 0)), .slice C (Za m.natAbs).length k, .bool (decide (f < 0)), .slice D (Za f.natAbs).length l]) n d m f) : Zm w A c (Za n.natAbs) /\ Zm w B e (Za d.natAbs) /\ Zm w C k (Za m.natAbs) /\ Zm w D l (Za f.natAbs) := by
 obtain ⟨A1, k1, A2, k2, A3, k3, A4, k4, h1, h2, h3, h4, h5⟩ := h.form
 simp only [Value.agg.injEq, Array.mk.injEq, List.cons.injEq, Value.slice.injEq, and_true, true_and] at h1
 obtain ⟨⟨rfl, rfl⟩, ⟨rfl, rfl⟩, ⟨rfl, rfl⟩, rfl, rfl⟩ := h1
 exact ⟨h2, h3, h4, h5⟩
theorem Zq.re (h : Zq w (.agg #[.bool (decide (n < 0)), .slice A (Za n.natAbs).length c, .bool (decide (d < 0)), .slice B (Za d.natAbs).length e, .bool (decide (m < 0)), .slice C (Za m.natAbs).length k, .bool (decide (f < 0)), .slice D (Za f.natAbs).length l]) n d m f) : Yq w (.agg #[.bool (decide (n < 0)), .slice A (Za n.natAbs).length c, .bool (decide (d < 0)), .slice B (Za d.natAbs).length e]) n d := ⟨_, _, _, _, rfl, h.raws.1, h.raws.2.1⟩
theorem Zq.im (h : Zq w (.agg #[.bool (decide (n < 0)), .slice A (Za n.natAbs).length c, .bool (decide (d < 0)), .slice B (Za d.natAbs).length e, .bool (decide (m < 0)), .slice C (Za m.natAbs).length k, .bool (decide (f < 0)), .slice D (Za f.natAbs).length l]) n d m f) : Yq w (.agg #[.bool (decide (m < 0)), .slice C (Za m.natAbs).length k, .bool (decide (f < 0)), .slice D (Za f.natAbs).length l]) m f := ⟨_, _, _, _, rfl, h.raws.2.2.1, h.raws.2.2.2⟩
end
section
variable {w w' : World} {v : Value} {n1 n2 n3 n4 : Bool} {xs ys us vs : List Nat} {c e k l : Nat} {A B C D : Option Addr}
theorem ZR.below (h : ZR w v n1 n2 n3 n4 xs ys us vs) (hb : Below w.heap.size w w') : ZR w' v n1 n2 n3 n4 xs ys us vs := by
 obtain ⟨A1, k1, A2, k2, A3, k3, A4, k4, h1, h2, h3, h4, h5⟩ := h.form
 exact ⟨A1, k1, A2, k2, A3, k3, A4, k4, h1, h2.below hb, h3.below hb, h4.below hb, h5.below hb⟩
theorem ZR.raws (h : ZR w (.agg #[.bool n1, .slice A xs.length c, .bool n2, .slice B ys.length e, .bool n3, .slice C us.length k, .bool n4, .slice D vs.length l]) n1 n2 n3 n4 xs ys us vs) : Zm w A c xs /\ Zm w B e ys /\ Zm w C k us /\ Zm w D l vs := by
 obtain ⟨A1, k1, A2, k2, A3, k3, A4, k4, h1, h2, h3, h4, h5⟩ := h.form
 simp only [Value.agg.injEq, Array.mk.injEq, List.cons.injEq, Value.slice.injEq, and_true, true_and] at h1
 obtain ⟨⟨rfl, rfl⟩, ⟨rfl, rfl⟩, ⟨rfl, rfl⟩, rfl, rfl⟩ := h1
 exact ⟨h2, h3, h4, h5⟩
end
theorem gstore {W w : World} {B g base : Nat} {T : TypeId} {a b c d e f h i x0 x1 x2 x3 x4 x5 x6 x7 : Value} {N D M E : Int} (q : Zo w base (.agg #[x0, x1, x2, x3, x4, x5, x6, x7]) N D M E) (o : Yl w g T a b c d e f h i) (hb : Below B W w) (hg : B <= g) (hT : 109 ≠ T) :
 Yl ((((((((w.setCell ⟨g, 0, none⟩ x0).setCell ⟨g, 1, none⟩ x1).setCell ⟨g, 2, none⟩ x2).setCell ⟨g, 3, none⟩ x3).setCell ⟨g, 4, none⟩ x4).setCell ⟨g, 5, none⟩ x5).setCell ⟨g, 6, none⟩ x6).setCell ⟨g, 7, none⟩ x7) g T x0 x1 x2 x3 x4 x5 x6 x7 /\ Below B W ((((((((w.setCell ⟨g, 0, none⟩ x0).setCell ⟨g, 1, none⟩ x1).setCell ⟨g, 2, none⟩ x2).setCell ⟨g, 3, none⟩ x3).setCell ⟨g, 4, none⟩ x4).setCell ⟨g, 5, none⟩ x5).setCell ⟨g, 6, none⟩ x6).setCell ⟨g, 7, none⟩ x7) /\ Zo ((((((((w.setCell ⟨g, 0, none⟩ x0).setCell ⟨g, 1, none⟩ x1).setCell ⟨g, 2, none⟩ x2).setCell ⟨g, 3, none⟩ x3).setCell ⟨g, 4, none⟩ x4).setCell ⟨g, 5, none⟩ x5).setCell ⟨g, 6, none⟩ x6).setCell ⟨g, 7, none⟩ x7) base (.agg #[x0, x1, x2, x3, x4, x5, x6, x7]) N D M E := ⟨o.store x0 x1 x2 x3 x4 x5 x6 x7, below8 hb hg x0 x1 x2 x3 x4 x5 x6 x7, q.oct o hT x0 x1 x2 x3 x4 x5 x6 x7⟩
theorem istore {W w : World} {B g : Nat} {T : TypeId} {a b c d e f h i x0 x1 x2 x3 x4 x5 x6 x7 : Value} {N D M E : Int} (q : ZV w (.agg #[x0, x1, x2, x3, x4, x5, x6, x7]) N D M E) (o : Yl w g T a b c d e f h i) (hb : Below B W w) (hg : B <= g) (hT : 109 ≠ T) :
 Yl ((((((((w.setCell ⟨g, 0, none⟩ x0).setCell ⟨g, 1, none⟩ x1).setCell ⟨g, 2, none⟩ x2).setCell ⟨g, 3, none⟩ x3).setCell ⟨g, 4, none⟩ x4).setCell ⟨g, 5, none⟩ x5).setCell ⟨g, 6, none⟩ x6).setCell ⟨g, 7, none⟩ x7) g T x0 x1 x2 x3 x4 x5 x6 x7 /\ Below B W ((((((((w.setCell ⟨g, 0, none⟩ x0).setCell ⟨g, 1, none⟩ x1).setCell ⟨g, 2, none⟩ x2).setCell ⟨g, 3, none⟩ x3).setCell ⟨g, 4, none⟩ x4).setCell ⟨g, 5, none⟩ x5).setCell ⟨g, 6, none⟩ x6).setCell ⟨g, 7, none⟩ x7) /\ ZV ((((((((w.setCell ⟨g, 0, none⟩ x0).setCell ⟨g, 1, none⟩ x1).setCell ⟨g, 2, none⟩ x2).setCell ⟨g, 3, none⟩ x3).setCell ⟨g, 4, none⟩ x4).setCell ⟨g, 5, none⟩ x5).setCell ⟨g, 6, none⟩ x6).setCell ⟨g, 7, none⟩ x7) (.agg #[x0, x1, x2, x3, x4, x5, x6, x7]) N D M E := ⟨o.store x0 x1 x2 x3 x4 x5 x6 x7, below8 hb hg x0 x1 x2 x3 x4 x5 x6 x7, q.oct o hT x0 x1 x2 x3 x4 x5 x6 x7⟩
theorem gzero {W w : World} {B g : Nat} {T : TypeId} {a b c d e f h i : Value} (o : Yl w g T a b c d e f h i) (hb : Below B W w) (hg : B <= g) :
 Yl ((((((((w.setCell ⟨g, 0, none⟩ (.bool false)).setCell ⟨g, 1, none⟩ (.slice none 0 0)).setCell ⟨g, 2, none⟩ (.bool false)).setCell ⟨g, 3, none⟩ (.slice none 0 0)).setCell ⟨g, 4, none⟩ (.bool false)).setCell ⟨g, 5, none⟩ (.slice none 0 0)).setCell ⟨g, 6, none⟩ (.bool false)).setCell ⟨g, 7, none⟩ (.slice none 0 0)) g T (.bool false) (.slice none 0 0) (.bool false) (.slice none 0 0) (.bool false) (.slice none 0 0) (.bool false) (.slice none 0 0) /\ Below B W ((((((((w.setCell ⟨g, 0, none⟩ (.bool false)).setCell ⟨g, 1, none⟩ (.slice none 0 0)).setCell ⟨g, 2, none⟩ (.bool false)).setCell ⟨g, 3, none⟩ (.slice none 0 0)).setCell ⟨g, 4, none⟩ (.bool false)).setCell ⟨g, 5, none⟩ (.slice none 0 0)).setCell ⟨g, 6, none⟩ (.bool false)).setCell ⟨g, 7, none⟩ (.slice none 0 0)) := ⟨o.store (.bool false) (.slice none 0 0) (.bool false) (.slice none 0 0) (.bool false) (.slice none 0 0) (.bool false) (.slice none 0 0), below8 hb hg (.bool false) (.slice none 0 0) (.bool false) (.slice none 0 0) (.bool false) (.slice none 0 0) (.bool false) (.slice none 0 0)⟩
structure GV (w : World) (g : Nat) (T : TypeId) (n d m f : Int) (A : Option Addr) (c : Nat) (B : Option Addr) (e : Nat) (C : Option Addr) (k : Nat) (D : Option Addr) (l : Nat) : Prop where
 oct : Yl w g T (.bool (decide (n < 0))) (.slice A (Za n.natAbs).length c) (.bool (decide (d < 0))) (.slice B (Za d.natAbs).length e) (.bool (decide (m < 0))) (.slice C (Za m.natAbs).length k) (.bool (decide (f < 0))) (.slice D (Za f.natAbs).length l)
 at_ : Zq w (.agg #[.bool (decide (n < 0)), .slice A (Za n.natAbs).length c, .bool (decide (d < 0)), .slice B (Za d.natAbs).length e, .bool (decide (m < 0)), .slice C (Za m.natAbs).length k, .bool (decide (f < 0)), .slice D (Za f.natAbs).length l]) n d m f
section
variable {w w' : World} {g c e k l : Nat} {T : TypeId} {n d m f : Int} {A B C D : Option Addr}
theorem GV.below (h : GV w g T n d m f A c B e C k D l) (hb : Below w.heap.size w w') : GV w' g T n d m f A c B e C k D l := ⟨h.oct.below hb, h.at_.below hb⟩
end
structure TupG (V : World) (base : Nat) (u : Value) (n d m f k : Int) : Prop where
 form : ∃ v, u = .tuple #[v, .int .i64 k] /\ Zo V base v n d m f
theorem TupG.kept {B : Nat} {Ts : List TypeId} {w w' : World} {base : Nat} {u : Value} {n d m f k : Int} (h : TupG w base u n d m f k) (hk : Zu B Ts w w') (hT : 109 ∉ Ts) : TupG w' base u n d m f k := by
 obtain ⟨v, h1, h2⟩ := h.form
 exact ⟨v, h1, h2.kept hk hT⟩
structure TupGI (V : World) (u : Value) (n d m f k : Int) : Prop where
 form : ∃ v, u = .tuple #[v, .int .i64 k] /\ ZV V v n d m f
structure TupR (V : World) (base : Nat) (u : Value) (n d k : Int) : Prop where
 form : ∃ v, u = .tuple #[v, .int .i64 k] /\ Zl V base v n d
structure TupRI (V : World) (u : Value) (n d k : Int) : Prop where
 form : ∃ v, u = .tuple #[v, .int .i64 k] /\ ZE V 0 v n d
abbrev OpR (F : FuncId) (n d m f N D : Int) : Prop := ∀ (V : World) (v1 v2 : Value), Yq V v1 n d -> Yq V v2 m f -> Calls Tryz.prog F #[v1, v2] V (Z3 V.heap.size V N D)
abbrev OpI (F : FuncId) (n d m f N D : Int) : Prop := ∀ (V : World) (v1 v2 : Value), Yq V v1 n d -> Yq V v2 m f -> Calls Tryz.prog F #[v1, v2] V (Ya V N D)
abbrev OpR1 (F : FuncId) (n d N D : Int) : Prop := ∀ (V : World) (v1 : Value), Yq V v1 n d -> Calls Tryz.prog F #[v1] V (Z3 V.heap.size V N D)
abbrev OpI1 (F : FuncId) (n d N D : Int) : Prop := ∀ (V : World) (v1 : Value), Yq V v1 n d -> Calls Tryz.prog F #[v1] V (Ya V N D)
abbrev OpR0 (F : FuncId) (N D : Int) : Prop := ∀ (V : World), Calls Tryz.prog F #[] V (Z3 V.heap.size V N D)
abbrev OpI0 (F : FuncId) (N D : Int) : Prop := ∀ (V : World), Calls Tryz.prog F #[] V (Ya V N D)
abbrev XE (F : FuncId) (n d s : Int) : Prop := ∀ (V : World) (v1 : Value), Yq V v1 n d -> Calls Tryz.prog F #[v1] V fun e w' => e = .returned (.int .i64 s) /\ Below V.heap.size V w'
abbrev OpGF (F : FuncId) (n d m f p q N D M E : Int) : Prop := ∀ (V : World) (v1 v2 : Value), Zq V v1 n d m f -> Yq V v2 p q -> Calls Tryz.prog F #[v1, v2] V (ZQ V.heap.size V N D M E)
abbrev OpG1 (F : FuncId) (n d m f N D M E : Int) : Prop := ∀ (V : World) (v1 : Value), Zq V v1 n d m f -> Calls Tryz.prog F #[v1] V (ZQ V.heap.size V N D M E)
abbrev OpGI1 (F : FuncId) (n d m f N D M E : Int) : Prop := ∀ (V : World) (v1 : Value), Zq V v1 n d m f -> Calls Tryz.prog F #[v1] V (RetGaussIn V N D M E)
abbrev OpN (F : FuncId) (n d m f N D : Int) : Prop := ∀ (V : World) (v1 : Value), Zq V v1 n d m f -> Calls Tryz.prog F #[v1] V (Z3 V.heap.size V N D)
abbrev OpNI (F : FuncId) (n d m f N D : Int) : Prop := ∀ (V : World) (v1 : Value), Zq V v1 n d m f -> Calls Tryz.prog F #[v1] V (Ya V N D)
abbrev OpG (F : FuncId) (n d m f p q r s N D M E : Int) : Prop := ∀ (V : World) (v1 v2 : Value), Zq V v1 n d m f -> Zq V v2 p q r s -> Calls Tryz.prog F #[v1, v2] V (ZQ V.heap.size V N D M E)
abbrev OpGI (F : FuncId) (n d m f p q r s N D M E : Int) : Prop := ∀ (V : World) (v1 v2 : Value), Zq V v1 n d m f -> Zq V v2 p q r s -> Calls Tryz.prog F #[v1, v2] V (RetGaussIn V N D M E)

theorem lz_i64 {n : Int} (h1 : -9223372036854775808 <= n) (h2 : n <= 9223372036854775807) : lz n <= 2 := by
 rw [lz_le]
 omega
theorem nought_ref (one : Int) (w : World)  (h1 : one = 1) :
  Calls Tryz.prog 115 #[] w (Z3 w.heap.size w 0 one) := by
 have C := fun (V : World) => rof 1 one h1 (by decide) (by decide) V
 clear h1
 have H1 := Hd C
 clear C
 have b0 := ((Below.refl w.heap.size w).alloc (Nat.le_refl _) (.cells #[.bool false, .slice none 0 0, .bool false, .slice none 0 0] 26))
 have p0 := Zz.new w (.bool false) (.slice none 0 0) (.bool false) (.slice none 0 0)
 have P_r0 := Hd p0
 have HBW := Hd b0
 clear b0 p0 
 go_enter Tryz.func115, Tryz.ntmps115
 obtain ⟨W, E⟩ : ∃ W, W = (w.alloc (.cells #[.bool false, .slice none 0 0, .bool false, .slice none 0 0] 26)) := ⟨_, rfl⟩
 go_upto_region 1 with fail
 rw [<- E] at P_r0 HBW ⊢
 clear E
 go_wp2_with fail
 refine (H1.out W).mono ?_
 rintro e x1 ⟨v, rfl, hI, hb⟩
 have hIb := hI.base HBW.out.size
 obtain ⟨A1, c1, rfl, -⟩ := hI.raw
 have P_r0 := Hd (P_r0.out.below hb)
 have HBW := Hd (Zb HBW.out hb)
 clear hb
 have HI := Hd hIb
 clear hI hIb
 obtain ⟨l_r0, a_r0, b_r0, f_r0, g_r0⟩ := P_r0.out.facts
 have HQ := Hd (P_r0.out.store (.bool false) (.slice none 0 0) (.bool (decide (one < 0))) (.slice A1 (Za one.natAbs).length c1))
 have HB := Hd (YR HBW.out (show w.heap.size <= w.heap.size by omega) (.bool false) (.slice none 0 0) (.bool (decide (one < 0))) (.slice A1 (Za one.natAbs).length c1))
 have HF9 := Hd (show Zl _ w.heap.size _ 0 one from (Zl.mk ⟨none, 0, A1, c1, rfl, Zc.nought _ _, HI.out, fun g hg => by cases hg⟩ : Zl x1 w.heap.size _ 0 one).quad P_r0.out (.bool false) (.slice none 0 0) (.bool (decide (one < 0))) (.slice A1 (Za one.natAbs).length c1))
 go_wp2_with fail
 obtain ⟨_, k0, k1, k2, k3, _, _, _, _⟩ := HQ.out.facts
 exact bodyPost_ret (by simp [results, Tryz.results115, go_sem, k0, k1, k2, k3]) rfl ⟨.agg #[.bool false, .slice none 0 0, .bool (decide (one < 0)), .slice A1 (Za one.natAbs).length c1], rfl, HF9.out, HB.out⟩


theorem gcdZ_dvd (n d : Int) : ZL n d ∣ n /\ ZL n d ∣ d :=
 ⟨Int.ofNat_dvd_left.2 (Nat.gcd_dvd_left _ _), Int.ofNat_dvd_left.2 (Nat.gcd_dvd_right _ _)⟩
theorem Kk (n : Int) {d : Int} (hd : 0 < d) : YX n d * ZL n d = n /\ YP n d * ZL n d = d := by
 unfold YX YP
 rw [if_neg (by omega), if_neg (by omega)]
 exact ⟨Int.tdiv_mul_cancel (gcdZ_dvd n d).1, Int.tdiv_mul_cancel (gcdZ_dvd n d).2⟩
theorem lowD_pos (n : Int) {d : Int} (hd : 0 < d) : 0 < YP n d := by
 have h := (Kk n hd).2
 have hg := Km (n := n) (d := d) (by omega)
 rcases Int.lt_trichotomy (YP n d) 0 with h1 | h1 | h1
 . have := Int.mul_neg_of_neg_of_pos h1 hg; omega
 . rw [h1] at h; simp at h; omega
 . exact h1
theorem low_one (n : Int) {d : Int} (hd : 0 < d) : ZL (YX n d) (YP n d) = 1 := by
 unfold YX YP
 rw [if_neg (by omega), if_neg (by omega)]
 have hp : 0 < Nat.gcd n.natAbs d.natAbs := Nat.gcd_pos_of_pos_right _ (by omega)
 have hc : Nat.gcd (n.natAbs / Nat.gcd n.natAbs d.natAbs) (d.natAbs / Nat.gcd n.natAbs d.natAbs) = 1 := Nat.coprime_div_gcd_div_gcd hp
 unfold ZL
 rw [Int.natAbs_tdiv, Int.natAbs_tdiv, Int.natAbs_natCast]
 exact congrArg (fun k : Nat => (k : Int)) hc
theorem low_cross (n : Int) {d : Int} (hd : 0 < d) : YX n d * d = n * YP n d := by
 have h := Kk n hd
 generalize YX n d = p at h ⊢
 generalize YP n d = q at h ⊢
 generalize ZL n d = g at h
 rw [<- h.1, <- h.2, Int.mul_assoc, Int.mul_comm g q, Int.mul_comm q g]
end Go.Proofs.YtdonecnhdkjniaaGreatDoor
