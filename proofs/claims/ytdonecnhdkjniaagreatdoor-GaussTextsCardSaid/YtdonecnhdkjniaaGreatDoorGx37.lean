/- Several texts in one: GParse, RParse, GParseLaw. -/
import Derived.Test.YtdonecnhdkjniaaGreatDoorGx36
set_option maxRecDepth 100000
set_option maxHeartbeats 8000000
namespace Go.Proofs.YtdonecnhdkjniaaGreatDoor
open Go.RowKit

theorem set4a_far (w : World) (g : Nat) (x0 x1 x2 x3 : Value) : ∀ k, k ≠ g -> ((((w.setCell ⟨g, 0, none⟩ x0).setCell ⟨g, 1, none⟩ x1).setCell ⟨g, 2, none⟩ x2).setCell ⟨g, 3, none⟩ x3).heap[k]? = w.heap[k]? := by
 intro k hk
 rw [Below.heap_setCell _ ⟨g, 3, none⟩ x3 k hk, Below.heap_setCell _ ⟨g, 2, none⟩ x2 k hk, Below.heap_setCell _ ⟨g, 1, none⟩ x1 k hk, Below.heap_setCell _ ⟨g, 0, none⟩ x0 k hk]
theorem set4b_far (w : World) (g : Nat) (x0 x1 x2 x3 : Value) : ∀ k, k ≠ g -> ((((w.setCell ⟨g, 4, none⟩ x0).setCell ⟨g, 5, none⟩ x1).setCell ⟨g, 6, none⟩ x2).setCell ⟨g, 7, none⟩ x3).heap[k]? = w.heap[k]? := by
 intro k hk
 rw [Below.heap_setCell _ ⟨g, 7, none⟩ x3 k hk, Below.heap_setCell _ ⟨g, 6, none⟩ x2 k hk, Below.heap_setCell _ ⟨g, 5, none⟩ x1 k hk, Below.heap_setCell _ ⟨g, 4, none⟩ x0 k hk]
theorem below4b {W w : World} {B g : Nat} (h : Below B W w) (hg : B <= g) (x0 x1 x2 x3 : Value) : Below B W ((((w.setCell ⟨g, 4, none⟩ x0).setCell ⟨g, 5, none⟩ x1).setCell ⟨g, 6, none⟩ x2).setCell ⟨g, 7, none⟩ x3) :=
 (((h.setCell (p := ⟨g, 4, none⟩) hg x0).setCell (p := ⟨g, 5, none⟩) hg x1).setCell (p := ⟨g, 6, none⟩) hg x2).setCell (p := ⟨g, 7, none⟩) hg x3
theorem Yl.re_ {w : World} {g : Nat} {T : TypeId} {a b c d e f h i : Value} (k : Yl w g T a b c d e f h i) (x0 x1 x2 x3 : Value) : Yl ((((w.setCell ⟨g, 0, none⟩ x0).setCell ⟨g, 1, none⟩ x1).setCell ⟨g, 2, none⟩ x2).setCell ⟨g, 3, none⟩ x3) g T x0 x1 x2 x3 e f h i := by
 have key := ((((k.blk.set_ 0 x0).set_ 1 x1).set_ 2 x2).set_ 3 x3)
 have e9 : ((((#[a, b, c, d, e, f, h, i].setIfInBounds 0 x0).setIfInBounds 1 x1).setIfInBounds 2 x2).setIfInBounds 3 x3) = #[x0, x1, x2, x3, e, f, h, i] := by simp
 rw [e9] at key
 exact ⟨key⟩
theorem Yl.im_ {w : World} {g : Nat} {T : TypeId} {a b c d e f h i : Value} (k : Yl w g T a b c d e f h i) (x0 x1 x2 x3 : Value) : Yl ((((w.setCell ⟨g, 4, none⟩ x0).setCell ⟨g, 5, none⟩ x1).setCell ⟨g, 6, none⟩ x2).setCell ⟨g, 7, none⟩ x3) g T a b c d x0 x1 x2 x3 := by
 have key := ((((k.blk.set_ 4 x0).set_ 5 x1).set_ 6 x2).set_ 7 x3)
 have e9 : ((((#[a, b, c, d, e, f, h, i].setIfInBounds 4 x0).setIfInBounds 5 x1).setIfInBounds 6 x2).setIfInBounds 7 x3) = #[a, b, c, d, x0, x1, x2, x3] := by simp
 rw [e9] at key
 exact ⟨key⟩
theorem Yl.far {w w' : World} {g g' : Nat} {T : TypeId} {a b c d e f h i : Value} (k : Yl w g T a b c d e f h i) (hw : ∀ k, k ≠ g' -> w'.heap[k]? = w.heap[k]?) (hn : g ≠ g') : Yl w' g T a b c d e f h i := by
 have h9 := k.blk
 refine ⟨?_⟩
 unfold ZJ at h9 ⊢
 rw [hw g hn]
 exact h9
structure ZS (w y : World) (g : Nat) (a b c d e f h i : Value) : Prop where
 oct : Yl y g 28 a b c d e f h i
 res : Yl y w.heap.size 28 (.bool false) (.slice none 0 0) (.bool false) (.slice none 0 0) (.bool false) (.slice none 0 0) (.bool false) (.slice none 0 0)
 far : w.heap.size < g
 low : Below w.heap.size w y
section
variable {w y y' : World} {g : Nat} {a b c d e f h i x0 x1 x2 x3 : Value} {P : World -> Prop}
theorem ZS.below (z : ZS w y g a b c d e f h i) (hb : Below y.heap.size y y') : ZS w y' g a b c d e f h i := ⟨z.oct.below hb, z.res.below hb, z.far, Zb z.low hb⟩
theorem ZS.reP (z : ZS w y g a b c d e f h i) (k : ∀ y', ZS w y' g x0 x1 x2 x3 e f h i -> (∀ k, k ≠ g -> y'.heap[k]? = y.heap[k]?) -> P y') : P ((((y.setCell ⟨g, 0, none⟩ x0).setCell ⟨g, 1, none⟩ x1).setCell ⟨g, 2, none⟩ x2).setCell ⟨g, 3, none⟩ x3) :=
 k _ ⟨z.oct.re_ _ _ _ _, z.res.far (set4a_far y g x0 x1 x2 x3) (by have := z.far; omega), z.far, YR z.low (by have := z.far; omega) _ _ _ _⟩ (set4a_far y g x0 x1 x2 x3)
theorem ZS.imP (z : ZS w y g a b c d e f h i) (k : ∀ y', ZS w y' g a b c d x0 x1 x2 x3 -> (∀ k, k ≠ g -> y'.heap[k]? = y.heap[k]?) -> P y') : P ((((y.setCell ⟨g, 4, none⟩ x0).setCell ⟨g, 5, none⟩ x1).setCell ⟨g, 6, none⟩ x2).setCell ⟨g, 7, none⟩ x3) :=
 k _ ⟨z.oct.im_ _ _ _ _, z.res.far (set4b_far y g x0 x1 x2 x3) (by have := z.far; omega), z.far, below4b z.low (by have := z.far; omega) _ _ _ _⟩ (set4b_far y g x0 x1 x2 x3)
end
def OwnIf (r : Option (Int × Int)) (w : World) (base : Nat) (v : Value) (n d : Int) : Prop := ∀ p, r = some p -> p = (n, d) /\ Zl w base v n d
theorem OwnIf.below {r : Option (Int × Int)} {w w' : World} {base : Nat} {v : Value} {n d : Int} (h : OwnIf r w base v n d) (hb : Below w.heap.size w w') : OwnIf r w' base v n d := fun p hp => ⟨(h p hp).1, (h p hp).2.below hb⟩
theorem OwnIf.other {r : Option (Int × Int)} {w w' : World} {base g : Nat} {v : Value} {n d : Int} {T : TypeId} {cs : Array Value} (h : OwnIf r w base v n d) (hb : ZJ w g T cs) (hT : 109 ≠ T) (hw : ∀ k, k ≠ g -> w'.heap[k]? = w.heap[k]?) : OwnIf r w' base v n d := fun p hp => ⟨(h p hp).1, (h p hp).2.other hb hT hw⟩
def ParseIs (o : Option (Int × Int × Int × Int)) (N D M E K : Int) : Prop := match o with
 | none => N = 0 /\ D = 0 /\ M = 0 /\ E = 0 /\ K = 5
 | some p => Ji p.1 p.2.1 p.2.2.1 p.2.2.2 N D M E K
def nzO (r : Option (Int × Int)) : Bool := match r with
 | none => false
 | some p => p.1.sign != 0
def twoO (r q : Option (Int × Int)) (pl : Bool) : Option (Int × Int × Int × Int) := if nzO r then r.bind fun p => q.bind fun q => if (pl == decide (0 < q.1.sign)) then some (p.1, p.2, q.1, q.2) else none else none
section
variable {w : World} {base b : Nat} {A B A2 B2 : Option Addr} {c e c2 e2 : Nat} {n d m f : Int}
theorem Zo.mk_up (h1 : Zl w base (.agg #[.bool (decide (n < 0)), .slice A (Za n.natAbs).length c, .bool (decide (d < 0)), .slice B (Za d.natAbs).length e]) n d) (h2 : Zl w b (.agg #[.bool (decide (m < 0)), .slice A2 (Za m.natAbs).length c2, .bool (decide (f < 0)), .slice B2 (Za f.natAbs).length e2]) m f) (hb : base <= b) (ht : ∀ g, Yj (.agg #[.bool (decide (n < 0)), .slice A (Za n.natAbs).length c, .bool (decide (d < 0)), .slice B (Za d.natAbs).length e]) g -> g < b) : Zo w base (.agg #[.bool (decide (n < 0)), .slice A (Za n.natAbs).length c, .bool (decide (d < 0)), .slice B (Za d.natAbs).length e, .bool (decide (m < 0)), .slice A2 (Za m.natAbs).length c2, .bool (decide (f < 0)), .slice B2 (Za f.natAbs).length e2]) n d m f :=
 ⟨A, c, B, e, A2, c2, B2, e2, rfl, h1, h2.base hb, fun g hg h => by have := ht g hg; have := (h2.mine g h).1; omega⟩
theorem Zo.mk_down (h1 : Zl w b (.agg #[.bool (decide (n < 0)), .slice A (Za n.natAbs).length c, .bool (decide (d < 0)), .slice B (Za d.natAbs).length e]) n d) (h2 : Zl w base (.agg #[.bool (decide (m < 0)), .slice A2 (Za m.natAbs).length c2, .bool (decide (f < 0)), .slice B2 (Za f.natAbs).length e2]) m f) (hb : base <= b) (ht : ∀ g, Yj (.agg #[.bool (decide (m < 0)), .slice A2 (Za m.natAbs).length c2, .bool (decide (f < 0)), .slice B2 (Za f.natAbs).length e2]) g -> g < b) : Zo w base (.agg #[.bool (decide (n < 0)), .slice A (Za n.natAbs).length c, .bool (decide (d < 0)), .slice B (Za d.natAbs).length e, .bool (decide (m < 0)), .slice A2 (Za m.natAbs).length c2, .bool (decide (f < 0)), .slice B2 (Za f.natAbs).length e2]) n d m f :=
 ⟨A, c, B, e, A2, c2, B2, e2, rfl, h1.base hb, h2, fun g hg h => by have := ht g h; have := (h1.mine g hg).1; omega⟩
theorem Zo.parts (h : Zo w base (.agg #[.bool (decide (n < 0)), .slice A (Za n.natAbs).length c, .bool (decide (d < 0)), .slice B (Za d.natAbs).length e, .bool (decide (m < 0)), .slice A2 (Za m.natAbs).length c2, .bool (decide (f < 0)), .slice B2 (Za f.natAbs).length e2]) n d m f) : Zl w base (.agg #[.bool (decide (n < 0)), .slice A (Za n.natAbs).length c, .bool (decide (d < 0)), .slice B (Za d.natAbs).length e]) n d /\ Zl w base (.agg #[.bool (decide (m < 0)), .slice A2 (Za m.natAbs).length c2, .bool (decide (f < 0)), .slice B2 (Za f.natAbs).length e2]) m f := by
 obtain ⟨A', c', B', e', A2', c2', B2', e2', h0, h1, h2, -⟩ := h.form
 simp at h0
 obtain ⟨⟨rfl, rfl⟩, ⟨rfl, rfl⟩, ⟨rfl, rfl⟩, rfl, rfl⟩ := h0
 exact ⟨h1, h2⟩
end

theorem gparse_long  (s : ByteArray) (hl : 65536 < s.size) (w : World)   :
  Calls Tryz.prog 9 #[.string s] w (ZZ w.heap.size w 0 0 0 0 4) := by
 have hz : (65536 : Int) < (s.size : Int) := by omega
 clear hl
 go_enter Tryz.func9, Tryz.ntmps9
 go_upto_region 1 with fail
 refine Zp (P := fun W => Code.wp _ _ _ _ W) fun W p0 b0 => ?_
 have PR := Hd (Yl.mk p0)
 have HB := Hd b0
 clear b0 p0
 obtain ⟨l_r, r0, r1, r2, r3, r4, r5, r6, r7⟩ := PR.out.facts
 obtain ⟨f0, f1, f2, f3, f4, f5, f6, f7⟩ := PR.out.free
 have H9 := Hd (gzero PR.out HB.out (Nat.le_refl _))
 go_wp2_with fail
 obtain ⟨_, k0, k1, k2, k3, k4, k5, k6, k7⟩ := H9.out.1.facts
 exact bodyPost_ret (by simp [results, Tryz.results9, go_sem, k0, k1, k2, k3, k4, k5, k6, k7]) rfl ⟨_, rfl, Zo.nought _ _, H9.out.2⟩

theorem gparse_B {N D M E K : Int} (s : ByteArray) (hl : s.size <= 65536) (C0 : ∀ V : World, Calls Tryz.prog 24 #[.int .i64 0, .int .i64 0] V (ZQ V.heap.size V 0 1 0 1)) (fr : ByteArray) (r : Option (Int × Int)) (C1 : ∀ V : World, Calls Tryz.prog 25 #[.string s, .string ⟨#[105]⟩] V fun e w' => e = .returned (.tuple #[.string fr, .bool false]) /\ Below V.heap.size V w') (C2 : ∀ V : World, Calls Tryz.prog 27 #[.string s] V (ZX V r)) (C9 : ParseIs (r.map fun p => (p.1, p.2, 0, 1)) N D M E K) (w : World)   :
  Calls Tryz.prog 9 #[.string s] w (ZZ w.heap.size w N D M E K) := by
 have hz : (s.size : Int) <= 65536 := by omega
 clear hl
 obtain ⟨z0, hz0⟩ : ∃ z : Int, z = 0 := ⟨_, rfl⟩
 obtain ⟨o, ho⟩ : ∃ z : Int, z = 1 := ⟨_, rfl⟩
 have C0 : ∀ V : World, Calls Tryz.prog 24 #[.int .i64 0, .int .i64 0] V (ZQ V.heap.size V z0 o z0 o) := by rw [hz0, ho]; exact C0
 have HZO := Hd (And.intro hz0 ho)
 clear hz0 ho
 have H0 := Hd C0
 have H1 := Hd C1
 have H2 := Hd C2
 have H9 := Hd C9
 clear C0 C1 C2 C9
 go_enter Tryz.func9, Tryz.ntmps9
 go_upto_region 1 with fail
 refine Zp (P := fun W => Code.wp _ _ _ _ W) fun W p0 b0 => ?_
 have PR := Hd (Yl.mk p0)
 have HB := Hd b0
 clear b0 p0
 go_wp2_with fail
 refine (H0.out W).mono ?_
 rintro e wx1 ⟨v, rfl, hI, hb⟩
 obtain ⟨Az1, cz1, Az2, cz2, Az3, cz3, Az4, cz4, rfl, -⟩ := hI.form
 have HS_z := HB.out.size
 have hlt := (PR.out.below hb).blk.lt
 go_upto_region 4 with fail
 refine Zp (P := fun W => Code.wp _ _ _ _ W) fun y1 hq ha => ?_
 have hbx := hb.trans (ha.mono hb.size)
 have ho := (hI.below ha).parts
 have Z := Hd (ZS.mk (Yl.mk hq) (PR.out.below hbx) hlt (Zb HB.out hbx))
 obtain ⟨b_z, hbq⟩ : ∃ q, q = wx1.heap.size := ⟨_, rfl⟩
 rw [<- hbq] at Z ⊢
 have O_re := Hd (ho.1.base HS_z)
 have O_im := Hd (ho.2.base HS_z)
 clear hI hb ha hbx hq hbq ho hlt HS_z PR HB
 go_wp2_with fail
 refine (H1.out y1).mono ?_
 rintro e wx2 ⟨rfl, hb⟩
 have Z := Hd (Z.out.below hb)
 have O_re := Hd (O_re.out.below hb)
 have O_im := Hd (O_im.out.below hb)
 clear hb
 go_wp2_with fail
 have HS0 := Hd Z.out.low.size
 have T_im := Hd (fun g h => (O_im.out.mine g h).2)
 refine (H2.out wx2).mono ?_
 rintro e wx3 ⟨n, d, v, rfl, hI, hb, hp⟩
 obtain ⟨Aa1, ca1, Aa2, ca2, rfl, -⟩ := hI.form
 have Z := Hd (Z.out.below hb)
 have O_im := Hd (O_im.out.below hb)
 obtain ⟨l_z, z_0, z_1, z_2, z_3, z_4, z_5, z_6, z_7⟩ := Z.out.oct.facts
 obtain ⟨f0, f1, f2, f3, f4, f5, f6, f7⟩ := Z.out.oct.free
 go_upto_region 19 with fail
 refine Z.out.reP (P := fun W => Code.wp _ _ _ _ W) fun wh3 hz hf => ?_
 have O_im := Hd (O_im.out.other Z.out.oct.blk (by decide) hf)
 have J_re := Hd (OwnIf.other hp Z.out.oct.blk (by decide) hf)
 have Z := Hd hz
 clear l_z z_0 z_1 z_2 z_3 z_4 z_5 z_6 z_7 f0 f1 f2 f3 f4 f5 f6 f7 hI hb hp hz hf
 cases r
 case none =>
  obtain ⟨rfl, rfl, rfl, rfl, rfl⟩ := H9.out
  obtain ⟨l_r, r0, r1, r2, r3, r4, r5, r6, r7⟩ := Z.out.res.facts
  obtain ⟨f0, f1, f2, f3, f4, f5, f6, f7⟩ := Z.out.res.free
  have H9 := Hd (gzero Z.out.res Z.out.low (Nat.le_refl _))
  go_wp2_with fail
  obtain ⟨_, k0, k1, k2, k3, k4, k5, k6, k7⟩ := H9.out.1.facts
  exact bodyPost_ret (by simp [results, Tryz.results9, go_sem, k0, k1, k2, k3, k4, k5, k6, k7]) rfl ⟨_, rfl, Zo.nought _ _, H9.out.2⟩
 case some p =>
  obtain ⟨e9, O_n⟩ := J_re.out p rfl
  subst e9
  have H9 : Hid (Ji n d z0 o N D M E K) := Hd (by rw [HZO.out.1, HZO.out.2]; exact H9.out)
  obtain ⟨l_z, z_0, z_1, z_2, z_3, z_4, z_5, z_6, z_7⟩ := Z.out.oct.facts
  go_wp2_with fail
  refine (H9.out wh3 w.heap.size _ Z.out.low.size (Zo.mk_down O_n O_im.out HS0.out T_im.out)).mono ?_
  rintro e w9 ⟨v, rfl, hI, hb⟩
  obtain ⟨A6, c6, A7, c7, A8, c8, A9, c9, rfl, -⟩ := hI.form
  have z9 := Z.out.below hb
  obtain ⟨l_r, r0, r1, r2, r3, r4, r5, r6, r7⟩ := z9.res.facts
  obtain ⟨f0, f1, f2, f3, f4, f5, f6, f7⟩ := z9.res.free
  have HF := Hd (gstore hI z9.res z9.low (Nat.le_refl _) (by decide))
  clear hb z9 hI l_z z_0 z_1 z_2 z_3 z_4 z_5 z_6 z_7
  go_wp2_with fail
  obtain ⟨_, k0, k1, k2, k3, k4, k5, k6, k7⟩ := HF.out.1.facts
  exact bodyPost_ret (by simp [results, Tryz.results9, go_sem, k0, k1, k2, k3, k4, k5, k6, k7]) rfl ⟨_, rfl, HF.out.2.2, HF.out.2.1⟩

theorem gparse_C {N D M E K : Int} (s : ByteArray) (hl : s.size <= 65536) (C0 : ∀ V : World, Calls Tryz.prog 24 #[.int .i64 0, .int .i64 0] V (ZQ V.heap.size V 0 1 0 1)) (fr : ByteArray) (r : Option (Int × Int)) (at_ : Int) (ha : at_ <= 0) (C1 : ∀ V : World, Calls Tryz.prog 25 #[.string s, .string ⟨#[105]⟩] V fun e w' => e = .returned (.tuple #[.string fr, .bool true]) /\ Below V.heap.size V w') (C2 : ∀ V : World, Lib.Utf8Tabs 2 3 V -> Calls Tryz.prog 26 #[.string fr, .string ⟨#[43, 45]⟩] V fun e w' => e = .returned (.int .i64 at_) /\ Below V.heap.size V w') (C3 : ∀ V : World, Calls Tryz.prog 28 #[.string fr] V (ZX V r)) (C9 : ParseIs (r.map fun p => (0, 1, p.1, p.2)) N D M E K) (w : World)  (hu : Lib.Utf8Tabs 2 3 w) :
  Calls Tryz.prog 9 #[.string s] w (ZZ w.heap.size w N D M E K) := by
 have hz : (s.size : Int) <= 65536 := by omega
 clear hl
 obtain ⟨z0, hz0⟩ : ∃ z : Int, z = 0 := ⟨_, rfl⟩
 obtain ⟨o, ho⟩ : ∃ z : Int, z = 1 := ⟨_, rfl⟩
 have C0 : ∀ V : World, Calls Tryz.prog 24 #[.int .i64 0, .int .i64 0] V (ZQ V.heap.size V z0 o z0 o) := by rw [hz0, ho]; exact C0
 have HZO := Hd (And.intro hz0 ho)
 clear hz0 ho
 have HU := Hd hu
 clear hu
 have H0 := Hd C0
 have H1 := Hd C1
 have H2 := Hd C2
 have H3 := Hd C3
 have H9 := Hd C9
 clear C0 C1 C2 C3 C9
 go_enter Tryz.func9, Tryz.ntmps9
 go_upto_region 1 with fail
 refine Zp (P := fun W => Code.wp _ _ _ _ W) fun W p0 b0 => ?_
 have PR := Hd (Yl.mk p0)
 have HB := Hd b0
 clear b0 p0
 go_wp2_with fail
 refine (H0.out W).mono ?_
 rintro e wx1 ⟨v, rfl, hI, hb⟩
 obtain ⟨Az1, cz1, Az2, cz2, Az3, cz3, Az4, cz4, rfl, -⟩ := hI.form
 have HS_z := HB.out.size
 have hlt := (PR.out.below hb).blk.lt
 go_upto_region 4 with fail
 refine Zp (P := fun W => Code.wp _ _ _ _ W) fun y1 hq ha => ?_
 have hbx := hb.trans (ha.mono hb.size)
 have ho := (hI.below ha).parts
 have Z := Hd (ZS.mk (Yl.mk hq) (PR.out.below hbx) hlt (Zb HB.out hbx))
 obtain ⟨b_z, hbq⟩ : ∃ q, q = wx1.heap.size := ⟨_, rfl⟩
 rw [<- hbq] at Z ⊢
 have O_re := Hd (ho.1.base HS_z)
 have O_im := Hd (ho.2.base HS_z)
 clear hI hb ha hbx hq hbq ho hlt HS_z PR HB
 go_wp2_with fail
 refine (H1.out y1).mono ?_
 rintro e wx2 ⟨rfl, hb⟩
 have Z := Hd (Z.out.below hb)
 have O_re := Hd (O_re.out.below hb)
 have O_im := Hd (O_im.out.below hb)
 clear hb
 go_wp2_with fail
 refine (H2.out wx2 (Utf8Tabs_below HU.out Z.out.low)).mono ?_
 rintro e wx3 ⟨rfl, hb⟩
 have Z := Hd (Z.out.below hb)
 have O_re := Hd (O_re.out.below hb)
 have O_im := Hd (O_im.out.below hb)
 clear hb
 go_wp2_with fail
 have HS0 := Hd Z.out.low.size
 have T_re := Hd (fun g h => (O_re.out.mine g h).2)
 refine (H3.out wx3).mono ?_
 rintro e wx4 ⟨m, f, v, rfl, hI, hb, hp⟩
 obtain ⟨Ab1, cb1, Ab2, cb2, rfl, -⟩ := hI.form
 have Z := Hd (Z.out.below hb)
 have O_re := Hd (O_re.out.below hb)
 obtain ⟨l_z, z_0, z_1, z_2, z_3, z_4, z_5, z_6, z_7⟩ := Z.out.oct.facts
 obtain ⟨f0, f1, f2, f3, f4, f5, f6, f7⟩ := Z.out.oct.free
 go_upto_region 19 with fail
 refine Z.out.imP (P := fun W => Code.wp _ _ _ _ W) fun wh4 hz hf => ?_
 have O_re := Hd (O_re.out.other Z.out.oct.blk (by decide) hf)
 have J_im := Hd (OwnIf.other hp Z.out.oct.blk (by decide) hf)
 have Z := Hd hz
 clear l_z z_0 z_1 z_2 z_3 z_4 z_5 z_6 z_7 f0 f1 f2 f3 f4 f5 f6 f7 hI hb hp hz hf
 cases r
 case none =>
  obtain ⟨rfl, rfl, rfl, rfl, rfl⟩ := H9.out
  obtain ⟨l_r, r0, r1, r2, r3, r4, r5, r6, r7⟩ := Z.out.res.facts
  obtain ⟨f0, f1, f2, f3, f4, f5, f6, f7⟩ := Z.out.res.free
  have H9 := Hd (gzero Z.out.res Z.out.low (Nat.le_refl _))
  go_wp2_with fail
  obtain ⟨_, k0, k1, k2, k3, k4, k5, k6, k7⟩ := H9.out.1.facts
  exact bodyPost_ret (by simp [results, Tryz.results9, go_sem, k0, k1, k2, k3, k4, k5, k6, k7]) rfl ⟨_, rfl, Zo.nought _ _, H9.out.2⟩
 case some p =>
  obtain ⟨e9, O_n⟩ := J_im.out p rfl
  subst e9
  have H9 : Hid (Ji z0 o m f N D M E K) := Hd (by rw [HZO.out.1, HZO.out.2]; exact H9.out)
  obtain ⟨l_z, z_0, z_1, z_2, z_3, z_4, z_5, z_6, z_7⟩ := Z.out.oct.facts
  go_wp2_with fail
  refine (H9.out wh4 w.heap.size _ Z.out.low.size (Zo.mk_up O_re.out O_n HS0.out T_re.out)).mono ?_
  rintro e w9 ⟨v, rfl, hI, hb⟩
  obtain ⟨A6, c6, A7, c7, A8, c8, A9, c9, rfl, -⟩ := hI.form
  have z9 := Z.out.below hb
  obtain ⟨l_r, r0, r1, r2, r3, r4, r5, r6, r7⟩ := z9.res.facts
  obtain ⟨f0, f1, f2, f3, f4, f5, f6, f7⟩ := z9.res.free
  have HF := Hd (gstore hI z9.res z9.low (Nat.le_refl _) (by decide))
  clear hb z9 hI l_z z_0 z_1 z_2 z_3 z_4 z_5 z_6 z_7
  go_wp2_with fail
  obtain ⟨_, k0, k1, k2, k3, k4, k5, k6, k7⟩ := HF.out.1.facts
  exact bodyPost_ret (by simp [results, Tryz.results9, go_sem, k0, k1, k2, k3, k4, k5, k6, k7]) rfl ⟨_, rfl, HF.out.2.2, HF.out.2.1⟩

theorem gparse_D {N D M E K : Int} (s : ByteArray) (hl : s.size <= 65536) (C0 : ∀ V : World, Calls Tryz.prog 24 #[.int .i64 0, .int .i64 0] V (ZQ V.heap.size V 0 1 0 1)) (fr rest : ByteArray) (k : Nat) (pl : Bool) (r q : Option (Int × Int)) (h0 : 0 < k) (hk : k <= fr.size) (hf : fr.size <= 65536) (C1 : ∀ V : World, Calls Tryz.prog 25 #[.string s, .string ⟨#[105]⟩] V fun e w' => e = .returned (.tuple #[.string fr, .bool true]) /\ Below V.heap.size V w') (C2 : ∀ V : World, Lib.Utf8Tabs 2 3 V -> Calls Tryz.prog 26 #[.string fr, .string ⟨#[43, 45]⟩] V fun e w' => e = .returned (.int .i64 (k : Int)) /\ Below V.heap.size V w') (C3 : ∀ V : World, Calls Tryz.prog 27 #[.string (fr.extract 0 k)] V (ZX V r)) (C5 : ∀ V : World, Calls Tryz.prog 29 #[.string (fr.extract k fr.size), .string ⟨#[43]⟩] V fun e w' => e = .returned (.tuple #[.string rest, .bool pl]) /\ Below V.heap.size V w') (C6 : ∀ V : World, Calls Tryz.prog 28 #[.string rest] V (ZX V q)) (C9 : ParseIs (twoO r q pl) N D M E K) (w : World)  (hu : Lib.Utf8Tabs 2 3 w) :
  Calls Tryz.prog 9 #[.string s] w (ZZ w.heap.size w N D M E K) := by
 have hz : (s.size : Int) <= 65536 := by omega
 clear hl
 obtain ⟨z0, hz0⟩ : ∃ z : Int, z = 0 := ⟨_, rfl⟩
 obtain ⟨o, ho⟩ : ∃ z : Int, z = 1 := ⟨_, rfl⟩
 have C0 : ∀ V : World, Calls Tryz.prog 24 #[.int .i64 0, .int .i64 0] V (ZQ V.heap.size V z0 o z0 o) := by rw [hz0, ho]; exact C0
 have HZO := Hd (And.intro hz0 ho)
 clear hz0 ho
 have HU := Hd hu
 have a1 : (0 : Int) < (k : Int) := by omega
 have a2 : ¬ (k : Int) <= 0 := by omega
 have a3 : (0 : Int) <= (k : Int) := by omega
 have a4 : (k : Int) <= (fr.size : Int) := by omega
 have a5 : (fr.size : Int) <= 65536 := by omega
 clear hu h0 hk hf
 have H0 := Hd C0
 have H1 := Hd C1
 have H2 := Hd C2
 have H3 := Hd C3
 have H5 := Hd C5
 have H6 := Hd C6
 have H9 := Hd C9
 clear C0 C1 C2 C3 C5 C6 C9
 go_enter Tryz.func9, Tryz.ntmps9
 go_upto_region 1 with fail
 refine Zp (P := fun W => Code.wp _ _ _ _ W) fun W p0 b0 => ?_
 have PR := Hd (Yl.mk p0)
 have HB := Hd b0
 clear b0 p0
 go_wp2_with fail
 refine (H0.out W).mono ?_
 rintro e wx1 ⟨v, rfl, hI, hb⟩
 obtain ⟨Az1, cz1, Az2, cz2, Az3, cz3, Az4, cz4, rfl, -⟩ := hI.form
 have HS_z := HB.out.size
 have hlt := (PR.out.below hb).blk.lt
 go_upto_region 4 with fail
 refine Zp (P := fun W => Code.wp _ _ _ _ W) fun y1 hq ha => ?_
 have hbx := hb.trans (ha.mono hb.size)
 have ho := (hI.below ha).parts
 have Z := Hd (ZS.mk (Yl.mk hq) (PR.out.below hbx) hlt (Zb HB.out hbx))
 obtain ⟨b_z, hbq⟩ : ∃ q, q = wx1.heap.size := ⟨_, rfl⟩
 rw [<- hbq] at Z ⊢
 have O_re := Hd (ho.1.base HS_z)
 have O_im := Hd (ho.2.base HS_z)
 clear hI hb ha hbx hq hbq ho hlt HS_z PR HB
 go_wp2_with fail
 refine (H1.out y1).mono ?_
 rintro e wx2 ⟨rfl, hb⟩
 have Z := Hd (Z.out.below hb)
 have O_re := Hd (O_re.out.below hb)
 have O_im := Hd (O_im.out.below hb)
 clear hb
 go_wp2_with fail
 refine (H2.out wx2 (Utf8Tabs_below HU.out Z.out.low)).mono ?_
 rintro e wx3 ⟨rfl, hb⟩
 have Z := Hd (Z.out.below hb)
 have O_re := Hd (O_re.out.below hb)
 have O_im := Hd (O_im.out.below hb)
 clear hb
 clear O_im O_re
 go_wp2_with fail
 have HS0 := Hd Z.out.low.size
 refine (H3.out wx3).mono ?_
 rintro e wx4 ⟨n, d, v, rfl, hI, hb, hp⟩
 obtain ⟨Aa1, ca1, Aa2, ca2, rfl, -⟩ := hI.form
 have Z := Hd (Z.out.below hb)
 obtain ⟨l_z, z_0, z_1, z_2, z_3, z_4, z_5, z_6, z_7⟩ := Z.out.oct.facts
 obtain ⟨f0, f1, f2, f3, f4, f5, f6, f7⟩ := Z.out.oct.free
 go_upto_region 11 with fail
 refine Z.out.reP (P := fun W => Code.wp _ _ _ _ W) fun wh4 hz hf => ?_
 have J_re := Hd (OwnIf.other hp Z.out.oct.blk (by decide) hf)
 have Z := Hd hz
 clear l_z z_0 z_1 z_2 z_3 z_4 z_5 z_6 z_7 f0 f1 f2 f3 f4 f5 f6 f7 hI hb hp hz hf
 obtain ⟨bn, hbn⟩ : ∃ b : Bool, b = nzO r := ⟨_, rfl⟩
 go_cut [5] (fun s5 wc => s5 = .bool bn /\ Hid (ZS w wc b_z (.bool (decide (n < 0))) (.slice Aa1 (Za n.natAbs).length ca1) (.bool (decide (d < 0))) (.slice Aa2 (Za d.natAbs).length ca2) (.bool (decide (z0 < 0))) (.slice Az3 (Za z0.natAbs).length cz3) (.bool (decide (o < 0))) (.slice Az4 (Za o.natAbs).length cz4)) /\ Hid (OwnIf r wc w.heap.size (.agg #[.bool (decide (n < 0)), .slice Aa1 (Za n.natAbs).length ca1, .bool (decide (d < 0)), .slice Aa2 (Za d.natAbs).length ca2]) n d))
 case first =>
  have J_re : Hid (OwnIf r wh4 w.heap.size (.agg #[.bool (decide (n < 0)), .slice Aa1 (Za n.natAbs).length ca1, .bool (decide (d < 0)), .slice Aa2 (Za d.natAbs).length ca2]) n d) := Hd (fun p hp => ⟨(J_re.out p hp).1, (J_re.out p hp).2.base HS0.out⟩)
  rcases r with _ | p
  . go_wp2_with fail
    go_meet
    case rel => exact ⟨by rw [hbn]; rfl, Z, J_re⟩
  . have _ := hbn
    obtain ⟨e9, O_n⟩ := J_re.out p rfl
    subst e9
    have HBN := Hd hbn
    clear hbn
    obtain ⟨l_z, z_0, z_1, z_2, z_3, z_4, z_5, z_6, z_7⟩ := Z.out.oct.facts
    go_wp2_with fail
    refine (XL n d wh4 _ O_n.at_).mono ?_
    rintro e wx ⟨rfl, hb⟩
    clear l_z z_0 z_1 z_2 z_3 z_4 z_5 z_6 z_7
    have Z := Hd (Z.out.below hb)
    have J_re := Hd (J_re.out.below hb)
    clear hb O_n
    go_wp2_with fail
    go_meet
    case rel => exact ⟨by rw [HBN.out]; rfl, Z, J_re⟩
 case rest =>
  obtain ⟨h5, Z, J_re⟩ := hcut
  subst h5
  obtain ⟨W9, hW⟩ : ∃ Y, Y = wc := ⟨_, rfl⟩
  subst hW
  have HBN := Hd hbn
  clear hbn
  go_wp2_with fail
  refine (H5.out W9).mono ?_
  rintro e wx5 ⟨rfl, hb⟩
  have Z := Hd (Z.out.below hb)
  have J_re := Hd (J_re.out.below hb)
  clear hb
  go_wp2_with fail
  have HS1 := Hd Z.out.low.size
  have T_re := Hd (show ∀ p, r = some p -> ∀ g, Yj (.agg #[.bool (decide (n < 0)), .slice Aa1 (Za n.natAbs).length ca1, .bool (decide (d < 0)), .slice Aa2 (Za d.natAbs).length ca2]) g -> g < wx5.heap.size from fun p hp g h => ((J_re.out p hp).2.mine g h).2)
  refine (H6.out wx5).mono ?_
  rintro e wx6 ⟨m, f, v, rfl, hI, hb, hp⟩
  obtain ⟨Ab1, cb1, Ab2, cb2, rfl, -⟩ := hI.form
  have Z := Hd (Z.out.below hb)
  have J_re := Hd (J_re.out.below hb)
  obtain ⟨l_z, z_0, z_1, z_2, z_3, z_4, z_5, z_6, z_7⟩ := Z.out.oct.facts
  obtain ⟨f0, f1, f2, f3, f4, f5, f6, f7⟩ := Z.out.oct.free
  go_upto_region 14 with fail
  refine Z.out.imP (P := fun W => Code.wp _ _ _ _ W) fun wh6 hz hf => ?_
  have J_re := Hd (J_re.out.other Z.out.oct.blk (by decide) hf)
  have J_im := Hd (OwnIf.other hp Z.out.oct.blk (by decide) hf)
  have Z := Hd hz
  clear l_z z_0 z_1 z_2 z_3 z_4 z_5 z_6 z_7 f0 f1 f2 f3 f4 f5 f6 f7 hI hb hp hz hf
  cases bn
  case false =>
    have e9 : twoO r q pl = none := by unfold twoO; rw [<- HBN.out]; rfl
    rw [e9] at H9
    obtain ⟨rfl, rfl, rfl, rfl, rfl⟩ := H9.out
    obtain ⟨l_r, r0, r1, r2, r3, r4, r5, r6, r7⟩ := Z.out.res.facts
    obtain ⟨f0, f1, f2, f3, f4, f5, f6, f7⟩ := Z.out.res.free
    have H9 := Hd (gzero Z.out.res Z.out.low (Nat.le_refl _))
    go_wp2_with fail
    obtain ⟨_, k0, k1, k2, k3, k4, k5, k6, k7⟩ := H9.out.1.facts
    exact bodyPost_ret (by simp [results, Tryz.results9, go_sem, k0, k1, k2, k3, k4, k5, k6, k7]) rfl ⟨_, rfl, Zo.nought _ _, H9.out.2⟩
  case true =>
    obtain ⟨p, hp⟩ : ∃ p, r = some p := by
     rcases r with _ | p
     . cases HBN.out
     . exact ⟨p, rfl⟩
    obtain ⟨e9, O_n⟩ := J_re.out p hp
    have T_n := Hd (T_re.out p hp)
    have O_n := Hd O_n
    have e8 : twoO r q pl = q.bind fun q => if (pl == decide (0 < q.1.sign)) then some (n, d, q.1, q.2) else none := by unfold twoO; rw [<- HBN.out, hp, e9]; rfl
    rw [e8] at H9
    clear e8 e9 hp J_re T_re HBN
    cases q
    case none =>
     obtain ⟨rfl, rfl, rfl, rfl, rfl⟩ := H9.out
     obtain ⟨l_r, r0, r1, r2, r3, r4, r5, r6, r7⟩ := Z.out.res.facts
     obtain ⟨f0, f1, f2, f3, f4, f5, f6, f7⟩ := Z.out.res.free
     have H9 := Hd (gzero Z.out.res Z.out.low (Nat.le_refl _))
     go_wp2_with fail
     obtain ⟨_, k0, k1, k2, k3, k4, k5, k6, k7⟩ := H9.out.1.facts
     exact bodyPost_ret (by simp [results, Tryz.results9, go_sem, k0, k1, k2, k3, k4, k5, k6, k7]) rfl ⟨_, rfl, Zo.nought _ _, H9.out.2⟩
    case some t =>
     obtain ⟨e9, O_m⟩ := J_im.out t rfl
     subst e9
     have O_m := Hd O_m
     clear J_im
     obtain ⟨l_z, z_0, z_1, z_2, z_3, z_4, z_5, z_6, z_7⟩ := Z.out.oct.facts
     go_wp2_with fail
     refine (XL m f wh6 _ O_m.out.at_).mono ?_
     rintro e wx7 ⟨rfl, hb⟩
     clear l_z z_0 z_1 z_2 z_3 z_4 z_5 z_6 z_7
     have Z := Hd (Z.out.below hb)
     have O_n := Hd (O_n.out.below hb)
     have O_m := Hd (O_m.out.below hb)
     clear hb
     obtain ⟨s1, hs1⟩ : ∃ k : Int, k = m.sign := ⟨_, rfl⟩
     have e7 : (Option.bind (some (m, f)) fun q : Int × Int => if (pl == decide (0 < q.1.sign)) then some (n, d, q.1, q.2) else none) = if (pl == decide (0 < s1)) then some (n, d, m, f) else none := by rw [hs1]; rfl
     rw [e7] at H9
     rw [<- hs1]
     clear e7 hs1
     cases ht : (pl == decide (0 < s1))
     case false =>
       rw [ht] at H9
       obtain ⟨rfl, rfl, rfl, rfl, rfl⟩ := H9.out
       obtain ⟨l_r, r0, r1, r2, r3, r4, r5, r6, r7⟩ := Z.out.res.facts
       obtain ⟨f0, f1, f2, f3, f4, f5, f6, f7⟩ := Z.out.res.free
       have H9 := Hd (gzero Z.out.res Z.out.low (Nat.le_refl _))
       go_wp2_with fail
       obtain ⟨_, k0, k1, k2, k3, k4, k5, k6, k7⟩ := H9.out.1.facts
       exact bodyPost_ret (by simp [results, Tryz.results9, go_sem, k0, k1, k2, k3, k4, k5, k6, k7]) rfl ⟨_, rfl, Zo.nought _ _, H9.out.2⟩
     case true =>
       rw [ht] at H9
       have H9 : Hid (Ji n d m f N D M E K) := H9
       obtain ⟨l_z, z_0, z_1, z_2, z_3, z_4, z_5, z_6, z_7⟩ := Z.out.oct.facts
       go_wp2_with fail
       refine (H9.out wx7 w.heap.size _ Z.out.low.size (Zo.mk_up O_n.out O_m.out HS1.out T_n.out)).mono ?_
       rintro e w9 ⟨v, rfl, hI, hb⟩
       obtain ⟨A6, c6, A7, c7, A8, c8, A9, c9, rfl, -⟩ := hI.form
       have z9 := Z.out.below hb
       obtain ⟨l_r, r0, r1, r2, r3, r4, r5, r6, r7⟩ := z9.res.facts
       obtain ⟨f0, f1, f2, f3, f4, f5, f6, f7⟩ := z9.res.free
       have HF := Hd (gstore hI z9.res z9.low (Nat.le_refl _) (by decide))
       clear hb z9 hI l_z z_0 z_1 z_2 z_3 z_4 z_5 z_6 z_7
       go_wp2_with fail
       obtain ⟨_, k0, k1, k2, k3, k4, k5, k6, k7⟩ := HF.out.1.facts
       exact bodyPost_ret (by simp [results, Tryz.results9, go_sem, k0, k1, k2, k3, k4, k5, k6, k7]) rfl ⟨_, rfl, HF.out.2.2, HF.out.2.1⟩

def Kc (w : World) (o : Option (Int × Int × Int × Int)) (b : Bool) (e : Ending) (w' : World) : Prop := ∃ n d m f v, e = .returned (.tuple #[v, .bool b]) /\ ZV w' v n d m f /\ Below w.heap.size w w' /\ ∀ p, o = some p -> p = (n, d, m, f)
def RetGaussB (w : World) (n d m f : Int) (b : Bool) (e : Ending) (w' : World) : Prop := ∃ v, e = .returned (.tuple #[v, .bool b]) /\ ZV w' v n d m f /\ Below w.heap.size w w'
def RetNoneG (w : World) (e : Ending) (w' : World) : Prop := ∃ n d m f, RetGaussB w n d m f false e w'
theorem Kc.none_ {w : World} {e : Ending} {w' : World} (h : Kc w none false e w') : RetNoneG w e w' := by
 obtain ⟨n, d, m, f, v, h1, h2, h3, -⟩ := h
 exact ⟨n, d, m, f, v, h1, h2, h3⟩
theorem Kc.some_ {w : World} {n d m f : Int} {e : Ending} {w' : World} (h : Kc w (some (n, d, m, f)) true e w') : RetGaussB w n d m f true e w' := by
 obtain ⟨n', d', m', f', v, h1, h2, h3, h4⟩ := h
 obtain ⟨rfl, rfl, rfl, rfl⟩ : n = n' /\ d = d' /\ m = m' /\ f = f' := by simpa using h4 _ rfl
 exact ⟨v, h1, h2, h3⟩
def bothO (o1 o2 : Option (Int × Int)) : Option (Int × Int × Int × Int) := o1.bind fun p => o2.map fun q => (p.1, p.2, q.1, q.2)
theorem bothO_some (o1 o2 : Option (Int × Int)) : (bothO o1 o2).isSome = (o1.isSome && o2.isSome) := by
 cases o1 <;> cases o2 <;> rfl
theorem bothO_out {o1 o2 : Option (Int × Int)} {n d m f : Int} (h1 : ∀ p, o1 = some p -> p = (n, d)) (h2 : ∀ p, o2 = some p -> p = (m, f)) : ∀ p, bothO o1 o2 = some p -> p = (n, d, m, f) := by
 intro p h
 cases o1 with
 | none => cases h
 | some a =>
  cases o2 with
  | none => cases h
  | some b =>
   have e1 := h1 a rfl
   have e2 := h2 b rfl
   subst e1 e2
   exact (Option.some.inj h).symm
def splitL (l : List UInt8) : Nat := (Yv l).toNat

theorem ref03_split (s : ByteArray) (hs : s.size <= 65536) (w : World) :
  Calls Tryz.prog 116 #[.string s] w fun e w' => e = .returned (.int .i64 (splitL s.data.toList)) /\ Below w.heap.size w w' := by
 have hS : s.data.toList.length = s.size := by rw [Lib.size_eq]
 go_enter Tryz.func116, Tryz.ntmps116
 go_wp2_with fail
 go_loopg [3] s.size (fun g s3 wx => g <= s.size /\ s3 = .int .i64 ((g : Int) - 1) /\ (∀ j, g <= j -> j < s.size -> pm (s.data.toList.getD j 0) = false) /\ wx = w)
 case atStart => exact ⟨Nat.le_refl _, by first | rfl | (rw [show wrap64 ((s.size : Int) - 1) = (s.size : Int) - 1 from by unfold wrap64; omega]), fun j h2 h3 => by omega, rfl⟩
 case round =>
  obtain ⟨hg, rfl, hn, rfl⟩ := hrel
  by_cases h0 : gk <= 1
  . have e : splitL s.data.toList = 0 := by
     unfold splitL
     have h1 := pmAt_take (l := s.data.toList) (i := 1) fun j h2 h3 => hn j (by omega) (by omega)
     have h2 := pmAt_lt (s.data.toList.take 1)
     rw [List.length_take] at h2
     omega
    have a1 : ¬ (0 : Int) < (gk : Int) - 1 := by omega
    clear hn hg h0
    go_wp2_with fail
    go_ret
    exact ⟨by first | rfl | (rw [e]; rfl), Below.refl _ _⟩
  . obtain ⟨i, rfl⟩ : ∃ i, gk = i + 1 := ⟨gk - 1, by omega⟩
    have hi : i < s.size := by omega
    have e1 : (((i + 1 : Nat) : Int) - 1) = (i : Int) := by omega
    rw [e1]
    obtain ⟨x, hx⟩ : ∃ x, x = s[i]'hi := ⟨_, rfl⟩
    have hg2 : s.data.toList.getD i 0 = x := by
     rw [List.getD_eq_getElem?_getD, Lib.data_getElem? s i hi, <- hx]
     rfl
    have h7 : (0 : Int) < (i : Int) := by omega
    have h8 : (0 : Int) <= (i : Int) := by omega
    have hi2 : (i : Int) < (s.size : Int) := by omega
    have hx2 : (s[i]'hi).toNat = x.toNat := by rw [<- hx]
    cases hp : pm x with
    | true =>
     have ep := pmAt_found (l := s.data.toList) (i := i) (by omega) (by rw [hg2]; exact hp) (fun j h2 h3 => hn j h2 (by omega))
     have e2 : splitL s.data.toList = i := by unfold splitL; rw [ep]; omega
     have hq : x = 43 ∨ x = 45 := by
       unfold pm at hp
       rw [Bool.or_eq_true, beq_iff_eq, beq_iff_eq] at hp
       exact hp
     have HE := Hd e2
     clear hx hn hg hg2 ep e2 hp h0
     rcases hq with rfl | rfl
     . have hx3 : (s[i]'hi).toNat = 43 := hx2
       clear hx2
       go_wp2_with fail
       go_ret
       exact ⟨by rw [HE.out]; rfl, Below.refl _ _⟩
     . have hx3 : (s[i]'hi).toNat = 45 := hx2
       clear hx2
       go_wp2_with fail
       go_ret
       exact ⟨by rw [HE.out]; rfl, Below.refl _ _⟩
    | false =>
     have hn2 : ∀ j, i <= j -> j < s.size -> pm (s.data.toList.getD j 0) = false := fun j h2 h3 => by
       by_cases e : j = i
       . rw [e, hg2]; exact hp
       . exact hn j (by omega) h3
     have hq : ¬ x.toNat = 43 /\ ¬ x.toNat = 45 := by
       unfold pm at hp
       rw [Bool.or_eq_false_iff, beq_eq_false_iff_ne, beq_eq_false_iff_ne] at hp
       exact ⟨fun e => hp.1 (UInt8.toNat_inj.1 e), fun e => hp.2 (UInt8.toNat_inj.1 e)⟩
     have q1 : (((s[i]'hi).toNat : Int) == 43) = false := beq_eq_false_iff_ne.2 (by rw [hx2]; omega)
     have q2 : (((s[i]'hi).toNat : Int) == 45) = false := beq_eq_false_iff_ne.2 (by rw [hx2]; omega)
     have HN := Hd hn2
     clear hx hn hg2 hp hx2 hq hn2 h0
     go_wp2_with fail
     go_roundg i
     case measure => omega
     case rel => exact ⟨by omega, by first | rfl | (rw [show wrap64 ((i : Int) - 1) = (i : Int) - 1 from by unfold wrap64; omega]), HN.out, rfl⟩

theorem ref03_read_B0 {z0 z1 : Int} (s : ByteArray) (hs : s.size = 0) (o9 : Option (Int × Int)) (C1 : ∀ V : World, Calls Tryz.prog 114 #[.string s] V (Xt V o9)) (C2 : ∀ V : World, Calls Tryz.prog 115 #[] V (Ya V z0 z1)) (w : World)   :
   Calls Tryz.prog 33 #[.string s] w (Kc w (o9.map fun p => (p.1, p.2, z0, z1)) o9.isSome) := by
 have hz2 : ((s.size : Int) == 0) = true := by rw [hs]; rfl
 have H1 := Hd C1
 have H2 := Hd C2
 clear C1 C2
 go_enter Tryz.func33, Tryz.ntmps33
 go_upto_region 1 with fail
 refine Zp (P := fun W => Code.wp _ _ _ _ W) fun W p0 b0 => ?_
 have PR := Hd (Yl.mk p0)
 have HB := Hd b0
 clear b0 p0
 go_wp2_with fail
 refine (H1.out W).mono ?_
 rintro e wx1 ⟨n, d, ⟨v, rfl, hI, hb⟩, hp9⟩
 have HP := Hd (show ∀ p, (o9.map fun p => (p.1, p.2, z0, z1)) = some p -> p = (n, d, z0, z1) from fun p hp => by obtain ⟨a, ha, e9⟩ := Option.map_eq_some_iff.1 hp; rw [<- e9, hp9 a ha])
 obtain ⟨b9, hb9⟩ : ∃ b, b = o9.isSome := ⟨_, rfl⟩
 have HQ := Hd hb9
 rw [<- hb9]
 clear hp9 hb9
 have hi := hI
 obtain ⟨Ax1, cx1, Ax2, cx2, rfl, -⟩ := hI.form
 go_upto_region 3 with fail
 refine Zp (P := fun W => Code.wp _ _ _ _ W) fun wy1 hq ha => ?_
 obtain ⟨b_x, hbq⟩ : ∃ q, q = wx1.heap.size := ⟨_, rfl⟩
 rw [<- hbq] at hq ⊢
 have P_x := Hd (Zz.mk hq)
 have O_x := Hd (hi.below ha)
 have hb := hb.trans (ha.mono hb.size)
 have PR := Hd (PR.out.below hb)
 have HB := Hd (Zb HB.out hb)
 clear hI hi hb ha hq hbq
 have hsz := PR.out.blk.lt
 go_wp2_with fail
 refine Zd [.any false (fun u V => ZE V 0 u n d) [], .any false (fun u V => ZE V 0 u z0 z1) [], .any false (fun u V => ZV V u n d z0 z1) [0, 1], .val (.bool b9) [], .old (w.heap.size) 28 #[.bool false, .slice none 0 0, .bool false, .slice none 0 0, .bool false, .slice none 0 0, .bool false, .slice none 0 0] 0 8 2 [], .val (.bool b9) []] (w.heap.size) wy1 [28] (fun _ _ => False) _ Zf (by omega) (Below.refl _ _) (Zu.refl _ _ _) rfl ?_ ?_ ?_ ?_ ?_ ?_ ?_ ?_ rfl (by simp [ZP]) ?_ ?_ ?_ ?_
 iterate 8 kernel_rfl
 . simp only [Zy, and_true]
   exact ⟨fun u V V' h k => h.kept k (by decide), fun u V V' h k => h.kept k (by decide), fun u V V' h k => h.kept k (by decide)⟩
 . simp only [Z5, and_true]
   exact ⟨Nat.le_refl _, PR.out.blk.lt, PR.out.blk, by simp⟩
 . simp (maxSteps := 4000000) [ZH, YD, Zg, ZF, Zn]
   repeat' (first | apply And.intro | (intro (u : Value)) | (intro (u : Nat)))
   all_goals try exact ⟨_, _, _, rfl, rfl, rfl, rfl, JF⟩
   all_goals first
   | (intro V hV hK
      have qx := Zz.mk (hK.blk P_x.out.blk (by decide))
      obtain ⟨-, x0, x1, x2, x3, -, -, -, -⟩ := qx.facts
      have o_x := Hd (O_x.out.kept hK (by decide))
      have hvb := HB.out.trans (hV.mono (by omega))
      have hvs := hvb.size
      clear hV hK qx
      go_simp
      first
      | exact Below.refl _ _
      | exact ⟨o_x.out, Below.refl _ _⟩
      | ((with_reducible refine (H2.out V).mono ?_); rintro _ _ ⟨_, rfl, x⟩; exact x))
   | (intro V hV hK h1 h2
      obtain ⟨A1, c1, B1, e1, rfl, -, -⟩ := h1.form
      obtain ⟨A2, c2, B2, e2, rfl, -, -⟩ := h2.form
      clear hV hK
      go_simp
      exact ⟨⟨_, _, _, _, _, _, _, _, rfl, h1, h2⟩, Below.refl _ _⟩)
   | exact fun _ _ _ (h : ZV _ _ _ _ _ _) => h.cells
 . simp [YH, ZK, Zg, ZF, Zn]
   intro u1 u2 u3 V hV hK h1 h2 h3 bq _ _ _
   have HF := Hd h3
   obtain ⟨A6, c6, A7, c7, A8, c8, A9, c9, rfl, -⟩ := h3.form
   simp [Yd, Value.cells] at bq
   have k0 := bq.cell 0
   have k1 := bq.cell 1
   have k2 := bq.cell 2
   have k3 := bq.cell 3
   have k4 := bq.cell 4
   have k5 := bq.cell 5
   have k6 := bq.cell 6
   have k7 := bq.cell 7
   simp at k0 k1 k2 k3 k4 k5 k6 k7
   have HB9 := Hd (HB.out.trans (hV.mono (by omega)))
   clear h1 h2 h3 hV hK bq
   go_wp2_with fail
   exact bodyPost_ret (by simp [results, Tryz.results33, go_sem, k0, k1, k2, k3, k4, k5, k6, k7, HQ.out.symm]) rfl ⟨n, d, z0, z1, _, rfl, HF.out, HB9.out, HP.out⟩

theorem ref03_read_B1 {z0 z1 : Int} (s : ByteArray) (n0 : Nat) (hs : s.size = n0 + 1) (hi : (((s[n0]'(by omega)).toNat : Int) == 105) = false) (hl : n0 <= 65536) (o9 : Option (Int × Int)) (C1 : ∀ V : World, Calls Tryz.prog 114 #[.string s] V (Xt V o9)) (C2 : ∀ V : World, Calls Tryz.prog 115 #[] V (Ya V z0 z1)) (w : World)   :
   Calls Tryz.prog 33 #[.string s] w (Kc w (o9.map fun p => (p.1, p.2, z0, z1)) o9.isSome) := by
 have hz : (s.size : Int) = (n0 : Int) + 1 := by omega
 have hz2 : ((s.size : Int) == 0) = false := beq_eq_false_iff_ne.2 (by omega)
 have hp : (0 : Int) <= (n0 : Int) := by omega
 have hq : (n0 : Int) < (s.size : Int) := by omega
 have hi2 : (((s[n0]).toNat : Int) != 105) = true := by rw [bne, hi]; rfl
 have hz3 : ((n0 : Int) + 1 == 0) = false := beq_eq_false_iff_ne.2 (by omega)
 have H1 := Hd C1
 have H2 := Hd C2
 clear C1 C2
 go_enter Tryz.func33, Tryz.ntmps33
 go_upto_region 1 with fail
 refine Zp (P := fun W => Code.wp _ _ _ _ W) fun W p0 b0 => ?_
 have PR := Hd (Yl.mk p0)
 have HB := Hd b0
 clear b0 p0
 go_wp2_with fail
 refine (H1.out W).mono ?_
 rintro e wx1 ⟨n, d, ⟨v, rfl, hI, hb⟩, hp9⟩
 have HP := Hd (show ∀ p, (o9.map fun p => (p.1, p.2, z0, z1)) = some p -> p = (n, d, z0, z1) from fun p hp => by obtain ⟨a, ha, e9⟩ := Option.map_eq_some_iff.1 hp; rw [<- e9, hp9 a ha])
 obtain ⟨b9, hb9⟩ : ∃ b, b = o9.isSome := ⟨_, rfl⟩
 have HQ := Hd hb9
 rw [<- hb9]
 clear hp9 hb9
 have hi := hI
 obtain ⟨Ax1, cx1, Ax2, cx2, rfl, -⟩ := hI.form
 go_upto_region 3 with fail
 refine Zp (P := fun W => Code.wp _ _ _ _ W) fun wy1 hq ha => ?_
 obtain ⟨b_x, hbq⟩ : ∃ q, q = wx1.heap.size := ⟨_, rfl⟩
 rw [<- hbq] at hq ⊢
 have P_x := Hd (Zz.mk hq)
 have O_x := Hd (hi.below ha)
 have hb := hb.trans (ha.mono hb.size)
 have PR := Hd (PR.out.below hb)
 have HB := Hd (Zb HB.out hb)
 clear hI hi hb ha hq hbq
 have hsz := PR.out.blk.lt
 go_wp2_with fail
 refine Zd [.any false (fun u V => ZE V 0 u n d) [], .any false (fun u V => ZE V 0 u z0 z1) [], .any false (fun u V => ZV V u n d z0 z1) [0, 1], .val (.bool b9) [], .old (w.heap.size) 28 #[.bool false, .slice none 0 0, .bool false, .slice none 0 0, .bool false, .slice none 0 0, .bool false, .slice none 0 0] 0 8 2 [], .val (.bool b9) []] (w.heap.size) wy1 [28] (fun _ _ => False) _ Zf (by omega) (Below.refl _ _) (Zu.refl _ _ _) rfl ?_ ?_ ?_ ?_ ?_ ?_ ?_ ?_ rfl (by simp [ZP]) ?_ ?_ ?_ ?_
 iterate 8 kernel_rfl
 . simp only [Zy, and_true]
   exact ⟨fun u V V' h k => h.kept k (by decide), fun u V V' h k => h.kept k (by decide), fun u V V' h k => h.kept k (by decide)⟩
 . simp only [Z5, and_true]
   exact ⟨Nat.le_refl _, PR.out.blk.lt, PR.out.blk, by simp⟩
 . simp (maxSteps := 4000000) [ZH, YD, Zg, ZF, Zn]
   repeat' (first | apply And.intro | (intro (u : Value)) | (intro (u : Nat)))
   all_goals try exact ⟨_, _, _, rfl, rfl, rfl, rfl, JF⟩
   all_goals first
   | (intro V hV hK
      have qx := Zz.mk (hK.blk P_x.out.blk (by decide))
      obtain ⟨-, x0, x1, x2, x3, -, -, -, -⟩ := qx.facts
      have o_x := Hd (O_x.out.kept hK (by decide))
      have hvb := HB.out.trans (hV.mono (by omega))
      have hvs := hvb.size
      clear hV hK qx
      go_simp
      first
      | exact Below.refl _ _
      | exact ⟨o_x.out, Below.refl _ _⟩
      | ((with_reducible refine (H2.out V).mono ?_); rintro _ _ ⟨_, rfl, x⟩; exact x))
   | (intro V hV hK h1 h2
      obtain ⟨A1, c1, B1, e1, rfl, -, -⟩ := h1.form
      obtain ⟨A2, c2, B2, e2, rfl, -, -⟩ := h2.form
      clear hV hK
      go_simp
      exact ⟨⟨_, _, _, _, _, _, _, _, rfl, h1, h2⟩, Below.refl _ _⟩)
   | exact fun _ _ _ (h : ZV _ _ _ _ _ _) => h.cells
 . simp [YH, ZK, Zg, ZF, Zn]
   intro u1 u2 u3 V hV hK h1 h2 h3 bq _ _ _
   have HF := Hd h3
   obtain ⟨A6, c6, A7, c7, A8, c8, A9, c9, rfl, -⟩ := h3.form
   simp [Yd, Value.cells] at bq
   have k0 := bq.cell 0
   have k1 := bq.cell 1
   have k2 := bq.cell 2
   have k3 := bq.cell 3
   have k4 := bq.cell 4
   have k5 := bq.cell 5
   have k6 := bq.cell 6
   have k7 := bq.cell 7
   simp at k0 k1 k2 k3 k4 k5 k6 k7
   have HB9 := Hd (HB.out.trans (hV.mono (by omega)))
   clear h1 h2 h3 hV hK bq
   go_wp2_with fail
   exact bodyPost_ret (by simp [results, Tryz.results33, go_sem, k0, k1, k2, k3, k4, k5, k6, k7, HQ.out.symm]) rfl ⟨n, d, z0, z1, _, rfl, HF.out, HB9.out, HP.out⟩

theorem ref03_read_C {z0 z1 : Int} (s : ByteArray) (n0 : Nat) (hs : s.size = n0 + 1) (hi : (s[n0]'(by omega)).toNat = 105) (hl : n0 <= 65536) (o9 : Option (Int × Int)) (C1 : ∀ V : World, Calls Tryz.prog 116 #[.string s] V fun e w' => e = .returned (.int .i64 0) /\ Below V.heap.size V w') (C2 : ∀ V : World, Calls Tryz.prog 117 #[.string s] V (Xt V o9)) (C3 : ∀ V : World, Calls Tryz.prog 115 #[] V (Ya V z0 z1)) (w : World)   :
   Calls Tryz.prog 33 #[.string s] w (Kc w (o9.map fun p => (z0, z1, p.1, p.2)) o9.isSome) := by
 have hz : (s.size : Int) = (n0 : Int) + 1 := by omega
 have hz2 : ((s.size : Int) == 0) = false := beq_eq_false_iff_ne.2 (by omega)
 have hp : (0 : Int) <= (n0 : Int) := by omega
 have hq : (n0 : Int) < (s.size : Int) := by omega
 have H1 := Hd C1
 have H2 := Hd C2
 have H3 := Hd C3
 clear C1 C2 C3
 go_enter Tryz.func33, Tryz.ntmps33
 go_upto_region 1 with fail
 refine Zp (P := fun W => Code.wp _ _ _ _ W) fun W p0 b0 => ?_
 have PR := Hd (Yl.mk p0)
 have HB := Hd b0
 clear b0 p0
 go_wp2_with fail
 refine (H1.out W).mono ?_
 rintro e wx1 ⟨rfl, hb⟩
 have PR := Hd (PR.out.below hb)
 have HB := Hd (Zb HB.out hb)
 clear hb
 go_wp2_with fail
 refine (H2.out wx1).mono ?_
 rintro e wx2 ⟨n, d, ⟨v, rfl, hI, hb⟩, hp9⟩
 have HP := Hd (show ∀ p, (o9.map fun p => (z0, z1, p.1, p.2)) = some p -> p = (z0, z1, n, d) from fun p hp => by obtain ⟨a, ha, e9⟩ := Option.map_eq_some_iff.1 hp; rw [<- e9, hp9 a ha])
 obtain ⟨b9, hb9⟩ : ∃ b, b = o9.isSome := ⟨_, rfl⟩
 have HQ := Hd hb9
 rw [<- hb9]
 clear hp9 hb9
 have hi := hI
 obtain ⟨Ax1, cx1, Ax2, cx2, rfl, -⟩ := hI.form
 go_upto_region 7 with fail
 refine Zp (P := fun W => Code.wp _ _ _ _ W) fun wy2 hq ha => ?_
 obtain ⟨b_x, hbq⟩ : ∃ q, q = wx2.heap.size := ⟨_, rfl⟩
 rw [<- hbq] at hq ⊢
 have P_x := Hd (Zz.mk hq)
 have O_x := Hd (hi.below ha)
 have hb := hb.trans (ha.mono hb.size)
 have PR := Hd (PR.out.below hb)
 have HB := Hd (Zb HB.out hb)
 clear hI hi hb ha hq hbq
 have hsz := PR.out.blk.lt
 go_wp2_with fail
 refine Zd [.any false (fun u V => ZE V 0 u z0 z1) [], .any false (fun u V => ZE V 0 u n d) [], .any false (fun u V => ZV V u z0 z1 n d) [0, 1], .val (.bool b9) [], .old (w.heap.size) 28 #[.bool false, .slice none 0 0, .bool false, .slice none 0 0, .bool false, .slice none 0 0, .bool false, .slice none 0 0] 0 8 2 [], .val (.bool b9) []] (w.heap.size) wy2 [28] (fun _ _ => False) _ Zf (by omega) (Below.refl _ _) (Zu.refl _ _ _) rfl ?_ ?_ ?_ ?_ ?_ ?_ ?_ ?_ rfl (by simp [ZP]) ?_ ?_ ?_ ?_
 iterate 8 kernel_rfl
 . simp only [Zy, and_true]
   exact ⟨fun u V V' h k => h.kept k (by decide), fun u V V' h k => h.kept k (by decide), fun u V V' h k => h.kept k (by decide)⟩
 . simp only [Z5, and_true]
   exact ⟨Nat.le_refl _, PR.out.blk.lt, PR.out.blk, by simp⟩
 . simp (maxSteps := 4000000) [ZH, YD, Zg, ZF, Zn]
   repeat' (first | apply And.intro | (intro (u : Value)) | (intro (u : Nat)))
   all_goals try exact ⟨_, _, _, rfl, rfl, rfl, rfl, JF⟩
   all_goals first
   | (intro V hV hK
      have qx := Zz.mk (hK.blk P_x.out.blk (by decide))
      obtain ⟨-, x0, x1, x2, x3, -, -, -, -⟩ := qx.facts
      have o_x := Hd (O_x.out.kept hK (by decide))
      have hvb := HB.out.trans (hV.mono (by omega))
      have hvs := hvb.size
      clear hV hK qx
      go_simp
      first
      | exact Below.refl _ _
      | ((with_reducible refine (H3.out V).mono ?_); rintro _ _ ⟨_, rfl, x⟩; exact x)
      | exact ⟨o_x.out, Below.refl _ _⟩)
   | (intro V hV hK h1 h2
      obtain ⟨A1, c1, B1, e1, rfl, -, -⟩ := h1.form
      obtain ⟨A2, c2, B2, e2, rfl, -, -⟩ := h2.form
      clear hV hK
      go_simp
      exact ⟨⟨_, _, _, _, _, _, _, _, rfl, h1, h2⟩, Below.refl _ _⟩)
   | exact fun _ _ _ (h : ZV _ _ _ _ _ _) => h.cells
 . simp [YH, ZK, Zg, ZF, Zn]
   intro u1 u2 u3 V hV hK h1 h2 h3 bq _ _ _
   have HF := Hd h3
   obtain ⟨A6, c6, A7, c7, A8, c8, A9, c9, rfl, -⟩ := h3.form
   simp [Yd, Value.cells] at bq
   have k0 := bq.cell 0
   have k1 := bq.cell 1
   have k2 := bq.cell 2
   have k3 := bq.cell 3
   have k4 := bq.cell 4
   have k5 := bq.cell 5
   have k6 := bq.cell 6
   have k7 := bq.cell 7
   simp at k0 k1 k2 k3 k4 k5 k6 k7
   have HB9 := Hd (HB.out.trans (hV.mono (by omega)))
   clear h1 h2 h3 hV hK bq
   go_wp2_with fail
   exact bodyPost_ret (by simp [results, Tryz.results33, go_sem, k0, k1, k2, k3, k4, k5, k6, k7, HQ.out.symm]) rfl ⟨z0, z1, n, d, _, rfl, HF.out, HB9.out, HP.out⟩

theorem ref03_read_Dp  (s t rest : ByteArray) (n0 : Nat) (hs : s.size = n0 + 1) (hi : (s[n0]'(by omega)).toNat = 105) (hl : n0 <= 65536) (k : Nat) (h0 : 0 < k) (hk : k < s.size) (ht : s.extract k (n0 + 1) = t) (htl : 0 < t.size) (hx : ((t[0]'htl).toNat : Int) = 43) (hr : t.extract 1 t.size = rest) (o1 o2 : Option (Int × Int)) (C1 : ∀ V : World, Calls Tryz.prog 116 #[.string s] V fun e w' => e = .returned (.int .i64 (k : Int)) /\ Below V.heap.size V w') (C2 : ∀ V : World, Calls Tryz.prog 114 #[.string (s.extract 0 k)] V (Xt V o1)) (C3 : ∀ V : World, Calls Tryz.prog 117 #[.string rest] V (Xt V o2)) (w : World)   :
  Calls Tryz.prog 33 #[.string s] w (Kc w (bothO o1 o2) (o1.isSome && o2.isSome)) := by
 have hz : (s.size : Int) = (n0 : Int) + 1 := by omega
 have hz2 : ((s.size : Int) == 0) = false := beq_eq_false_iff_ne.2 (by omega)
 have hp : (0 : Int) <= (n0 : Int) := by omega
 have hq : (n0 : Int) < (s.size : Int) := by omega
 have a1 : ((k : Int) == 0) = false := beq_eq_false_iff_ne.2 (by omega)
 have a2 : (0 : Int) <= (k : Int) := by omega
 have a3 : (k : Int) <= (s.size : Int) := by omega
 have a5 : (0 : Int) < (t.size : Int) := by omega
 have a6 : (1 : Int) <= (t.size : Int) := by omega
 have H1 := Hd C1
 have H2 := Hd C2
 have H3 := Hd C3
 clear C1 C2 C3
 go_enter Tryz.func33, Tryz.ntmps33
 go_upto_region 1 with fail
 refine Zp (P := fun W => Code.wp _ _ _ _ W) fun W p0 b0 => ?_
 have PR := Hd (Yl.mk p0)
 have HB := Hd b0
 clear b0 p0
 go_wp2_with fail
 refine (H1.out W).mono ?_
 rintro e wx1 ⟨rfl, hb⟩
 have PR := Hd (PR.out.below hb)
 have HB := Hd (Zb HB.out hb)
 clear hb
 go_wp2_with fail
 refine (H2.out wx1).mono ?_
 rintro e wx2 ⟨n, d, ⟨v, rfl, hI, hb⟩, hp9⟩
 have HP1 := Hd hp9
 clear hp9
 obtain ⟨b1, hb1⟩ : ∃ b, b = o1.isSome := ⟨_, rfl⟩
 have HB1 := Hd hb1
 rw [<- hb1]
 clear hb1
 have hi := hI
 obtain ⟨Ax1, cx1, Ax2, cx2, rfl, -⟩ := hI.form
 go_upto_region 9 with fail
 refine Zp (P := fun W => Code.wp _ _ _ _ W) fun wy2 hq ha => ?_
 obtain ⟨b_x, hbq⟩ : ∃ q, q = wx2.heap.size := ⟨_, rfl⟩
 rw [<- hbq] at hq ⊢
 have P_x := Hd (Zz.mk hq)
 have O_x := Hd (hi.below ha)
 have hb := hb.trans (ha.mono hb.size)
 have PR := Hd (PR.out.below hb)
 have HB := Hd (Zb HB.out hb)
 clear hI hi hb ha hq hbq
 go_wp2_with fail
 refine (H3.out wy2).mono ?_
 rintro e wx3 ⟨m, f, ⟨v, rfl, hI, hb⟩, hp9⟩
 have HP2 := Hd hp9
 clear hp9
 obtain ⟨b2, hb2⟩ : ∃ b, b = o2.isSome := ⟨_, rfl⟩
 have HB2 := Hd hb2
 rw [<- hb2]
 clear hb2
 have hi := hI
 obtain ⟨Ay1, cy1, Ay2, cy2, rfl, -⟩ := hI.form
 go_upto_region 13 with fail
 refine Zp (P := fun W => Code.wp _ _ _ _ W) fun wy3 hq ha => ?_
 obtain ⟨b_y, hbq⟩ : ∃ q, q = wx3.heap.size := ⟨_, rfl⟩
 rw [<- hbq] at hq ⊢
 have P_y := Hd (Zz.mk hq)
 have O_y := Hd (hi.below ha)
 have hb := hb.trans (ha.mono hb.size)
 have P_x := Hd (P_x.out.below hb)
 have O_x := Hd (O_x.out.below hb)
 have PR := Hd (PR.out.below hb)
 have HB := Hd (Zb HB.out hb)
 clear hI hi hb ha hq hbq
 have G9 := Hd (show ZV wy3 (.agg #[.bool (decide (n < 0)), .slice Ax1 (Za n.natAbs).length cx1, .bool (decide (d < 0)), .slice Ax2 (Za d.natAbs).length cx2, .bool (decide (m < 0)), .slice Ay1 (Za m.natAbs).length cy1, .bool (decide (f < 0)), .slice Ay2 (Za f.natAbs).length cy2]) n d m f from ⟨_, _, _, _, _, _, _, _, rfl, O_x.out, O_y.out⟩)
 obtain ⟨-, x0, x1, x2, x3, -, -, -, -⟩ := P_x.out.facts
 obtain ⟨-, y0, y1, y2, y3, -, -, -, -⟩ := P_y.out.facts
 have HO := Hd (bothO_out HP1.out HP2.out)
 clear HP1 HP2
 obtain ⟨l_r, r0, r1, r2, r3, r4, r5, r6, r7⟩ := PR.out.facts
 obtain ⟨f0, f1, f2, f3, f4, f5, f6, f7⟩ := PR.out.free
 have HF := Hd (istore G9.out PR.out HB.out (show w.heap.size <= w.heap.size by omega) (by decide))
 cases b1
 case false =>
  go_wp2_with fail
  obtain ⟨_, k0, k1, k2, k3, k4, k5, k6, k7⟩ := HF.out.1.facts
  exact bodyPost_ret (by simp [results, Tryz.results33, go_sem, k0, k1, k2, k3, k4, k5, k6, k7, HB1.out.symm, HB2.out.symm]) rfl ⟨n, d, m, f, _, rfl, HF.out.2.2, HF.out.2.1, HO.out⟩

 case true =>
  go_wp2_with fail
  obtain ⟨_, k0, k1, k2, k3, k4, k5, k6, k7⟩ := HF.out.1.facts
  exact bodyPost_ret (by simp [results, Tryz.results33, go_sem, k0, k1, k2, k3, k4, k5, k6, k7, HB1.out.symm, HB2.out.symm]) rfl ⟨n, d, m, f, _, rfl, HF.out.2.2, HF.out.2.1, HO.out⟩

theorem ref03_read_Dm  (s t : ByteArray) (n0 : Nat) (hs : s.size = n0 + 1) (hi : (s[n0]'(by omega)).toNat = 105) (hl : n0 <= 65536) (k : Nat) (h0 : 0 < k) (hk : k < s.size) (ht : s.extract k (n0 + 1) = t) (htl : 0 < t.size) (hx : (((t[0]'htl).toNat : Int) == 43) = false) (o1 o2 : Option (Int × Int)) (C1 : ∀ V : World, Calls Tryz.prog 116 #[.string s] V fun e w' => e = .returned (.int .i64 (k : Int)) /\ Below V.heap.size V w') (C2 : ∀ V : World, Calls Tryz.prog 114 #[.string (s.extract 0 k)] V (Xt V o1)) (C3 : ∀ V : World, Calls Tryz.prog 117 #[.string t] V (Xt V o2)) (w : World)   :
  Calls Tryz.prog 33 #[.string s] w (Kc w (bothO o1 o2) (o1.isSome && o2.isSome)) := by
 have hz : (s.size : Int) = (n0 : Int) + 1 := by omega
 have hz2 : ((s.size : Int) == 0) = false := beq_eq_false_iff_ne.2 (by omega)
 have hp : (0 : Int) <= (n0 : Int) := by omega
 have hq : (n0 : Int) < (s.size : Int) := by omega
 have a1 : ((k : Int) == 0) = false := beq_eq_false_iff_ne.2 (by omega)
 have a2 : (0 : Int) <= (k : Int) := by omega
 have a3 : (k : Int) <= (s.size : Int) := by omega
 have a5 : (0 : Int) < (t.size : Int) := by omega
 have a6 : (1 : Int) <= (t.size : Int) := by omega
 have H1 := Hd C1
 have H2 := Hd C2
 have H3 := Hd C3
 clear C1 C2 C3
 go_enter Tryz.func33, Tryz.ntmps33
 go_upto_region 1 with fail
 refine Zp (P := fun W => Code.wp _ _ _ _ W) fun W p0 b0 => ?_
 have PR := Hd (Yl.mk p0)
 have HB := Hd b0
 clear b0 p0
 go_wp2_with fail
 refine (H1.out W).mono ?_
 rintro e wx1 ⟨rfl, hb⟩
 have PR := Hd (PR.out.below hb)
 have HB := Hd (Zb HB.out hb)
 clear hb
 go_wp2_with fail
 refine (H2.out wx1).mono ?_
 rintro e wx2 ⟨n, d, ⟨v, rfl, hI, hb⟩, hp9⟩
 have HP1 := Hd hp9
 clear hp9
 obtain ⟨b1, hb1⟩ : ∃ b, b = o1.isSome := ⟨_, rfl⟩
 have HB1 := Hd hb1
 rw [<- hb1]
 clear hb1
 have hi := hI
 obtain ⟨Ax1, cx1, Ax2, cx2, rfl, -⟩ := hI.form
 go_upto_region 9 with fail
 refine Zp (P := fun W => Code.wp _ _ _ _ W) fun wy2 hq ha => ?_
 obtain ⟨b_x, hbq⟩ : ∃ q, q = wx2.heap.size := ⟨_, rfl⟩
 rw [<- hbq] at hq ⊢
 have P_x := Hd (Zz.mk hq)
 have O_x := Hd (hi.below ha)
 have hb := hb.trans (ha.mono hb.size)
 have PR := Hd (PR.out.below hb)
 have HB := Hd (Zb HB.out hb)
 clear hI hi hb ha hq hbq
 go_wp2_with fail
 refine (H3.out wy2).mono ?_
 rintro e wx3 ⟨m, f, ⟨v, rfl, hI, hb⟩, hp9⟩
 have HP2 := Hd hp9
 clear hp9
 obtain ⟨b2, hb2⟩ : ∃ b, b = o2.isSome := ⟨_, rfl⟩
 have HB2 := Hd hb2
 rw [<- hb2]
 clear hb2
 have hi := hI
 obtain ⟨Ay1, cy1, Ay2, cy2, rfl, -⟩ := hI.form
 go_upto_region 13 with fail
 refine Zp (P := fun W => Code.wp _ _ _ _ W) fun wy3 hq ha => ?_
 obtain ⟨b_y, hbq⟩ : ∃ q, q = wx3.heap.size := ⟨_, rfl⟩
 rw [<- hbq] at hq ⊢
 have P_y := Hd (Zz.mk hq)
 have O_y := Hd (hi.below ha)
 have hb := hb.trans (ha.mono hb.size)
 have P_x := Hd (P_x.out.below hb)
 have O_x := Hd (O_x.out.below hb)
 have PR := Hd (PR.out.below hb)
 have HB := Hd (Zb HB.out hb)
 clear hI hi hb ha hq hbq
 have G9 := Hd (show ZV wy3 (.agg #[.bool (decide (n < 0)), .slice Ax1 (Za n.natAbs).length cx1, .bool (decide (d < 0)), .slice Ax2 (Za d.natAbs).length cx2, .bool (decide (m < 0)), .slice Ay1 (Za m.natAbs).length cy1, .bool (decide (f < 0)), .slice Ay2 (Za f.natAbs).length cy2]) n d m f from ⟨_, _, _, _, _, _, _, _, rfl, O_x.out, O_y.out⟩)
 obtain ⟨-, x0, x1, x2, x3, -, -, -, -⟩ := P_x.out.facts
 obtain ⟨-, y0, y1, y2, y3, -, -, -, -⟩ := P_y.out.facts
 have HO := Hd (bothO_out HP1.out HP2.out)
 clear HP1 HP2
 obtain ⟨l_r, r0, r1, r2, r3, r4, r5, r6, r7⟩ := PR.out.facts
 obtain ⟨f0, f1, f2, f3, f4, f5, f6, f7⟩ := PR.out.free
 have HF := Hd (istore G9.out PR.out HB.out (show w.heap.size <= w.heap.size by omega) (by decide))
 cases b1
 case false =>
  go_wp2_with fail
  obtain ⟨_, k0, k1, k2, k3, k4, k5, k6, k7⟩ := HF.out.1.facts
  exact bodyPost_ret (by simp [results, Tryz.results33, go_sem, k0, k1, k2, k3, k4, k5, k6, k7, HB1.out.symm, HB2.out.symm]) rfl ⟨n, d, m, f, _, rfl, HF.out.2.2, HF.out.2.1, HO.out⟩

 case true =>
  go_wp2_with fail
  obtain ⟨_, k0, k1, k2, k3, k4, k5, k6, k7⟩ := HF.out.1.facts
  exact bodyPost_ret (by simp [results, Tryz.results33, go_sem, k0, k1, k2, k3, k4, k5, k6, k7, HB1.out.symm, HB2.out.symm]) rfl ⟨n, d, m, f, _, rfl, HF.out.2.2, HF.out.2.1, HO.out⟩

theorem rparse_long  (s : ByteArray) (hl : 65536 < s.size) (w : World)   :
  Calls Tryz.prog 11 #[.string s] w (Y6 w 0 0 0 0 4) := by
 have hz : (65536 : Int) < (s.size : Int) := by omega
 clear hl
 go_enter Tryz.func11, Tryz.ntmps11
 go_upto_region 1 with fail
 refine Zp (P := fun W => Code.wp _ _ _ _ W) fun W p0 b0 => ?_
 have PR := Hd (Yl.mk p0)
 have HB := Hd b0
 clear b0 p0
 obtain ⟨l_r, r0, r1, r2, r3, r4, r5, r6, r7⟩ := PR.out.facts
 obtain ⟨f0, f1, f2, f3, f4, f5, f6, f7⟩ := PR.out.free
 have H9 := Hd (gzero PR.out HB.out (show w.heap.size <= w.heap.size by omega))
 go_wp2_with fail
 obtain ⟨_, k0, k1, k2, k3, k4, k5, k6, k7⟩ := H9.out.1.facts
 exact bodyPost_ret (by simp [results, Tryz.results11, go_sem, k0, k1, k2, k3, k4, k5, k6, k7]) rfl ⟨_, rfl, (Zo.nought _ 0).in_, H9.out.2⟩

theorem rparse_none  (s : ByteArray) (hl : s.size <= 65536) (C1 : ∀ V : World, Calls Tryz.prog 33 #[.string s] V (RetNoneG V)) (w : World)   :
  Calls Tryz.prog 11 #[.string s] w (Y6 w 0 0 0 0 5) := by
 have hz : (s.size : Int) <= 65536 := by omega
 clear hl
 have H1 := Hd C1
 clear C1
 go_enter Tryz.func11, Tryz.ntmps11
 go_upto_region 1 with fail
 refine Zp (P := fun W => Code.wp _ _ _ _ W) fun W p0 b0 => ?_
 have PR := Hd (Yl.mk p0)
 have HB := Hd b0
 clear b0 p0
 go_wp2_with fail
 refine (H1.out W).mono ?_
 rintro e wx1 ⟨n, d, m, f, v, rfl, hI, hb⟩
 have hi := hI
 obtain ⟨Az1, cz1, Az2, cz2, Az3, cz3, Az4, cz4, rfl, -⟩ := hI.form
 go_upto_region 4 with fail
 refine Zp (P := fun W => Code.wp _ _ _ _ W) fun wy1 hq ha => ?_
 obtain ⟨b_z, hbq⟩ : ∃ q, q = wx1.heap.size := ⟨_, rfl⟩
 rw [<- hbq] at hq ⊢
 have P_z := Hd (Yl.mk hq)
 have O_z := Hd (hi.below ha)
 have hb := hb.trans (ha.mono hb.size)
 have PR := Hd (PR.out.below hb)
 have HB := Hd (Zb HB.out hb)
 clear hI hi hb ha hq hbq
 obtain ⟨l_r, r0, r1, r2, r3, r4, r5, r6, r7⟩ := PR.out.facts
 obtain ⟨f0, f1, f2, f3, f4, f5, f6, f7⟩ := PR.out.free
 have H9 := Hd (gzero PR.out HB.out (show w.heap.size <= w.heap.size by omega))
 go_wp2_with fail
 obtain ⟨_, k0, k1, k2, k3, k4, k5, k6, k7⟩ := H9.out.1.facts
 exact bodyPost_ret (by simp [results, Tryz.results11, go_sem, k0, k1, k2, k3, k4, k5, k6, k7]) rfl ⟨_, rfl, (Zo.nought _ 0).in_, H9.out.2⟩

theorem rparse_other {n d m f : Int} (s : ByteArray) (hl : s.size <= 65536) (C1 : ∀ V : World, Calls Tryz.prog 33 #[.string s] V (RetGaussB V n d m f true)) (t : ByteArray) (hne : ¬ t.data.toList = s.data.toList) (C2 : ∀ (V : World) (v : Value), ZM V -> Zq V v n d m f -> Calls Tryz.prog 32 #[v] V fun e w' => e = .returned (.string t) /\ Below V.heap.size V w') (w : World)  (htab : ZM w) :
  Calls Tryz.prog 11 #[.string s] w (Y6 w 0 0 0 0 5) := by
 have hz : (s.size : Int) <= 65536 := by omega
 clear hl
 have HT := Hd htab
 clear htab
 have q1 : ¬ t.toList = s.toList := by rw [ByteArray.toList_eq, ByteArray.toList_eq]; exact hne
 have q2 : (t.toList == s.toList) = false := beq_eq_false_iff_ne.2 q1
 clear hne
 have H1 := Hd C1
 have H2 := Hd C2
 clear C1 C2
 go_enter Tryz.func11, Tryz.ntmps11
 go_upto_region 1 with fail
 refine Zp (P := fun W => Code.wp _ _ _ _ W) fun W p0 b0 => ?_
 have PR := Hd (Yl.mk p0)
 have HB := Hd b0
 clear b0 p0
 go_wp2_with fail
 refine (H1.out W).mono ?_
 rintro e wx1 ⟨v, rfl, hI, hb⟩
 have hi := hI
 obtain ⟨Az1, cz1, Az2, cz2, Az3, cz3, Az4, cz4, rfl, -⟩ := hI.form
 go_upto_region 4 with fail
 refine Zp (P := fun W => Code.wp _ _ _ _ W) fun wy1 hq ha => ?_
 obtain ⟨b_z, hbq⟩ : ∃ q, q = wx1.heap.size := ⟨_, rfl⟩
 rw [<- hbq] at hq ⊢
 have P_z := Hd (Yl.mk hq)
 have O_z := Hd (hi.below ha)
 have hb := hb.trans (ha.mono hb.size)
 have PR := Hd (PR.out.below hb)
 have HB := Hd (Zb HB.out hb)
 clear hI hi hb ha hq hbq
 obtain ⟨-, z0, z1, z2, z3, z4, z5, z6, z7⟩ := P_z.out.facts
 go_wp2_with fail
 refine (H2.out wy1 _ (HT.out.below2 HB.out) O_z.out.at_).mono ?_
 rintro e wx2 ⟨rfl, hb⟩
 clear z0 z1 z2 z3 z4 z5 z6 z7
 have P_z := Hd (P_z.out.below hb)
 have O_z := Hd (O_z.out.below hb)
 have PR := Hd (PR.out.below hb)
 have HB := Hd (Zb HB.out hb)
 clear hb
 obtain ⟨l_r, r0, r1, r2, r3, r4, r5, r6, r7⟩ := PR.out.facts
 obtain ⟨f0, f1, f2, f3, f4, f5, f6, f7⟩ := PR.out.free
 have H9 := Hd (gzero PR.out HB.out (show w.heap.size <= w.heap.size by omega))
 go_wp2_with fail
 obtain ⟨_, k0, k1, k2, k3, k4, k5, k6, k7⟩ := H9.out.1.facts
 exact bodyPost_ret (by simp [results, Tryz.results11, go_sem, k0, k1, k2, k3, k4, k5, k6, k7]) rfl ⟨_, rfl, (Zo.nought _ 0).in_, H9.out.2⟩

theorem rparse_same {n d m f N D M E K : Int} (s : ByteArray) (hl : s.size <= 65536) (C1 : ∀ V : World, Calls Tryz.prog 33 #[.string s] V (RetGaussB V n d m f true)) (C2 : ∀ (V : World) (v : Value), ZM V -> Zq V v n d m f -> Calls Tryz.prog 32 #[v] V fun e w' => e = .returned (.string s) /\ Below V.heap.size V w') (C3 : AnsIG n d m f N D M E K) (w : World)  (htab : ZM w) :
  Calls Tryz.prog 11 #[.string s] w (Y6 w N D M E K) := by
 have hz : (s.size : Int) <= 65536 := by omega
 clear hl
 have HT := Hd htab
 clear htab
 have H1 := Hd C1
 have H2 := Hd C2
 have H3 := Hd C3
 clear C1 C2 C3
 go_enter Tryz.func11, Tryz.ntmps11
 go_upto_region 1 with fail
 refine Zp (P := fun W => Code.wp _ _ _ _ W) fun W p0 b0 => ?_
 have PR := Hd (Yl.mk p0)
 have HB := Hd b0
 clear b0 p0
 go_wp2_with fail
 refine (H1.out W).mono ?_
 rintro e wx1 ⟨v, rfl, hI, hb⟩
 have hi := hI
 obtain ⟨Az1, cz1, Az2, cz2, Az3, cz3, Az4, cz4, rfl, -⟩ := hI.form
 go_upto_region 4 with fail
 refine Zp (P := fun W => Code.wp _ _ _ _ W) fun wy1 hq ha => ?_
 obtain ⟨b_z, hbq⟩ : ∃ q, q = wx1.heap.size := ⟨_, rfl⟩
 rw [<- hbq] at hq ⊢
 have P_z := Hd (Yl.mk hq)
 have O_z := Hd (hi.below ha)
 have hb := hb.trans (ha.mono hb.size)
 have PR := Hd (PR.out.below hb)
 have HB := Hd (Zb HB.out hb)
 clear hI hi hb ha hq hbq
 obtain ⟨-, z0, z1, z2, z3, z4, z5, z6, z7⟩ := P_z.out.facts
 go_wp2_with fail
 refine (H2.out wy1 _ (HT.out.below2 HB.out) O_z.out.at_).mono ?_
 rintro e wx2 ⟨rfl, hb⟩
 clear z0 z1 z2 z3 z4 z5 z6 z7
 have P_z := Hd (P_z.out.below hb)
 have O_z := Hd (O_z.out.below hb)
 have PR := Hd (PR.out.below hb)
 have HB := Hd (Zb HB.out hb)
 clear hb
 obtain ⟨-, z0, z1, z2, z3, z4, z5, z6, z7⟩ := P_z.out.facts
 go_wp2_with fail
 refine (H3.out wx2 _ O_z.out).mono ?_
 rintro e w9 ⟨v, rfl, hI, hb⟩
 obtain ⟨A6, c6, A7, c7, A8, c8, A9, c9, rfl, -⟩ := hI.form
 have pr := PR.out.below hb
 have hb9 := Zb HB.out hb
 obtain ⟨l_r, r0, r1, r2, r3, r4, r5, r6, r7⟩ := pr.facts
 obtain ⟨f0, f1, f2, f3, f4, f5, f6, f7⟩ := pr.free
 have HF := Hd (istore hI pr hb9 (show w.heap.size <= w.heap.size by omega) (by decide))
 clear hb hb9 pr hI
 clear z0 z1 z2 z3 z4 z5 z6 z7
 go_wp2_with fail
 obtain ⟨_, k0, k1, k2, k3, k4, k5, k6, k7⟩ := HF.out.1.facts
 exact bodyPost_ret (by simp [results, Tryz.results11, go_sem, k0, k1, k2, k3, k4, k5, k6, k7]) rfl ⟨_, rfl, HF.out.2.2, HF.out.2.1⟩

theorem ZX.any {w : World} {o : Option (Int × Int)} {e : Ending} {w' : World} (h : ZX w o e w') : RetAnyB w o.isSome e w' := by
 obtain ⟨n, d, v, h1, h2, h3, -⟩ := h
 exact ⟨n, d, v, h1, h2, h3⟩
theorem ZX.own {w : World} {n d : Int} {e : Ending} {w' : World} (h : ZX w (some (n, d)) e w') : YT w n d true e w' := by
 obtain ⟨n', d', v, h1, h2, h3, h4⟩ := h
 obtain ⟨e1, h5⟩ := h4 _ rfl
 obtain ⟨rfl, rfl⟩ : n = n' /\ d = d' := by simpa using e1
 exact ⟨v, h1, h5, h3⟩
theorem ZX.bad {w : World} {e : Ending} {w' : World} (h : RetAnyB w false e w') : ZX w none e w' := by
 obtain ⟨n, d, v, h1, h2, h3⟩ := h
 exact ⟨n, d, v, h1, h2, h3, fun p hp => by cases hp⟩
theorem YT.some_ {w : World} {n d : Int} {e : Ending} {w' : World} (h : YT w n d true e w') : Js w n d true e w' := by
 obtain ⟨v, h1, h2, h3⟩ := h
 exact ⟨v, h1, h2.in_, h3⟩
theorem ba_of {s : ByteArray} {l : List UInt8} (h : s.data.toList = l) : s = ⟨l.toArray⟩ := by
 apply ByteArray.ext
 rw [<- h]
theorem small_r (n : Int) (h1 : -9223372036854775808 <= n) (h2 : n <= 9223372036854775807) (V : World) : Calls Tryz.prog 97 #[.int .i64 n, .int .i64 1] V (Z3 V.heap.size V n 1) := by
 have k := small_z (n := n) (d := 1) h1 h2 (by decide) (by decide) (by decide) V
 rw [(J1 n).1, (J1 n).2] at k
 exact k
theorem small_i (n : Int) (h1 : -9223372036854775808 <= n) (h2 : n <= 9223372036854775807) (V : World) : Calls Tryz.prog 192 #[.int .i64 n, .int .i64 1] V (Ya V n 1) := by
 have k := small_zi (n := n) (d := 1) h1 h2 (by decide) (by decide) (by decide) V
 rw [(J1 n).1, (J1 n).2] at k
 exact k
theorem small_i1 (V : World) : Calls Tryz.prog 191 #[] V (Ya V 1 1) := one_refz rfl rfl V
theorem sign_ne (n : Int) (b : Bool) (h : decide (n = 0) = !b) : (n.sign != 0) = b := by
 rw [bne, Ys n (!b) h, Bool.not_not]
theorem coefG_else {s : List UInt8} (h1 : ¬ s = []) (h2 : ¬ s = [45]) : J5 s = match Yf s with
 | none => none
 | some p => if p.1 ≠ 0 /\ s ≠ [49] /\ s ≠ [45, 49] then some p else none := by
 unfold J5
 rw [if_neg h1, if_neg h2]
 cases Yf s <;> rfl
theorem J3 (s : ByteArray) (hs : s.size <= 65536) (V : World) : Calls Tryz.prog 28 #[.string s] V (ZX V (J5 s.data.toList)) := by
 by_cases h1 : s.data.toList = []
 . rw [show J5 s.data.toList = some (1, 1) from if_pos h1, ba_of h1]
   exact (coef_empty (small_r 1 (by decide) (by decide)) V).mono fun e w' h => ZX.of_own h
 . by_cases h2 : s.data.toList = [45]
   . rw [show J5 s.data.toList = some (-1, 1) by unfold J5; rw [if_neg h1, if_pos h2], ba_of h2]
     exact (coef_minus (small_r (-1) (by decide) (by decide)) V).mono fun e w' h => ZX.of_own h
   . rw [coefG_else h1 h2]
     have C := fun V => ratio_ReadO s hs V
     have hN := NoneOf.of h1 h2
     cases ho : Yf s.data.toList with
     | none =>
       rw [ho] at C
       exact (coef_N s (fun V => (C V).mono fun e w' h => h.any) hN V).mono fun e w' h => ZX.bad h
     | some p =>
       obtain ⟨n, d⟩ := p
       rw [ho] at C
       have C2 := fun (V : World) => (C V).mono fun e w' h => h.own
       have C3 := fun (V : World) => (C2 V).mono fun e w' h => h.some_
       have hg := XL n d
       dsimp only
       by_cases hn : n = 0
       . rw [if_neg (fun h => h.1 hn)]
         exact (coef_Z s C3 hg (sign_ne n false (decide_eq_true hn)) hN V).mono fun e w' h => ZX.bad h
       . have hz := sign_ne n true (decide_eq_false hn)
         by_cases h3 : s.data.toList = [49]
         . rw [if_neg (fun h => h.2.1 h3)]
           have e3 := ba_of h3
           subst e3
           exact (coef_1 C3 hg hz V).mono fun e w' h => ZX.bad h
         . by_cases h4 : s.data.toList = [45, 49]
           . rw [if_neg (fun h => h.2.2 h4)]
             have e4 := ba_of h4
             subst e4
             exact (coef_M C3 hg hz V).mono fun e w' h => ZX.bad h
           . rw [if_pos ⟨hn, h3, h4⟩]
             exact (coef_G s C2 hg hz hN (NoneOf2.of h3 h4) V).mono fun e w' h => ZX.of_own h
theorem small_g (V : World) : Calls Tryz.prog 24 #[.int .i64 0, .int .i64 0] V (ZQ V.heap.size V 0 1 0 1) :=
 argand_Small (fun V => small_r 0 (by decide) (by decide) V) (fun V => small_r 0 (by decide) (by decide) V) V
theorem suf_no {s : ByteArray} (h : ¬ s.data.toList.getLast? = some 105) (hs : s.size <= 65536) (V : World) : Calls Tryz.prog 25 #[.string s, .string ⟨#[105]⟩] V fun e w' => e = .returned (.tuple #[.string s, .bool false]) /\ Below V.heap.size V w' := by
 have hn : Lib.hasSuffix s.data.toList [105] = false := by
  cases hc : Lib.hasSuffix s.data.toList [105] with
  | false => rfl
  | true =>
   exfalso
   unfold Lib.hasSuffix at hc
   obtain ⟨t, ht⟩ := List.isSuffixOf_iff_suffix.1 hc
   exact h (by rw [<- ht, List.getLast?_append]; rfl)
 refine (Tryz.strings_CutSuffix s ⟨#[105]⟩ V (by omega)).mono ?_
 rintro e w' ⟨rfl, rfl⟩
 refine ⟨?_, Below.refl _ _⟩
 have e1 : Lib.trimSuffix s.data.toList [105] = s.data.toList := by unfold Lib.trimSuffix; rw [hn]; rfl
 rw [show ((⟨#[105]⟩ : ByteArray).data.toList) = [105] from rfl, hn, e1]
theorem suf_yes {s : ByteArray} {f : List UInt8} (h : s.data.toList = f ++ [105]) (hs : s.size <= 65536) (V : World) : Calls Tryz.prog 25 #[.string s, .string ⟨#[105]⟩] V fun e w' => e = .returned (.tuple #[.string ⟨f.toArray⟩, .bool true]) /\ Below V.heap.size V w' := by
 have hn : Lib.hasSuffix s.data.toList [105] = true := by
  unfold Lib.hasSuffix
  rw [h]
  exact List.isSuffixOf_iff_suffix.2 ⟨f, rfl⟩
 refine (Tryz.strings_CutSuffix s ⟨#[105]⟩ V (by omega)).mono ?_
 rintro e w' ⟨rfl, rfl⟩
 refine ⟨?_, Below.refl _ _⟩
 have e1 : Lib.trimSuffix s.data.toList [105] = f := by
  unfold Lib.trimSuffix
  rw [hn, h]
  simp
 rw [show ((⟨#[105]⟩ : ByteArray).data.toList) = [105] from rfl, hn, e1]
theorem pre_plus (t : ByteArray) (V : World) : Calls Tryz.prog 29 #[.string t, .string ⟨#[43]⟩] V fun e w' => e = .returned (.tuple #[.string ⟨(if t.data.toList.head? = some 43 then t.data.toList.tail else t.data.toList).toArray⟩, .bool (decide (t.data.toList.head? = some 43))]) /\ Below V.heap.size V w' := by
 refine (Tryz.strings_CutPrefix t ⟨#[43]⟩ V).mono ?_
 rintro e w' ⟨rfl, rfl⟩
 refine ⟨?_, Below.refl _ _⟩
 rw [show ((⟨#[43]⟩ : ByteArray).data.toList) = [43] from rfl]
 unfold Lib.trimPrefix Lib.hasPrefix
 cases ht : t.data.toList with
 | nil => simp
 | cons x r =>
  by_cases hx : x = 43
  . subst hx
    simp
  . have hx2 : ¬ (43 : UInt8) = x := fun e => hx e.symm
    have h9 : List.isPrefixOf [43] (x :: r) = false := by
     show ((43 : UInt8) == x && _) = false
     rw [beq_eq_false_iff_ne.2 hx2]
     rfl
    simp [hx, h9]
theorem ext_drop (s : ByteArray) (k : Nat) : (s.extract k s.size).data.toList = s.data.toList.drop k := by
 rw [Lib.extract_data]
 exact List.take_of_length_le (by rw [List.length_drop, <- Lib.size_eq]; exact Nat.le_refl _)
theorem sign_pos (n : Int) : decide (0 < n.sign) = decide (0 < n) := by
 by_cases h : 0 < n
 . rw [decide_eq_true h, decide_eq_true (sgn_up h)]
 . rw [decide_eq_false h, decide_eq_false (by have := Kg h; omega)]
theorem twoO_eq (r q : Option (Int × Int)) (hd : Prop) [Decidable hd] : twoO r q (decide hd) = match r with
   | none => none
   | some p => if p.1 = 0 then none else match q with
     | none => none
     | some q => if (hd ↔ 0 < q.1) then some (p.1, p.2, q.1, q.2) else none := by
 unfold twoO nzO
 rcases r with _ | p
 . rfl
 . dsimp only
   by_cases hn : p.1 = 0
   . rw [if_pos hn, if_neg (by rw [sign_ne p.1 false (decide_eq_true hn)]; exact Bool.false_ne_true)]
   . rw [if_neg hn, if_pos (sign_ne p.1 true (decide_eq_false hn))]
     rcases q with _ | q
     . rfl
     . show (if (decide hd == decide (0 < q.1.sign)) = true then _ else _) = _
       dsimp only
       rw [sign_pos]
       by_cases h1 : hd <;> by_cases h2 : 0 < q.1 <;> simp [h1, h2]
theorem gparse_o {s : ByteArray} (hs : s.size <= 65536) {N D M E K : Int} (h : ParseIs (XZ s.data.toList) N D M E K) (V : World) (hu : Lib.Utf8Tabs 2 3 V) :
   Calls Tryz.prog 9 #[.string s] V (ZZ V.heap.size V N D M E K) := by
 by_cases hl : s.data.toList.getLast? = some 105
 . obtain ⟨f, hf⟩ := List.getLast?_eq_some_iff.1 hl
   have eP : XZ s.data.toList = if Yv f <= 0 then (J5 f).map fun p => (0, 1, p.1, p.2)
       else match Yf (f.take (Yv f).toNat) with
       | none => none
       | some p => if p.1 = 0 then none else
         match J5 (if (f.drop (Yv f).toNat).head? = some 43 then (f.drop (Yv f).toNat).tail else f.drop (Yv f).toNat) with
         | none => none
         | some q => if ((f.drop (Yv f).toNat).head? = some 43 ↔ 0 < q.1) then some (p.1, p.2, q.1, q.2) else none := by
     unfold XZ
     rw [if_pos hl, hf, List.dropLast_concat]
     rfl
   rw [eP] at h
   clear eP
   have hsz := congrArg List.length hf
   rw [<- Lib.size_eq, List.length_append, List.length_singleton] at hsz
   have hfs : (⟨f.toArray⟩ : ByteArray).size = f.length := Xx f
   have hfd : (⟨f.toArray⟩ : ByteArray).data.toList = f := Xy f
   have C1 := fun V => suf_yes hf hs V
   have C2 := fun (V : World) (hu : Lib.Utf8Tabs 2 3 V) => last_any ⟨f.toArray⟩ (by rw [hfs]; omega) V hu
   rw [hfd] at C2
   have C3 := fun V => J3 ⟨f.toArray⟩ (by rw [hfs]; omega) V
   rw [hfd] at C3
   by_cases hp : Yv f <= 0
   . rw [if_pos hp] at h
     exact gparse_C s hs small_g _ _ _ hp C1 C2 C3 h V hu
   . rw [if_neg hp] at h
     obtain ⟨k, hk⟩ : ∃ k : Nat, Yv f = k := ⟨(Yv f).toNat, by omega⟩
     have hkl := pmAt_lt f
     rw [hk, Int.toNat_natCast] at h
     rw [hk] at C2 hkl hp
     have hk0 : 0 < k := by omega
     have hkf : k <= (⟨f.toArray⟩ : ByteArray).size := by rw [hfs]; omega
     have hf6 : (⟨f.toArray⟩ : ByteArray).size <= 65536 := by rw [hfs]; omega
     have C4 := fun V => ratio_ReadO ((⟨f.toArray⟩ : ByteArray).extract 0 k) (by rw [ByteArray.size_extract]; omega) V
     have eT : ((⟨f.toArray⟩ : ByteArray).extract 0 k).data.toList = f.take k := by rw [ext_list, hfd]
     rw [eT] at C4
     have eD : ((⟨f.toArray⟩ : ByteArray).extract k (⟨f.toArray⟩ : ByteArray).size).data.toList = f.drop k := by rw [ext_drop, hfd]
     have C5 := fun V => pre_plus ((⟨f.toArray⟩ : ByteArray).extract k (⟨f.toArray⟩ : ByteArray).size) V
     rw [eD] at C5
     obtain ⟨r, hr⟩ : ∃ r, r = (if (f.drop k).head? = some 43 then (f.drop k).tail else f.drop k) := ⟨_, rfl⟩
     rw [<- hr] at h C5
     have hrl : r.length <= 65536 := by
       have : r.length <= (f.drop k).length := by
         rw [hr]
         split
         . rw [List.length_tail]; omega
         . exact Nat.le_refl _
       rw [List.length_drop] at this
       omega
     have C6 := fun V => J3 ⟨r.toArray⟩ (by rw [Xx]; exact hrl) V
     rw [Xy] at C6
     refine gparse_D s hs small_g _ _ k _ _ _ hk0 hkf hf6 C1 C2 C4 C5 C6 ?_ V hu
     rw [twoO_eq]
     exact h
 . have eP : XZ s.data.toList = (Yf s.data.toList).map fun p => (p.1, p.2, 0, 1) := by unfold XZ; rw [if_neg hl]
   rw [eP] at h
   exact gparse_B s hs small_g _ _ (fun V => suf_no hl hs V) (fun V => ratio_ReadO s hs V) h V
theorem ans_g0 (n d m f : Int) : ∃ N D M E k, (lz N <= 2048 /\ lz D <= 2048 /\ lz M <= 2048 /\ lz E <= 2048) /\ Ji n d m f N D M E k /\ AnsIG n d m f N D M E k /\ (k = 0 -> n = N /\ d = D /\ m = M /\ f = E) := by
 by_cases hl : (lz n <= 2048 /\ lz d <= 2048) /\ lz m <= 2048 /\ lz f <= 2048
 . have hb : ((decide (2048 < (Za n.natAbs).length) || decide (2048 < (Za d.natAbs).length)) || (decide (2048 < (Za m.natAbs).length) || decide (2048 < (Za f.natAbs).length))) = false := by
     unfold lz at hl
     rw [decide_eq_false (by omega), decide_eq_false (by omega), decide_eq_false (by omega), decide_eq_false (by omega)]
     rfl
   refine ⟨n, d, m, f, 0, ⟨hl.1.1, hl.1.2, hl.2.1, hl.2.2⟩, fun V base v hbase ho => ?_, fun V v ho => ?_, fun _ => ⟨rfl, rfl, rfl, rfl⟩⟩
   . exact answered_fits (ansG_of false hb) V v ho.in_.at_ hbase ho
   . exact ref03_Answer_fits hb V v ho.at_ ho
 . have hb : ((decide (2048 < (Za n.natAbs).length) || decide (2048 < (Za d.natAbs).length)) || (decide (2048 < (Za m.natAbs).length) || decide (2048 < (Za f.natAbs).length))) = true := by
     unfold lz at hl
     simp only [Bool.or_eq_true, decide_eq_true_eq]
     omega
   refine ⟨0, 0, 0, 0, 4, by decide +kernel, fun V base v hbase ho => ?_, fun V v ho => ?_, fun h => by cases h⟩
   . exact answered_long (ansG_of true hb) V v ho.in_.at_ hbase ho
   . exact ref03_Answer_long hb V v ho.at_ ho
theorem ref_imag {s : ByteArray} {u : List UInt8} (h : s.data.toList = u ++ [105]) (hs : s.size <= 65536) (V : World) : Calls Tryz.prog 117 #[.string s] V (Xt V (Kl u)) := by
 have hsz := congrArg List.length h
 rw [<- Lib.size_eq, List.length_append, List.length_singleton] at hsz
 have hu : s.extract 0 u.length = ⟨u.toArray⟩ := ba_of (by rw [ext_list, h]; simp)
 have hi : (s[u.length]'(by omega)).toNat = 105 := by
   have := Lib.data_getElem? s u.length (by omega)
   rw [h, List.getElem?_append_right (Nat.le_refl _), Nat.sub_self] at this
   rw [<- Option.some.inj this]
   rfl
 unfold Kl
 by_cases h1 : u = []
 . subst h1
   rw [if_pos rfl]
   exact (ref03_imag_E s _ hsz hi hu (by omega) (fun V => small_i1 V) V).mono fun e w' h => ⟨1, 1, h, fun p hp => (Option.some.inj hp).symm⟩
 . rw [if_neg h1]
   by_cases h2 : u = [45]
   . subst h2
     rw [if_pos rfl]
     exact (ref03_imag_M s _ hsz hi hu (by omega) (fun V => small_i (-1) (by decide) (by decide) V) V).mono fun e w' h => ⟨-1, 1, h, fun p hp => (Option.some.inj hp).symm⟩
   . rw [if_neg h2]
     have C := fun V => ref02_Read ⟨u.toArray⟩ (by rw [Xx]; omega) V
     rw [Xy] at C
     exact ref03_imag_R s _ _ hsz hi hu (by omega) (NoneOf.of (by rw [Xy]; exact h1) (by rw [Xy]; exact h2)) _ C V
theorem ref03_read {s : ByteArray} (hs : s.size <= 65536) (V : World) : Calls Tryz.prog 33 #[.string s] V (Kc V (XJ s.data.toList) (XJ s.data.toList).isSome) := by
 by_cases hl : s.data.toList.getLast? = some 105
 . obtain ⟨f, hf⟩ := List.getLast?_eq_some_iff.1 hl
   have hsz := congrArg List.length hf
   rw [<- Lib.size_eq, List.length_append, List.length_singleton] at hsz
   have hi : (s[f.length]'(by omega)).toNat = 105 := by
     have := Lib.data_getElem? s f.length (by omega)
     rw [hf, List.getElem?_append_right (Nat.le_refl _), Nat.sub_self] at this
     rw [<- Option.some.inj this]
     rfl
   have C1 := fun V => ref03_split s hs V
   by_cases hp : Yv s.data.toList <= 0
   . have eS : splitL s.data.toList = 0 := by unfold splitL; omega
     rw [eS] at C1
     have e : XJ s.data.toList = (Kl f).map fun p => (0, 1, p.1, p.2) := by
       unfold XJ
       rw [if_pos hl, if_pos hp, hf, List.dropLast_concat]
     rw [e, Option.isSome_map]
     exact ref03_read_C s _ hsz hi (by omega) _ C1 (fun V => ref_imag hf hs V) nought_i V
   . obtain ⟨k, hk⟩ : ∃ k : Nat, Yv s.data.toList = k := ⟨(Yv s.data.toList).toNat, by omega⟩
     have hkl := pmAt_lt s.data.toList
     have eS : splitL s.data.toList = k := by unfold splitL; omega
     rw [eS] at C1
     have hkf : Yv f = k := by rw [<- hk, hf, pmAt_snoc]
     have hkfl := pmAt_lt f
     have hlen : s.data.toList.length = s.size := by rw [Lib.size_eq]
     obtain ⟨x, t, e1, e2, e3⟩ := pmAt_split (l := f) hkf
     have eR : s.data.toList.drop k = x :: (t ++ [105]) := by
       have e4 : (f.take k).length = k := by rw [List.length_take]; omega
       rw [hf, e1, List.append_assoc, List.drop_append_of_le_length (by rw [e4]; exact Nat.le_refl _), List.drop_eq_nil_of_le (by rw [e4]; exact Nat.le_refl _)]
       rfl
     have eT : (s.extract 0 k).data.toList = s.data.toList.take k := ext_list s k
     have eD : (s.extract k s.size).data.toList = x :: (t ++ [105]) := by rw [ext_drop, eR]
     have C2 := fun V => ref02_Read (s.extract 0 k) (by rw [ByteArray.size_extract]; omega) V
     rw [eT] at C2
     have hxs : 0 < (s.extract k s.size).size := by rw [ByteArray.size_extract]; omega
     have hx0 : (s.extract k s.size)[0]'hxs = x := by
       have := Lib.data_getElem? (s.extract k s.size) 0 hxs
       rw [eD] at this
       exact (Option.some.inj this).symm
     by_cases hx : x = 43
     . subst hx
       have hrest : ((s.extract k s.size).extract 1 (s.extract k s.size).size) = ⟨(t ++ [105]).toArray⟩ := ba_of (by rw [ext_drop, eD]; rfl)
       have e : XJ s.data.toList = bothO (Yf (s.data.toList.take k)) (Kl t) := by
         unfold XJ bothO
         rw [if_pos hl, if_neg (by omega), hk, Int.toNat_natCast, eR]
         cases Yf (s.data.toList.take k) with
         | none => rfl
         | some p =>
           simp
       rw [e, bothO_some]
       exact ref03_read_Dp s _ _ _ hsz hi (by omega) k (by omega) (by omega) (by rw [hsz]) hxs (by rw [hx0]; rfl) hrest _ _ C1 C2 (fun V => ref_imag (u := t) (Xy _) (by rw [Xx, List.length_append, List.length_singleton]; have := congrArg List.length e1; rw [List.length_append, List.length_cons, List.length_take] at this; omega) V) V
     . have hx45 : x = 45 := by
         unfold pm at e2
         rw [Bool.or_eq_true, beq_iff_eq, beq_iff_eq] at e2
         exact e2.resolve_left hx
       subst hx45
       have hrest : s.extract k s.size = ⟨(45 :: t ++ [105]).toArray⟩ := ba_of eD
       have e : XJ s.data.toList = bothO (Yf (s.data.toList.take k)) (Kl (45 :: t)) := by
         unfold XJ bothO
         rw [if_pos hl, if_neg (by omega), hk, Int.toNat_natCast, eR]
         cases Yf (s.data.toList.take k) with
         | none => rfl
         | some p =>
           have h9 : (45 :: (t ++ [105])).dropLast = 45 :: t := by rw [<- List.cons_append, List.dropLast_concat]
           simp [h9]
       rw [e, bothO_some]
       refine ref03_read_Dm s _ _ hsz hi (by omega) k (by omega) (by omega) (by rw [hsz]) hxs (by rw [hx0]; rfl) _ _ C1 C2 ?_ V
       rw [hrest]
       exact (fun V => ref_imag (u := 45 :: t) (Xy _) (by rw [Xx, List.length_append, List.length_singleton, List.length_cons]; have := congrArg List.length e1; rw [List.length_append, List.length_cons, List.length_take] at this; omega) V)
 . have e : XJ s.data.toList = (Yf s.data.toList).map fun p => (p.1, p.2, 0, 1) := by unfold XJ; rw [if_neg hl]
   rw [e, Option.isSome_map]
   have C := fun V => ref02_Read s hs V
   by_cases h0 : s.size = 0
   . exact ref03_read_B0 s h0 _ C nought_i V
   . obtain ⟨n0, hn0⟩ : ∃ n, s.size = n + 1 := ⟨s.size - 1, by omega⟩
     refine ref03_read_B1 s n0 hn0 ?_ (by omega) _ C nought_i V
     refine beq_eq_false_iff_ne.2 fun hc => hl ?_
     have h1 := Lib.data_getElem? s n0 (by omega)
     have hlen : s.data.toList.length = n0 + 1 := by rw [<- Lib.size_eq, hn0]
     rw [List.getLast?_eq_getElem?, hlen, Nat.add_sub_cancel, h1]
     congr 1
     exact UInt8.toNat_inj.1 (by have h105 : (105 : UInt8).toNat = 105 := rfl; omega)
theorem lz_coef {s : List UInt8} {n d : Int} (h : Kl s = some (n, d)) (hs : s.length <= 65536) : lz n <= 7282 /\ lz d <= 7282 := by
 unfold Kl at h
 split at h
 . obtain ⟨rfl, rfl⟩ : 1 = n /\ 1 = d := by simpa using h
   decide +kernel
 . split at h
   . obtain ⟨rfl, rfl⟩ : -1 = n /\ 1 = d := by simpa using h
     decide +kernel
   . exact lz_readF h hs
theorem lz_readG {s : List UInt8} {n d m f : Int} (h : XJ s = some (n, d, m, f)) (hs : s.length <= 65536) : (lz n <= 7282 /\ lz d <= 7282) /\ lz m <= 7282 /\ lz f <= 7282 := by
 have h1 : lz 0 <= 7282 /\ lz 1 <= 7282 := by decide +kernel
 unfold XJ at h
 split at h
 . split at h
   . obtain ⟨p, hp, e1⟩ := Option.map_eq_some_iff.1 h
     injection e1 with a1 e1; injection e1 with a2 e1; injection e1 with a3 a4
     subst a1 a2 a3 a4
     exact ⟨h1, lz_coef (n := p.1) (d := p.2) hp (by rw [List.length_dropLast]; omega)⟩
   . split at h
     . cases h
     . rename_i p hp
       obtain ⟨q, hq, e1⟩ := Option.map_eq_some_iff.1 h
       injection e1 with a1 e1; injection e1 with a2 e1; injection e1 with a3 a4
       subst a1 a2 a3 a4
       refine ⟨lz_readF (n := p.1) (d := p.2) hp (by rw [List.length_take]; omega), lz_coef (n := q.1) (d := q.2) hq ?_⟩
       rw [List.length_dropLast]
       split
       . rw [List.length_tail, List.length_drop]; omega
       . rw [List.length_drop]; omega
 . obtain ⟨p, hp, e1⟩ := Option.map_eq_some_iff.1 h
   injection e1 with a1 e1; injection e1 with a2 e1; injection e1 with a3 a4
   subst a1 a2 a3 a4
   exact ⟨lz_readF (n := p.1) (d := p.2) hp hs, h1⟩
theorem parse_spec (s : ByteArray) : ∃ N D M E K : Int, (lz N <= 2048 /\ lz D <= 2048 /\ lz M <= 2048 /\ lz E <= 2048) /\
   (∀ V, Lib.Utf8Tabs 2 3 V -> Calls Tryz.prog 9 #[.string s] V (ZZ V.heap.size V N D M E K)) /\
   (∀ V, ZM V -> Calls Tryz.prog 11 #[.string s] V (Y6 V N D M E K)) /\
   (K = 0 -> Fine N D /\ Fine M E /\ s = Jd N D M E /\ s.size <= 65536) := by
 by_cases hs : s.size <= 65536
 . have hsl : s.data.toList.length <= 65536 := by rw [<- Lib.size_eq]; exact hs
   cases ho : XZ s.data.toList with
   | none =>
    refine ⟨0, 0, 0, 0, 5, by decide +kernel, fun V hu => gparse_o hs (by rw [ho]; exact ⟨rfl, rfl, rfl, rfl, rfl⟩) V hu, fun V ht => ?_, fun h => by cases h⟩
    have C := fun V => ref03_read hs V
    cases hr : XJ s.data.toList with
    | none =>
      rw [hr] at C
      exact rparse_none s hs (fun V => (C V).mono fun e w' h => h.none_) V
    | some p =>
      obtain ⟨n, d, m, f⟩ := p
      rw [hr] at C
      obtain ⟨⟨a1, a2⟩, a3, a4⟩ := lz_readG hr hsl
      refine rparse_other s hs (fun V => (C V).mono fun e w' h => h.some_) (Jd n d m f) (fun e => ?_) (fun V v ht g => gdig_i a1 a2 a3 a4 V v ht g) V ht
      unfold Jd at e
      rw [Xy] at e
      rw [parse_iff.2 ⟨hr, e⟩] at ho
      cases ho
   | some p =>
    obtain ⟨n, d, m, f⟩ := p
    obtain ⟨hr, ht⟩ := parse_iff.1 ho
    obtain ⟨b1, b2, b3, b4⟩ := read_low hr
    obtain ⟨⟨a1, a2⟩, a3, a4⟩ := lz_readG hr hsl
    obtain ⟨N, D, M, E, K, hz, A1, A2, hK⟩ := ans_g0 n d m f
    have eS : s = Jd n d m f := ba_of ht.symm
    refine ⟨N, D, M, E, K, hz, fun V hu => gparse_o hs (by rw [ho]; exact A1) V hu, fun V htab => ?_, fun h => ?_⟩
    . have C := fun V => ref03_read hs V
      rw [hr] at C
      exact rparse_same s hs (fun V => (C V).mono fun e w' h => h.some_) (fun V v ht g => by have := gdig_i a1 a2 a3 a4 V v ht g; rw [<- eS] at this; exact this) A2 V htab
    . obtain ⟨rfl, rfl, rfl, rfl⟩ := hK h
      exact ⟨(is_of b1 b2).fine hz.1 hz.2.1, (is_of b3 b4).fine hz.2.2.1 hz.2.2.2, eS, hs⟩
 . refine ⟨0, 0, 0, 0, 4, by decide +kernel, fun V _ => gparse_long s (by omega) V, fun V _ => rparse_long s (by omega) V, fun h => by cases h⟩
end Go.Proofs.YtdonecnhdkjniaaGreatDoor
