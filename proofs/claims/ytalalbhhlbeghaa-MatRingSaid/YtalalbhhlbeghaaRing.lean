/- MatRing: over numbers of 64 bits that wrap round, for every three matrices the laws of matrices hold, and the call returns true. No condition. -/
import Derived.Test.YtalalbhhlbeghaaAt
import Derived.Lib.Hide
namespace Go.Proofs.Ytalalbhhlbeghaa
open Go.RowKit

set_option maxRecDepth 100000 in
set_option maxHeartbeats 1000000 in
theorem ring_true (x y z : M4) (hx : x.ok) (w : World) :
    Calls Try.prog 3 #[mv x, mv y, mv z] w fun e w' => e = .returned (.bool true) ∧ Below w.heap.size w w' := by
  go_enter Try.func3, Try.ntmps3
  go_wp2_with fail
  refine (wrap_Wrap x _).mono ?_; rintro e w1 ⟨rfl, hb⟩
  have X1 := (((At.new w x 23).alloc _).alloc _).below hb
  have Y1 := ((At.new1 w y 23 _ _).alloc _).below hb
  have Z1 := (At.new2 w z 23 _ _ _ _).below hb
  have B1 := bfirst3 hb
  clear hb
  obtain ⟨l, c0, c1, c2, c3⟩ := id Y1
  go_wp2_with fail
  refine (wrap_Wrap y _).mono ?_; rintro e w2 ⟨rfl, hb⟩
  have B2 := bstep B1 hb
  have X2 := (At.new w1 x _).below hb
  have Z2 := Z1.step hb
  clear hb l c0 c1 c2 c3 B1 X1 Y1 Z1
  obtain ⟨l, c0, c1, c2, c3⟩ := id Z2
  go_wp2_with fail
  refine (wrap_Wrap z _).mono ?_; rintro e w3 ⟨rfl, hb⟩
  have B3 := bstep B2 hb
  have X3 := X2.step hb
  have Y3 := (At.new w2 y _).below hb
  clear hb l c0 c1 c2 c3 B2 X2 Z2
  go_wp2_with fail
  refine (wrap_Wrap0 1 0 0 1 _).mono ?_; rintro e w4 ⟨rfl, hb⟩
  have B4 := bstep B3 hb
  have X4 := X3.step hb
  have Y4 := Y3.step hb
  have Z4 := (At.new w3 z _).below hb
  clear hb B3 X3 Y3
  obtain ⟨l, c0, c1, c2, c3⟩ := id X4
  obtain ⟨k, d0, d1, d2, d3⟩ := id Y4
  go_wp2_with fail
  refine (wrap_Mul x y _).mono ?_; rintro e w5 ⟨rfl, hb⟩
  have B5 := bstep B4 hb
  have X5 := X4.step hb
  have Y5 := Y4.step hb
  have Z5 := Z4.step hb
  have O5 := (At.new w4 ⟨1, 0, 0, 1⟩ _).below hb
  clear hb l c0 c1 c2 c3 k d0 d1 d2 d3 B4 X4 Y4 Z4
  obtain ⟨l, c0, c1, c2, c3⟩ := id X5
  go_wp2_with fail
  refine (wrap_Det x _).mono ?_; rintro e w6 ⟨rfl, hb⟩
  have B6 := bstep B5 hb
  have X6 := X5.step hb
  have Y6 := Y5.step hb
  have Z6 := Z5.step hb
  have O6 := O5.step hb
  have P6 := (At.new w5 (M4.mul x y) _).below hb
  clear hb l c0 c1 c2 c3 B5 X5 Y5 Z5 O5
  go_wp2_with fail
  have Kx := X6
  obtain ⟨lx, x0, x1, x2, x3⟩ := Kx
  have Ky := Y6
  obtain ⟨ly, y0, y1, y2, y3⟩ := Ky
  have Kz := Z6
  obtain ⟨lz, z0, z1, z2, z3⟩ := Kz
  have Ko := O6
  obtain ⟨lo, o0, o1, o2, o3⟩ := Ko
  have Kp := P6
  obtain ⟨lp, p0, p1, p2, p3⟩ := Kp
  have C1 := wrap_Mul (M4.mul x y) z
  have C2 := wrap_Mul y z
  have C3 := wrap_Mul x (M4.mul y z)
  rw [← M4.mul_assoc] at C3
  have C4 := wrap_Mul x ⟨1, 0, 0, 1⟩
  rw [show M4.mul x ⟨1, 0, 0, 1⟩ = x from M4.mul_one hx] at C4
  have C5 := wrap_Mul ⟨1, 0, 0, 1⟩ x
  rw [show M4.mul ⟨1, 0, 0, 1⟩ x = x from M4.one_mul hx] at C5
  have H1 := Lib.hid C1
  have H2 := Lib.hid C2
  have H3 := Lib.hid C3
  have H4 := Lib.hid C4
  have H5 := Lib.hid C5
  clear C1 C2 C3 C4 C5
  go_region_held3 (fun w' => Below w6.heap.size w6 w' ∧ ∀ b o, b < w6.heap.size → w'.cell? ⟨b, o, none⟩ = w6.cell? ⟨b, o, none⟩)
    (first
      | exact ⟨(Below.refl _ _).drew, fun _ _ _ => rfl⟩
      | (obtain ⟨q, _⟩ := ‹Below w6.heap.size w6 _ ∧ _›; have q' := belowStep q hbx; exact ⟨q', fun b o h => q'.cell (p := ⟨b, o, none⟩) h⟩))
    (first
      | (go_at_call 10; with_reducible refine (H1.out _).mono ?_; rintro e wx ⟨rfl, hbx⟩)
      | (go_at_call 10; with_reducible refine (H2.out _).mono ?_; rintro e wx ⟨rfl, hbx⟩)
      | (go_at_call 10; with_reducible refine (H3.out _).mono ?_; rintro e wx ⟨rfl, hbx⟩)
      | (go_at_call 10; with_reducible refine (H4.out _).mono ?_; rintro e wx ⟨rfl, hbx⟩)
      | (go_at_call 10; with_reducible refine (H5.out _).mono ?_; rintro e wx ⟨rfl, hbx⟩))
  obtain ⟨q7, _⟩ := ‹Below w6.heap.size w6 _ ∧ _›
  obtain ⟨w7, E7⟩ : ∃ W, W = wx := ⟨wx, rfl⟩
  rw [← E7] at q7 ⊢
  clear hbx E7
  have B7 := belowStep B6 q7
  have X7 := X6.below q7
  have Y7 := Y6.below q7
  have P7 := P6.below q7
  clear x0 x1 x2 x3 y0 y1 y2 y3 z0 z1 z2 z3 o0 o1 o2 o3 p0 p1 p2 p3 lx ly lz lo lp B6 X6 Y6 Z6 O6 P6 q7 H1 H2 H3 H4 H5
  obtain ⟨lx, x0, x1, x2, x3⟩ := id X7
  obtain ⟨ly, y0, y1, y2, y3⟩ := id Y7
  obtain ⟨lp, p0, p1, p2, p3⟩ := id P7
  have C1 := wrap_Det (M4.mul x y)
  rw [M4.det_mul] at C1
  have hw : IntKind.i64.wrap (M4.det x * M4.det y) = wrap64 (M4.det x * M4.det y) := IntWalk.i64_left _
  have C2 := wrap_Det y
  have C3 := wrap_Trace (M4.mul x y)
  have C4 := wrap_Mul y x
  have C5 := wrap_Trace (M4.mul y x)
  rw [← M4.trace_mul] at C5
  have H1 := Lib.hid C1
  have H2 := Lib.hid C2
  have H3 := Lib.hid C3
  have H4 := Lib.hid C4
  have H5 := Lib.hid C5
  clear C1 C2 C3 C4 C5
  go_wp2_with fail
  go_region_held3 (fun w' => Below w7.heap.size w7 w' ∧ ∀ b o, b < w7.heap.size → w'.cell? ⟨b, o, none⟩ = w7.cell? ⟨b, o, none⟩)
    (first
      | exact ⟨(Below.refl _ _).drew, fun _ _ _ => rfl⟩
      | (obtain ⟨q, _⟩ := ‹Below w7.heap.size w7 _ ∧ _›; have q' := belowStep q hbx; exact ⟨q', fun b o h => q'.cell (p := ⟨b, o, none⟩) h⟩))
    (first
      | (go_at_call 11; with_reducible refine (H1.out _).mono ?_; rintro e wx ⟨rfl, hbx⟩)
      | (go_at_call 11; with_reducible refine (H2.out _).mono ?_; rintro e wx ⟨rfl, hbx⟩)
      | (go_at_call 12; with_reducible refine (H3.out _).mono ?_; rintro e wx ⟨rfl, hbx⟩)
      | (go_at_call 10; with_reducible refine (H4.out _).mono ?_; rintro e wx ⟨rfl, hbx⟩)
      | (go_at_call 12; with_reducible refine (H5.out _).mono ?_; rintro e wx ⟨rfl, hbx⟩))
  obtain ⟨q8, _⟩ := ‹Below w7.heap.size w7 _ ∧ _›
  obtain ⟨w8, E8⟩ : ∃ W, W = wx := ⟨wx, rfl⟩
  rw [← E8] at q8 ⊢
  clear hbx E8
  have B8 := belowStep B7 q8
  have X8 := X7.below q8
  clear x0 x1 x2 x3 y0 y1 y2 y3 p0 p1 p2 p3 lx ly lp hw B7 X7 Y7 P7 q8 H1 H2 H3 H4 H5
  go_wp2_with fail
  refine (wrap_Wrap0 (M4.det x) 0 0 (M4.det x) _).mono ?_; rintro e w9 ⟨rfl, hb⟩
  have B9 := belowStep B8 hb
  have X9 := X8.below hb
  clear hb B8 X8
  go_wp2_with fail
  have F10 := At.new w9 ⟨M4.det x, 0, 0, M4.det x⟩ 26
  have X10 := X9.alloc (.cells #[.int .i64 (M4.det x), .int .i64 0, .int .i64 0, .int .i64 (M4.det x)] 26)
  have B10 := Below.alloc B9 B9.size (.cells #[.int .i64 (M4.det x), .int .i64 0, .int .i64 0, .int .i64 (M4.det x)] 26)
  dsimp only at F10
  obtain ⟨w10, E10⟩ : ∃ W, W = w9.alloc (.cells #[.int .i64 (M4.det x), .int .i64 0, .int .i64 0, .int .i64 (M4.det x)] 26) := ⟨_, rfl⟩
  rw [← E10] at F10 X10 B10 ⊢
  clear E10 B9 X9
  obtain ⟨lx, x0, x1, x2, x3⟩ := id X10
  obtain ⟨lf, f0, f1, f2, f3⟩ := F10
  clear X10
  have C1 := wrap_Turned x
  have C2 := wrap_Mul x (M4.turned x)
  rw [M4.mul_turned] at C2
  have C3 := wrap_Mul (M4.turned x) x
  rw [M4.turned_mul] at C3
  have C4 := wrap_Turned (M4.turned x)
  rw [M4.turned_turned hx] at C4
  have H1 := Lib.hid C1
  have H2 := Lib.hid C2
  have H3 := Lib.hid C3
  have H4 := Lib.hid C4
  clear C1 C2 C3 C4
  go_region_held3 (fun w' => Below w10.heap.size w10 w' ∧ ∀ b o, b < w10.heap.size → w'.cell? ⟨b, o, none⟩ = w10.cell? ⟨b, o, none⟩)
    (first
      | exact ⟨(Below.refl _ _).drew, fun _ _ _ => rfl⟩
      | (obtain ⟨q, _⟩ := ‹Below w10.heap.size w10 _ ∧ _›; have q' := belowStep q hbx; exact ⟨q', fun b o h => q'.cell (p := ⟨b, o, none⟩) h⟩))
    (first
      | (go_at_call 13; with_reducible refine (H1.out _).mono ?_; rintro e wx ⟨rfl, hbx⟩)
      | (go_at_call 10; with_reducible refine (H2.out _).mono ?_; rintro e wx ⟨rfl, hbx⟩)
      | (go_at_call 10; with_reducible refine (H3.out _).mono ?_; rintro e wx ⟨rfl, hbx⟩)
      | (go_at_call 13; with_reducible refine (H4.out _).mono ?_; rintro e wx ⟨rfl, hbx⟩)
      | (go_at_call 14; refine (lives_true _).mono ?_; rintro e wx ⟨rfl, hbx⟩))
  obtain ⟨q11, _⟩ := ‹Below w10.heap.size w10 _ ∧ _›
  go_wp2
  go_ret
  exact ⟨rfl, belowStep B10 q11⟩
end Go.Proofs.Ytalalbhhlbeghaa
