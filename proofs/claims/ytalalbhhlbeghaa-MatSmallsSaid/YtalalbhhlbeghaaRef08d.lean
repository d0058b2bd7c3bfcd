/- Contracts of the document's matrices: Power, Chain, Like, over any ring of things. -/
import Derived.Test.YtalalbhhlbeghaaRef08c
import Derived.Test.YtalalbhhlbeghaaBits
namespace Go.Proofs.Ytalalbhhlbeghaa
open Go.RowKit
attribute [local go_sem] run_store_complex

def matEq (m n : M4) : Bool := m.a == n.a && m.b == n.b && m.c == n.c && m.d == n.d
theorem matEq_self (m : M4) : matEq m m = true := by simp [matEq]

set_option maxRecDepth 100000 in
set_option maxHeartbeats 2000000 in
theorem r_Like {k : Int} {R : Rng} (H : RefRing k R) (m n : M4) (w : World) :
    Calls Try.prog 37 #[matR k m, matR k n] w fun e w' => e = .returned (.bool (matEq m n)) ∧ Below w.heap.size w w' := by
  have HR := Lib.hid H
  clear H
  have p0 := (Blk.new w 60 (matC k m)).alloc (.cells (matC k n) 60)
  have p1 := Blk.new (w.alloc (.cells (matC k m) 60)) 60 (matC k n)
  simp only [World.size_alloc] at p1
  have hB := ((Below.refl w.heap.size w).alloc (Nat.le_refl _) (.cells (matC k m) 60)).alloc (by simp) (.cells (matC k n) 60)
  have hm : matEq m n = (m.a == n.a && m.b == n.b && m.c == n.c && m.d == n.d) := rfl
  have HM := Lib.hid hm
  clear hm
  go_enter Try.func37, Try.ntmps37
  generalize ea : (m.a == n.a) = ba at HM
  generalize eb : (m.b == n.b) = bb at HM
  generalize ec : (m.c == n.c) = bc at HM
  generalize ed : (m.d == n.d) = bd at HM
  have A1 := Lib.hid (fun V => HR.out.like m.a n.a V)
  have A2 := Lib.hid (fun V => HR.out.like m.b n.b V)
  have A3 := Lib.hid (fun V => HR.out.like m.c n.c V)
  have A4 := Lib.hid (fun V => HR.out.like m.d n.d V)
  rw [ea] at A1
  rw [eb] at A2
  rw [ec] at A3
  rw [ed] at A4
  clear ea eb ec ed
  go_wp2_with fail
  refine (A1.out _).mono ?_
  rintro e V1 ⟨rfl, h1⟩
  have q0 := p0.below h1 p0.lt
  have q1 := p1.below h1 p1.lt
  have B1 := hB.trans (h1.mono hB.size)
  clear p0 p1 hB h1
  have d0 := q0.cell 3
  have d1 := q0.cell 4
  have d2 := q0.cell 5
  have g0 := q1.cell 3
  have g1 := q1.cell 4
  have g2 := q1.cell 5
  simp at d0 d1 d2 g0 g1 g2
  cases ba
  · go_wp2
    go_ret
    exact ⟨by rw [HM.out]; rfl, B1⟩
  go_wp2_with fail
  refine (A2.out _).mono ?_
  rintro e V2 ⟨rfl, h1⟩
  have q0 := q0.below h1 q0.lt
  have q1 := q1.below h1 q1.lt
  have B2 := B1.trans (h1.mono B1.size)
  clear B1 h1 d0 d1 d2 g0 g1 g2
  have d0 := q0.cell 6
  have d1 := q0.cell 7
  have d2 := q0.cell 8
  have g0 := q1.cell 6
  have g1 := q1.cell 7
  have g2 := q1.cell 8
  simp at d0 d1 d2 g0 g1 g2
  cases bb
  · go_wp2
    go_ret
    exact ⟨by rw [HM.out]; rfl, B2⟩
  go_wp2_with fail
  refine (A3.out _).mono ?_
  rintro e V3 ⟨rfl, h1⟩
  have q0 := q0.below h1 q0.lt
  have q1 := q1.below h1 q1.lt
  have B3 := B2.trans (h1.mono B2.size)
  clear B2 h1 d0 d1 d2 g0 g1 g2
  have d0 := q0.cell 9
  have d1 := q0.cell 10
  have d2 := q0.cell 11
  have g0 := q1.cell 9
  have g1 := q1.cell 10
  have g2 := q1.cell 11
  simp at d0 d1 d2 g0 g1 g2
  cases bc
  · go_wp2
    go_ret
    exact ⟨by rw [HM.out]; rfl, B3⟩
  go_wp2_with fail
  refine (A4.out _).mono ?_
  rintro e V4 ⟨rfl, h1⟩
  have B4 := B3.trans (h1.mono B3.size)
  go_wp2
  go_ret
  exact ⟨by rw [HM.out]; rfl, B4⟩
end Go.Proofs.Ytalalbhhlbeghaa
