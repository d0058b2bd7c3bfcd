/- Several texts in one: WrapI, May, Ints, FMake, RefInt64. -/
import Derived.Test.YtdonecnhdkjniaaGreatDoorGx17
set_option maxRecDepth 100000
set_option maxHeartbeats 8000000
namespace Go.Proofs.YtdonecnhdkjniaaGreatDoor
open Go.RowKit


abbrev Num := Bool × Option Addr × Nat × List Nat
def cellsNum (l : List Num) : List Value := l.flatMap fun m => [.bool m.1, .slice m.2.1 m.2.2.2.length m.2.2.1]
def okNum (m : Num) : Bool := okI m.1 m.2.2.2

def Fit (x : Int) : Prop := (Za x.natAbs).length <= 2048
instance (x : Int) : Decidable (Fit x) := inferInstanceAs (Decidable ((Za x.natAbs).length <= 2048))
theorem Fit.ok {x : Int} (h : Fit x) : okI (decide (x < 0)) (Za x.natAbs) = true := by
 refine okI_true.2 ⟨h, ZB _, fun e => ?_⟩
 have := Ym.1 e
 exact decide_eq_false (by omega)
theorem ok_num {n : Bool} {xs : List Nat} (hl : Zj xs) (o : okI n xs = true) : n = decide (Zv n xs < 0) /\ xs = Za (Zv n xs).natAbs /\ Fit (Zv n xs) := by
 obtain ⟨o1, o2, o3⟩ := okI_true.1 o
 have ha : (Zv n xs).natAbs = val xs := by unfold Zv; split <;> omega
 have h2 : xs = Za (Zv n xs).natAbs := by rw [ha]; exact (YU hl o2).symm
 refine ⟨?_, h2, by unfold Fit; rw [<- h2]; exact o1⟩
 by_cases hx : xs = []
 . subst hx
   rw [o3 rfl]; rfl
 . have hp : 0 < val xs := by
    rcases Nat.eq_zero_or_pos (val xs) with h0 | h0
    . have := YU hl o2
      rw [h0, Z8] at this
      exact absurd this.symm hx
    . exact h0
   unfold Zv
   cases n <;> simp <;> omega
def RetN2 (w : World) (z k : Int) (e : Ending) (w' : World) : Prop := ∃ A c, e = .returned (.tuple #[.agg #[.bool (decide (z < 0)), .slice A (Za z.natAbs).length c], .int .i64 k]) /\ Zm w' A c (Za z.natAbs) /\ Below w.heap.size w w'
def RetN3 (w : World) (z1 z2 k : Int) (e : Ending) (w' : World) : Prop := ∃ A c B d, e = .returned (.tuple #[.agg #[.bool (decide (z1 < 0)), .slice A (Za z1.natAbs).length c], .agg #[.bool (decide (z2 < 0)), .slice B (Za z2.natAbs).length d], .int .i64 k]) /\ Zm w' A c (Za z1.natAbs) /\ Zm w' B d (Za z2.natAbs) /\ Below w.heap.size w w'
def RetN1 (w : World) (z : Int) (e : Ending) (w' : World) : Prop := ∃ A c, e = .returned (.agg #[.bool (decide (z < 0)), .slice A (Za z.natAbs).length c]) /\ Zm w' A c (Za z.natAbs) /\ Below w.heap.size w w'
section
variable (x y z : Int) (A B : Option Addr) (c d : Nat) (hx : Fit x) (hy : Fit y) (w : World) (h : Zm w A c (Za x.natAbs)) (g : Zm w B d (Za y.natAbs))
include hx hy h g
end

theorem lowN_lz (n d : Int) : lz (YX n d) <= lz n := by
 unfold YX
 split
 . rw [show lz (-(n.tdiv (ZL n d))) = lz (n.tdiv (ZL n d)) by unfold lz; rw [Int.natAbs_neg]]; exact JV _ _
 . exact JV _ _
theorem lowD_lz (n d : Int) : lz (YP n d) <= lz d := by
 unfold YP
 split
 . rw [show lz (-(d.tdiv (ZL n d))) = lz (d.tdiv (ZL n d)) by unfold lz; rw [Int.natAbs_neg]]; exact JV _ _
 . exact JV _ _

def mkOk (n1 n2 : Bool) (xs ys : List Nat) : Bool := okI n1 xs && okI n2 ys
def mkE (n1 n2 : Bool) (xs ys : List Nat) : Int := if mkOk n1 n2 xs ys then (if Zv n2 ys = 0 then 3 else 0) else 1
def mkN (n1 n2 : Bool) (xs ys : List Nat) : Int := if mkOk n1 n2 xs ys then (if Zv n2 ys = 0 then 0 else YX (Zv n1 xs) (Zv n2 ys)) else 0
def mkD (n1 n2 : Bool) (xs ys : List Nat) : Int := if mkOk n1 n2 xs ys then (if Zv n2 ys = 0 then 0 else YP (Zv n1 xs) (Zv n2 ys)) else 0

end Go.Proofs.YtdonecnhdkjniaaGreatDoor
