/- Several texts in one: Grow, GrowW, Look, Apart, Up. -/
import Derived.Test.YtdonecnhdkjniaaGreatDoorGy20
set_option maxRecDepth 100000
set_option maxHeartbeats 8000000
namespace Go.Proofs.YtdonecnhdkjniaaGreatDoor
open Go.RowKit

structure Grown (w0 w : World) (b g0 cap m B0 : Nat) (l long : Nat -> Value) (n : Nat -> Nat) (i : Nat) : Prop where
 shelf : Shelf w0 w b g0 cap m B0 l long n (fun j => List.replicate (n j) (markU j))
 longs : ∀ j, j < i -> j < m -> w.ownsRow B0 tLimb 1 (long j) (n j + 70) (List.replicate (n j + 70) (markU j)) /\ ∀ g, (long j).ownBlock = some g -> (l j).ownBlock = some g ∨ (g0 < g /\ ∀ j', j' < m -> ∀ x, (l j').ownBlock = some x -> x < g)
 rest : ∀ j, i <= j -> long j = Xn
structure Growing (w0 w : World) (b g0 cap m B0 : Nat) (l long : Nat -> Value) (n : Nat -> Nat) (i Nh k : Nat) (v : Value) : Prop where
 grown : Grown w0 w b g0 cap m B0 l long n i
 copy : Z2 w Nh tHeld #[l i, Xn, .int .i64 ((i : Int) + 1)]
 row : w.ownsRow B0 tLimb 1 v (n i + k) (List.replicate (n i + k) (markU i))
 place : (∃ A c, l i = .slice A (n i) c /\ v = .slice A (n i + k) c) ∨ ∃ g, v.ownBlock = some g /\ Nh < g
 under : ∀ j, j < i -> j < m -> ∀ g, (long j).ownBlock = some g -> g < Nh
 old : ∀ j, j < m -> ∀ g, (l j).ownBlock = some g -> g < Nh
section
variable {w0 w w' : World} {b g0 cap m B0 : Nat} {l long : Nat -> Value} {n : Nat -> Nat} {i Nh k : Nat} {v v' : Value}
end




def RowsUp (w : World) : Nat -> List Value -> Nat -> Prop
 | lo, [], hi => lo <= hi
 | lo, v :: vs, hi => ∃ n X mid, n <= 1073741824 /\ w.ownsRow lo tLimb 1 v n X /\ (∀ g, v.ownBlock = some g -> g < mid) /\ lo <= mid /\ RowsUp w mid vs hi
end Go.Proofs.YtdonecnhdkjniaaGreatDoor
