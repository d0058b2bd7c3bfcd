/- Several texts in one: ReckW. -/
import Derived.Test.YtdonecnhdkjniaaGreatDoorGy29
set_option maxRecDepth 100000
set_option maxHeartbeats 8000000
namespace Go.Proofs.YtdonecnhdkjniaaGreatDoor
open Go.RowKit

structure GRV (w : World) (g : Nat) (T : TypeId) (n1 n2 n3 n4 : Bool) (A : Option Addr) (c : Nat) (B : Option Addr) (e : Nat) (C : Option Addr) (k : Nat) (D : Option Addr) (l : Nat) (xs ys us vs : List Nat) : Prop where
 oct : ZX w g T (.bool n1) (.slice A xs.length c) (.bool n2) (.slice B ys.length e) (.bool n3) (.slice C us.length k) (.bool n4) (.slice D vs.length l)
 at_ : ZC w (.agg #[.bool n1, .slice A xs.length c, .bool n2, .slice B ys.length e, .bool n3, .slice C us.length k, .bool n4, .slice D vs.length l]) n1 n2 n3 n4 xs ys us vs
theorem GRV.below {w w' : World} {g : Nat} {T : TypeId} {n1 n2 n3 n4 : Bool} {A : Option Addr} {c : Nat} {B : Option Addr} {e : Nat} {C : Option Addr} {k : Nat} {D : Option Addr} {l : Nat} {xs ys us vs : List Nat} (h : GRV w g T n1 n2 n3 n4 A c B e C k D l xs ys us vs) (hb : Below w.heap.size w w') : GRV w' g T n1 n2 n3 n4 A c B e C k D l xs ys us vs := ⟨h.oct.below hb, h.at_.below hb⟩
structure LoopG (w0 wr : World) (b i : Nat) : Prop where
 form : ∃ rs : List Value, rs.length + 12 = 12 * i /\ Kept wr b rs /\ RowsFree wr w0.heap.size rs /\ Below w0.heap.size w0 wr

end Go.Proofs.YtdonecnhdkjniaaGreatDoor
