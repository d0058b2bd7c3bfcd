/- Several texts in one: ReckW. -/
import Derived.Test.YtdonecnhdkjniaaGreatDoorGx33
set_option maxRecDepth 100000
set_option maxHeartbeats 8000000
namespace Go.Proofs.YtdonecnhdkjniaaGreatDoor
open Go.RowKit

structure GRV (w : World) (g : Nat) (T : TypeId) (n1 n2 n3 n4 : Bool) (A : Option Addr) (c : Nat) (B : Option Addr) (e : Nat) (C : Option Addr) (k : Nat) (D : Option Addr) (l : Nat) (xs ys us vs : List Nat) : Prop where
 oct : Yl w g T (.bool n1) (.slice A xs.length c) (.bool n2) (.slice B ys.length e) (.bool n3) (.slice C us.length k) (.bool n4) (.slice D vs.length l)
 at_ : ZR w (.agg #[.bool n1, .slice A xs.length c, .bool n2, .slice B ys.length e, .bool n3, .slice C us.length k, .bool n4, .slice D vs.length l]) n1 n2 n3 n4 xs ys us vs
theorem GRV.below {w w' : World} {g : Nat} {T : TypeId} {n1 n2 n3 n4 : Bool} {A : Option Addr} {c : Nat} {B : Option Addr} {e : Nat} {C : Option Addr} {k : Nat} {D : Option Addr} {l : Nat} {xs ys us vs : List Nat} (h : GRV w g T n1 n2 n3 n4 A c B e C k D l xs ys us vs) (hb : Below w.heap.size w w') : GRV w' g T n1 n2 n3 n4 A c B e C k D l xs ys us vs := ⟨h.oct.below hb, h.at_.below hb⟩
theorem left_gauss_t {lo : Nat} {n1 n2 n3 n4 : Bool} {xs ys us vs : List Nat} {g1 g2 g3 g4 : Nat} {w : World} {v_x : Value} (h : YZ lo n1 n2 n3 n4 xs ys us vs (.agg #[.bool n1, .slice (some ⟨g1, 0, none⟩) xs.length (xs.length + 1), .bool n2, .slice (some ⟨g2, 0, none⟩) ys.length (ys.length + 1), .bool n3, .slice (some ⟨g3, 0, none⟩) us.length (us.length + 1), .bool n4, .slice (some ⟨g4, 0, none⟩) vs.length (vs.length + 1)]) w) (g_x : ZR w v_x n1 n2 n3 n4 xs ys us vs) (hl : (xs.length <= 1048576 /\ ys.length <= 1048576) /\ us.length <= 1048576 /\ vs.length <= 1048576) :
  Calls Tryz.prog 13 #[.agg #[.bool n1, .slice (some ⟨g1, 0, none⟩) xs.length (xs.length + 1), .bool n2, .slice (some ⟨g2, 0, none⟩) ys.length (ys.length + 1), .bool n3, .slice (some ⟨g3, 0, none⟩) us.length (us.length + 1), .bool n4, .slice (some ⟨g4, 0, none⟩) vs.length (vs.length + 1)], v_x] w fun e w' => e = .returned (.bool true) /\ Below w.heap.size w w' := by
 obtain ⟨a1, a2, a3, a4, e, h1, h2, h3, h4, -⟩ := h.form
 simp at e
 obtain ⟨rfl, rfl, rfl, rfl⟩ := e
 exact left_gauss n1 n2 n3 n4 xs ys us vs g1 g2 g3 g4 w v_x h1 h2 h3 h4 g_x hl.1.1 hl.1.2 hl.2.1 hl.2.2
structure LoopG (w0 wr : World) (b i : Nat) : Prop where
 form : ∃ rs : List Value, rs.length + 12 = 12 * i /\ Kept wr b rs /\ ZC wr w0.heap.size rs /\ Below w0.heap.size w0 wr

end Go.Proofs.YtdonecnhdkjniaaGreatDoor
