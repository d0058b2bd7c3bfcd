/- Several texts in one: BitsLz, RCommon, Common02, TurnedR, Lowest02. -/
import Derived.Test.YtdonecnhdkjniaaGreatDoorGy13
set_option maxRecDepth 100000
set_option maxHeartbeats 8000000
namespace Go.Proofs.YtdonecnhdkjniaaGreatDoor

def bz (x : Int) : Nat := bitsI (Za x.natAbs)
open Go.RowKit




theorem YB : (Tryz.prog.info? 26).map (·.size) = some 4 := by kernel_rfl
structure ZG (w : World) (base : Nat) (v : Value) (n d : Int) : Prop where
 form : ∃ A c B e, v = .agg #[.bool (decide (n < 0)), .slice A (Za n.natAbs).length c, .bool (decide (d < 0)), .slice B (Za d.natAbs).length e] /\ Zc w base (.agg #[.bool (decide (n < 0)), .slice A (Za n.natAbs).length c]) n /\ Zc w base (.agg #[.bool (decide (d < 0)), .slice B (Za d.natAbs).length e]) d
theorem ZG.kept {B : Nat} {Ts : List TypeId} {w w' : World} {base : Nat} {v : Value} {n d : Int} (h : ZG w base v n d) (k : Zq B Ts w w') (hT : 109 ∉ Ts) : ZG w' base v n d := by
 obtain ⟨A, c, B, e, h1, h2, h3⟩ := h.form
 exact ⟨A, c, B, e, h1, h2.kept k hT, h3.kept k hT⟩
theorem ZG.at_ {w : World} {base : Nat} {v : Value} {n d : Int} (h : ZG w base v n d) : ZV w v n d := by
 obtain ⟨A, c, B, e, h1, h2, h3⟩ := h.form
 exact ⟨A, c, B, e, h1, h2.rawAt, h3.rawAt⟩
theorem ZG.cells {w : World} {base : Nat} {v : Value} {n d : Int} (h : ZG w base v n d) : CellsN v 4 := by
 obtain ⟨A, c, B, e, rfl, -⟩ := h.form
 exact ⟨rfl, by simp [Value.cells, Value.oneCell']⟩

end Go.Proofs.YtdonecnhdkjniaaGreatDoor
