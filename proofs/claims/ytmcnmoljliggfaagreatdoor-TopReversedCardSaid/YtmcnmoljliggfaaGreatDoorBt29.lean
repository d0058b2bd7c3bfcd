/- Several texts in one: ArgandLaw, Gauss, Ref03, Ref03Law, ArgandAns. -/
import Derived.Test.YtmcnmoljliggfaaGreatDoorBt28
set_option maxRecDepth 100000
set_option maxHeartbeats 8000000
/- Package argand as operations of pairs of rational numbers. -/
namespace Go.Proofs.YtmcnmoljliggfaaGreatDoor
open Go.RowKit

section
variable {a b c e : Rat} {n d m f p q r s N D M E : Int}
end
/- May, Nought, Answer of argand; package gauss. (Written by wip/gauss/gengauss.py.) -/

def zeroG : Value := .agg #[.bool false, .slice none 0 0, .bool false, .slice none 0 0, .bool false, .slice none 0 0, .bool false, .slice none 0 0]
abbrev MayG (F : FuncId) (n1 n2 n3 n4 : Bool) (xs ys us vs : List Nat) (b : Bool) : Prop := ∀ (V : World) (v : Value), GaussRaw V v n1 n2 n3 n4 xs ys us vs → Calls Tryz.prog F #[v] V fun e w' => e = .returned (.bool b) ∧ Below V.heap.size V w'
abbrev NoughtG (F : FuncId) (n d m f : Int) (b : Bool) : Prop := ∀ (V : World) (v : Value), GaussAt V v n d m f → Calls Tryz.prog F #[v] V fun e w' => e = .returned (.bool b) ∧ Below V.heap.size V w'
abbrev OpGR2 (F : FuncId) (n1 n2 n3 n4 : Bool) (xs ys us vs : List Nat) (m1 m2 m3 m4 : Bool) (ps qs rs ts : List Nat) (N D M E k : Int) : Prop := ∀ (V : World) (v1 v2 : Value), GaussRaw V v1 n1 n2 n3 n4 xs ys us vs → GaussRaw V v2 m1 m2 m3 m4 ps qs rs ts → Calls Tryz.prog F #[v1, v2] V (RetGaussOwn2 V.heap.size V N D M E k)
abbrev OpG2 (F : FuncId) (n d m f p q r s N D M E k : Int) : Prop := ∀ (V : World) (v1 v2 : Value), GaussAt V v1 n d m f → GaussAt V v2 p q r s → Calls Tryz.prog F #[v1, v2] V (RetGaussOwn2 V.heap.size V N D M E k)

/- The references of chapter 03. (Written by wip/gauss/genref03.py.) -/

/- The references of chapter 03 as operations of pairs of rational numbers. -/

section
variable {a b c e : Rat} {n d m f p q r s N D M E : Int}
end
/- Long of two fractions; Answer of argand at one number. (Written by wip/gauss/genans.py.) -/

end Go.Proofs.YtmcnmoljliggfaaGreatDoor
