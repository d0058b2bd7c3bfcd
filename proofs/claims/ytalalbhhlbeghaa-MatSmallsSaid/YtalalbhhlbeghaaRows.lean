/-
  No cell of these rows narrows 'for every input' (looked for: loops, veiled, ifaces, maps, wideKeys, modest, calm, conditions, laid).
  DERIVED. THE GIVEN ROWS OF THIS SEAT. 6 by the template 'for every input the law returns true; each argument reads behind the call as it read before'; 0 by the template 'total and deterministic' (their statements: YtalalbhhlbeghaaTotals.lean).
  GIVEN WITH THE SEED: the statements are not yours to turn. If you find one false, say at which input.
  Laid BY PROGRAM, IN A SANDBOX (cutbox-rows.mjs): the forced cells as the released guide's own fill.sh prints them over the translation 596f0b99b8226cd5… (all of the seat's roots in one cut). By AI agents, Wed Nov 11 2026. No macro, syntax, notation, axiom, sorry.
-/
import Derived.Test.YtalalbhhlbeghaaChecked
import GoSem.Claim
import GoSem.ClaimJoined
import GoSem.ClaimMapViews
import Derived.JoinedTies
import Derived.KernelRfl
namespace Go.Proofs.Ytalalbhhlbeghaa
/- THE CELL 'sum', in the pinned program and in every row, IS THE sha256 OF THE DUMP (.gsa) THAT YtalalbhhlbeghaaProg.lean LOADS. Nothing in Lean hashes anything: it is a label: what it is worth is what the hold of that sum in a sandbox is worth. -/
noncomputable def Try.pinned : Pinned := { name := "ytalalbhhlbeghaa", sum := "596f0b99b8226cd57f79bfe1432f37ec3162ae36958a1a9caf1e7b2cdceff7d9", checked := Try.checked }
namespace Rows
def none {H : Type} : Left H := { results := [], args := [] }

/-- 'polestarlaw08.MatRing': WHATEVER THE INPUT: true; the input reads as it did. -/
def matRingSpec : ChangeSpec := { name := "matRing", fn := fun _ => fun
  | [d1, d2, d3] => { results := [.lit (.bool true)], args := [d1, d2, d3] }
  | _ => none }
def matRingRow : OpenClaim := { program := "ytalalbhhlbeghaa", sum := "596f0b99b8226cd57f79bfe1432f37ec3162ae36958a1a9caf1e7b2cdceff7d9", func := "polestar/polestarlaw08.MatRing", spec := "matRing", unfollowed := true, recurses := true, apart := false }
def MatRingSaid : Prop := matRingRow.holds Try.pinned (OpenSpec.ofChange matRingSpec)

/-- ITS FALSE NEIGHBOUR: 'it returns false'. Refute it at one input. -/
def matRingWrong : ChangeSpec := { name := "matRing", fn := fun _ => fun
  | [d1, d2, d3] => { results := [.lit (.bool false)], args := [d1, d2, d3] }
  | _ => none }
def MatRingWrongFalsely : Prop := matRingRow.holds Try.pinned (OpenSpec.ofChange matRingWrong)

/-- 'polestarlaw08.MatPowers': WHATEVER THE INPUT: true; the input reads as it did. -/
def matPowersSpec : ChangeSpec := { name := "matPowers", fn := fun _ => fun
  | [d1, d2, d3, d4, d5] => { results := [.lit (.bool true)], args := [d1, d2, d3, d4, d5] }
  | _ => none }
def matPowersRow : OpenClaim := { program := "ytalalbhhlbeghaa", sum := "596f0b99b8226cd57f79bfe1432f37ec3162ae36958a1a9caf1e7b2cdceff7d9", func := "polestar/polestarlaw08.MatPowers", spec := "matPowers", unfollowed := true, recurses := true, apart := false }
def MatPowersSaid : Prop := matPowersRow.holds Try.pinned (OpenSpec.ofChange matPowersSpec)

/-- ITS FALSE NEIGHBOUR: 'it returns false'. Refute it at one input. -/
def matPowersWrong : ChangeSpec := { name := "matPowers", fn := fun _ => fun
  | [d1, d2, d3, d4, d5] => { results := [.lit (.bool false)], args := [d1, d2, d3, d4, d5] }
  | _ => none }
def MatPowersWrongFalsely : Prop := matPowersRow.holds Try.pinned (OpenSpec.ofChange matPowersWrong)

/-- 'polestarlaw08.MatNames': WHATEVER THE INPUT: true; the input reads as it did. -/
def matNamesSpec : ChangeSpec := { name := "matNames", fn := fun _ => fun
  | [] => { results := [.lit (.bool true)], args := [] }
  | _ => none }
def matNamesRow : OpenClaim := { program := "ytalalbhhlbeghaa", sum := "596f0b99b8226cd57f79bfe1432f37ec3162ae36958a1a9caf1e7b2cdceff7d9", func := "polestar/polestarlaw08.MatNames", spec := "matNames", inPlace := ["math.Float64bits"], unfollowed := true, recurses := true, apart := false }
def MatNamesSaid : Prop := matNamesRow.holds Try.pinned (OpenSpec.ofChange matNamesSpec)

/-- ITS FALSE NEIGHBOUR: 'it returns false'. Refute it at one input. -/
def matNamesWrong : ChangeSpec := { name := "matNames", fn := fun _ => fun
  | [] => { results := [.lit (.bool false)], args := [] }
  | _ => none }
def MatNamesWrongFalsely : Prop := matNamesRow.holds Try.pinned (OpenSpec.ofChange matNamesWrong)

/-- 'polestarlaw08.MatWraps': WHATEVER THE INPUT: true; the input reads as it did. -/
def matWrapsSpec : ChangeSpec := { name := "matWraps", fn := fun _ => fun
  | [d1, d2, d3, d4, d5] => { results := [.lit (.bool true)], args := [d1, d2, d3, d4, d5] }
  | _ => none }
def matWrapsRow : OpenClaim := { program := "ytalalbhhlbeghaa", sum := "596f0b99b8226cd57f79bfe1432f37ec3162ae36958a1a9caf1e7b2cdceff7d9", func := "polestar/polestarlaw08.MatWraps", spec := "matWraps", inPlace := ["math.Float64bits"], unfollowed := true, recurses := true, apart := false }
def MatWrapsSaid : Prop := matWrapsRow.holds Try.pinned (OpenSpec.ofChange matWrapsSpec)

/-- ITS FALSE NEIGHBOUR: 'it returns false'. Refute it at one input. -/
def matWrapsWrong : ChangeSpec := { name := "matWraps", fn := fun _ => fun
  | [d1, d2, d3, d4, d5] => { results := [.lit (.bool false)], args := [d1, d2, d3, d4, d5] }
  | _ => none }
def MatWrapsWrongFalsely : Prop := matWrapsRow.holds Try.pinned (OpenSpec.ofChange matWrapsWrong)

/-- 'polestarlaw08.MatSmalls': WHATEVER THE INPUT: true; the input reads as it did. -/
def matSmallsSpec : ChangeSpec := { name := "matSmalls", fn := fun _ => fun
  | [d1, d2, d3, d4, d5] => { results := [.lit (.bool true)], args := [d1, d2, d3, d4, d5] }
  | _ => none }
def matSmallsRow : OpenClaim := { program := "ytalalbhhlbeghaa", sum := "596f0b99b8226cd57f79bfe1432f37ec3162ae36958a1a9caf1e7b2cdceff7d9", func := "polestar/polestarlaw08.MatSmalls", spec := "matSmalls", inPlace := ["math.Float64bits"], unfollowed := true, recurses := true, apart := false }
def MatSmallsSaid : Prop := matSmallsRow.holds Try.pinned (OpenSpec.ofChange matSmallsSpec)

/-- ITS FALSE NEIGHBOUR: 'it returns false'. Refute it at one input. -/
def matSmallsWrong : ChangeSpec := { name := "matSmalls", fn := fun _ => fun
  | [d1, d2, d3, d4, d5] => { results := [.lit (.bool false)], args := [d1, d2, d3, d4, d5] }
  | _ => none }
def MatSmallsWrongFalsely : Prop := matSmallsRow.holds Try.pinned (OpenSpec.ofChange matSmallsWrong)

/-- 'polestarlaw08.MatOrders': WHATEVER THE INPUT: true; the input reads as it did. -/
def matOrdersSpec : ChangeSpec := { name := "matOrders", fn := fun _ => fun
  | [d1, d2, d3, d4, d5] => { results := [.lit (.bool true)], args := [d1, d2, d3, d4, d5] }
  | _ => none }
def matOrdersRow : OpenClaim := { program := "ytalalbhhlbeghaa", sum := "596f0b99b8226cd57f79bfe1432f37ec3162ae36958a1a9caf1e7b2cdceff7d9", func := "polestar/polestarlaw08.MatOrders", spec := "matOrders", inPlace := ["math.Float64bits"], unfollowed := true, recurses := true, apart := false }
def MatOrdersSaid : Prop := matOrdersRow.holds Try.pinned (OpenSpec.ofChange matOrdersSpec)

/-- ITS FALSE NEIGHBOUR: 'it returns false'. Refute it at one input. -/
def matOrdersWrong : ChangeSpec := { name := "matOrders", fn := fun _ => fun
  | [d1, d2, d3, d4, d5] => { results := [.lit (.bool false)], args := [d1, d2, d3, d4, d5] }
  | _ => none }
def MatOrdersWrongFalsely : Prop := matOrdersRow.holds Try.pinned (OpenSpec.ofChange matOrdersWrong)

/- THE SECOND FORM. 'bulk': how many values and letters a reading holds, each counted each time it is reached (what is shared counts as often as it is met; a slice's spare places count too). A statement '..UptoSaid' is the law's where the arguments, and the package variables that the reading takes, are together of bulk at most 1048576: NARROWER than '..Said'. Prove '..Said' where nothing that the law and all that it calls make is longer than what came in: it says more and counts as full. Else prove '..UptoSaid'. A law counts once. -/
mutual
def uptoBulk {H : Type} : DataW H → Nat
  | .lit (.string bytes) => bytes.length + 1
  | .lit _ => 1
  | .nil => 1
  | .ptr d => uptoBulk d + 1
  | .slice elems spare => uptoBulkAll elems + uptoBulkAll spare + 1
  | .agg parts => uptoBulkAll parts + 1
  | .iface _ d => uptoBulk d + 1
  | .map entries => uptoBulkEntries entries + 1
  | .held _ => 1
def uptoBulkAll {H : Type} : List (DataW H) → Nat
  | [] => 0
  | d :: r => uptoBulk d + uptoBulkAll r
def uptoBulkEntries {H : Type} : List (Lit × DataW H) → Nat
  | [] => 0
  | x :: r => uptoBulkEntry x + uptoBulkEntries r
def uptoBulkEntry {H : Type} : Lit × DataW H → Nat
  | (.string bytes, d) => bytes.length + uptoBulk d + 1
  | (_, d) => uptoBulk d + 1
 end
def uptoSmall : (H : Type) → List (DataW H) → Bool := fun _ ds => decide (uptoBulkAll ds ≤ 1048576)
def OpenSpec.upto (s : _root_.Go.ChangeSpec) : _root_.Go.OpenSpec := { _root_.Go.OpenSpec.ofChange s with cond := some uptoSmall }

/-- 'polestarlaw08.MatRing', WHERE WHAT IT READS IS OF BULK AT MOST 1048576: true; the input reads as it did. -/
def matRingUptoRow : OpenClaim := { program := "ytalalbhhlbeghaa", sum := "596f0b99b8226cd57f79bfe1432f37ec3162ae36958a1a9caf1e7b2cdceff7d9", func := "polestar/polestarlaw08.MatRing", spec := "matRing", unfollowed := true, recurses := true, apart := false, narrowed := true }
def MatRingUptoSaid : Prop := matRingUptoRow.holds Try.pinned (OpenSpec.upto matRingSpec)

/-- 'polestarlaw08.MatPowers', WHERE WHAT IT READS IS OF BULK AT MOST 1048576: true; the input reads as it did. -/
def matPowersUptoRow : OpenClaim := { program := "ytalalbhhlbeghaa", sum := "596f0b99b8226cd57f79bfe1432f37ec3162ae36958a1a9caf1e7b2cdceff7d9", func := "polestar/polestarlaw08.MatPowers", spec := "matPowers", unfollowed := true, recurses := true, apart := false, narrowed := true }
def MatPowersUptoSaid : Prop := matPowersUptoRow.holds Try.pinned (OpenSpec.upto matPowersSpec)

/-- 'polestarlaw08.MatNames', WHERE WHAT IT READS IS OF BULK AT MOST 1048576: true; the input reads as it did. -/
def matNamesUptoRow : OpenClaim := { program := "ytalalbhhlbeghaa", sum := "596f0b99b8226cd57f79bfe1432f37ec3162ae36958a1a9caf1e7b2cdceff7d9", func := "polestar/polestarlaw08.MatNames", spec := "matNames", inPlace := ["math.Float64bits"], unfollowed := true, recurses := true, apart := false, narrowed := true }
def MatNamesUptoSaid : Prop := matNamesUptoRow.holds Try.pinned (OpenSpec.upto matNamesSpec)

/-- 'polestarlaw08.MatWraps', WHERE WHAT IT READS IS OF BULK AT MOST 1048576: true; the input reads as it did. -/
def matWrapsUptoRow : OpenClaim := { program := "ytalalbhhlbeghaa", sum := "596f0b99b8226cd57f79bfe1432f37ec3162ae36958a1a9caf1e7b2cdceff7d9", func := "polestar/polestarlaw08.MatWraps", spec := "matWraps", inPlace := ["math.Float64bits"], unfollowed := true, recurses := true, apart := false, narrowed := true }
def MatWrapsUptoSaid : Prop := matWrapsUptoRow.holds Try.pinned (OpenSpec.upto matWrapsSpec)

/-- 'polestarlaw08.MatSmalls', WHERE WHAT IT READS IS OF BULK AT MOST 1048576: true; the input reads as it did. -/
def matSmallsUptoRow : OpenClaim := { program := "ytalalbhhlbeghaa", sum := "596f0b99b8226cd57f79bfe1432f37ec3162ae36958a1a9caf1e7b2cdceff7d9", func := "polestar/polestarlaw08.MatSmalls", spec := "matSmalls", inPlace := ["math.Float64bits"], unfollowed := true, recurses := true, apart := false, narrowed := true }
def MatSmallsUptoSaid : Prop := matSmallsUptoRow.holds Try.pinned (OpenSpec.upto matSmallsSpec)

/-- 'polestarlaw08.MatOrders', WHERE WHAT IT READS IS OF BULK AT MOST 1048576: true; the input reads as it did. -/
def matOrdersUptoRow : OpenClaim := { program := "ytalalbhhlbeghaa", sum := "596f0b99b8226cd57f79bfe1432f37ec3162ae36958a1a9caf1e7b2cdceff7d9", func := "polestar/polestarlaw08.MatOrders", spec := "matOrders", inPlace := ["math.Float64bits"], unfollowed := true, recurses := true, apart := false, narrowed := true }
def MatOrdersUptoSaid : Prop := matOrdersUptoRow.holds Try.pinned (OpenSpec.upto matOrdersSpec)

end Rows
end Go.Proofs.Ytalalbhhlbeghaa
