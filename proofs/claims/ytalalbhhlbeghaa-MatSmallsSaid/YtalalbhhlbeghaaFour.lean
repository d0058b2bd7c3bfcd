/- A Four by value, as it is read and as it is given back. -/
import Derived.Test.YtalalbhhlbeghaaMatPlain
import Derived.WalkKit
import Derived.ProofKit
import Derived.OpenShut
import Derived.Lib.SmallJoins
namespace Go.Proofs.Ytalalbhhlbeghaa
open Go.ChangeShapes Go.WideShapes Go.ChangeAt Go.RowKit Go.Joins

theorem Try.own : ownKnob Try.prog.godebug = none := by kernel_rfl
theorem Try.cells23 : Try.prog.cellsOf 23 = 4 := by kernel_rfl

/-- A matrix as the program holds it. -/
abbrev mv (m : M4) : Value := .agg #[.int .i64 m.a, .int .i64 m.b, .int .i64 m.c, .int .i64 m.d]

theorem wf64 {a : Int} (h : (Lit.int .i64 a).wf = true) : -9223372036854775808 ≤ a ∧ a ≤ 9223372036854775807 := by
  simpa [Lit.wf, IntKind.min, IntKind.max, IntKind.bits, IntKind.signed] using h

theorem wrap64_of_wf {a : Int} (h : (Lit.int .i64 a).wf = true) : wrap64 a = a := by
  obtain ⟨h1, h2⟩ := wf64 h
  unfold wrap64; omega

/-- A Four as data. -/
def fourD {H : Type} (m : M4) : DataW H := .agg [.lit (.int .i64 m.a), .lit (.int .i64 m.b), .lit (.int .i64 m.c), .lit (.int .i64 m.d)]

structure M4.Wf (m : M4) : Prop where
  a : (Lit.int .i64 m.a).wf = true
  b : (Lit.int .i64 m.b).wf = true
  c : (Lit.int .i64 m.c).wf = true
  d : (Lit.int .i64 m.d).wf = true
theorem M4.Wf.ok {m : M4} (h : m.Wf) : m.ok := ⟨wrap64_of_wf h.a, wrap64_of_wf h.b, wrap64_of_wf h.c, wrap64_of_wf h.d⟩

set_option maxRecDepth 100000 in
theorem open_four {H : Type} {enc : TypeId × Value → H} {w : World} {base b0 : Nat} {spare : Nat → Bool} {held : Bool} {v : Value} {d : DataW H} {p : List MemPlace}
    (hv : Value.okWide Try.prog w .any b0 23 v) (h : DataW.Trod enc Try.prog w base spare held 23 v d p) :
    ∃ m : M4, v = mv m ∧ d = fourD m ∧ p = [] ∧ m.Wf := by
  obtain ⟨c0, c1, c2, c3, y0, y1, y2, y3, n, rfl, rfl, rfl, hy0, hy1, hy2, hy3⟩ := open_agg4 Try.underlying23 (by kernel_rfl) Try.cells23 hv h
  obtain ⟨a, e0, rfl, wa⟩ := DataW.trod_int Try.underlying2 hy0
  obtain ⟨b, e1, rfl, wb⟩ := DataW.trod_int Try.underlying2 hy1
  obtain ⟨c, e2, rfl, wc⟩ := DataW.trod_int Try.underlying2 hy2
  obtain ⟨d, e3, rfl, wd⟩ := DataW.trod_int Try.underlying2 hy3
  simp at e0 e1 e2 e3
  subst e0 e1 e2 e3
  exact ⟨⟨a, b, c, d⟩, rfl, rfl, rfl, wa, wb, wc, wd⟩

set_option maxRecDepth 100000 in
theorem shut_four {H : Type} {enc : TypeId × Value → H} {w : World} {base : Nat} {spare : Nat → Bool} {held : Bool} {m : M4} (hm : m.Wf) :
    DataW.Trod enc Try.prog w base spare held 23 (mv m) (fourD m) [] :=
  shut_agg4 (y0 := (.lit (.int .i64 m.a), [])) (y1 := (.lit (.int .i64 m.b), [])) (y2 := (.lit (.int .i64 m.c), [])) (y3 := (.lit (.int .i64 m.d), [])) Try.underlying23 (by kernel_rfl) Try.cells23
    ⟨1, by simp [DataW.trod, Try.underlying2, hm.a]⟩ ⟨1, by simp [DataW.trod, Try.underlying2, hm.b]⟩ ⟨1, by simp [DataW.trod, Try.underlying2, hm.c]⟩ ⟨1, by simp [DataW.trod, Try.underlying2, hm.d]⟩
end Go.Proofs.Ytalalbhhlbeghaa
