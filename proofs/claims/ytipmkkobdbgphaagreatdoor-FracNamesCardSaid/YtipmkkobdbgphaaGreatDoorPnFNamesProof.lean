/- FracNames: the chapter's names. No condition. -/
import Derived.Test.YtipmkkobdbgphaaGreatDoorPnFNamesW
import Derived.Test.YtipmkkobdbgphaaGreatDoorCards
import Derived.Test.YtipmkkobdbgphaaGreatDoorTie
import Derived.Test.YtipmkkobdbgphaaGreatDoorPn40
import Derived.LaidSub
import Derived.MakeChecks
import Derived.Lib.LaidTab
import Derived.ProofKit
import Derived.OpenShut
import Derived.LaidMore
import Derived.Stop.Joined
import Derived.Deep.DeepHandedRow
import Derived.SevenTiedAt
import Derived.Lay
import Derived.LaidOnce
set_option maxRecDepth 100000
set_option maxHeartbeats 8000000
namespace Go.Proofs.YtipmkkobdbgphaaGreatDoor.fNamesProof
open Go.ChangeShapes Go.WideShapes Go.ChangeAt Go.RowKit


theorem pow_laid (W : World) (h : laidMetH Tryz.prog Rows.fracNamesRow.laid W) : powTab W := by
  have h2 := h.filter (fun x => x.1 == "internal/strconv.uint64pow10")
  have e : (Rows.fracNamesRow.laid.filter fun x => x.1 == "internal/strconv.uint64pow10") = [("internal/strconv.uint64pow10", Lib.tabData .u64 Lib.pow10Tab)] := by rfl
  rw [e, MakeChecks.laidMetH_plain _ _ _ (by rfl)] at h2
  exact Lib.tabIs_of_head (g := 6) (rest := []) (n := 20) (by kernel_rfl) (by kernel_rfl) (t := 306) Tryz.underlying306 Tryz.underlying64 (by kernel_rfl) (by kernel_rfl) h2
theorem tz_laid (W : World) (h : laidMetH Tryz.prog Rows.fracNamesRow.laid W) : tzTab W := by
  have h2 := h.filter (fun x => x.1 == "math/bits.deBruijn64tab")
  have e : (Rows.fracNamesRow.laid.filter fun x => x.1 == "math/bits.deBruijn64tab") = [("math/bits.deBruijn64tab", Lib.tabData .u8 (Lib.deBruijn64tab.map fun (n : Nat) => (n : Int)))] := by rfl
  rw [e, MakeChecks.laidMetH_plain _ _ _ (by rfl)] at h2
  exact Lib.tabIs_of_head (g := 1) (rest := []) (n := 64) (by kernel_rfl) (by kernel_rfl) (t := 229) Tryz.underlying229 Tryz.underlying5 (by kernel_rfl) (by kernel_rfl) h2
theorem own : ownKnob Tryz.prog.godebug = none := by kernel_rfl
theorem laidOut : laidOutB Tryz.prog = true := by kernel_rfl
theorem laid_met (os : Os) (args : Array Value) : laidMetH Tryz.prog Rows.fracNamesRow.laid ((World.laidAll Tryz.prog os Rows.fracNamesRow.laid).forCall (fun _ _ => 0) ⟨#[], args, []⟩).memory :=
  by rw [MakeChecks.laidMetH_plain _ _ _ (by kernel_rfl)]; exact laidMet_laidAll _ (by kernel_rfl) (by kernel_rfl)
theorem reads (os : Os) {H : Type} (enc : TypeId × Value → H) : ∃ x : List (DataW H) × List (DataW H) × List MemPlace, DataW.whole enc Tryz.prog ((World.laidAll Tryz.prog os Rows.fracNamesRow.laid).forCall (fun _ _ => 0) ⟨#[], #[], []⟩).memory Tryz.f7.params.toList Rows.fracNamesSpec.vars false #[].toList 8 = some x :=
  Option.isSome_iff_exists.1 (by kernel_rfl)

theorem contract (H : Type) (enc : TypeId × Value → H) (W : World) (base : Nat) (args : Array Value) (ds gs : List (DataW H)) (before : List MemPlace)
    (_ : ∀ (j : Nat) t v, Tryz.f7.params[j]? = some t → args[j]? = some v → Value.okWide Tryz.prog W .any base t v)
    (hW : DataW.Whole enc Tryz.prog Tryz.f7.params.toList Rows.fracNamesSpec.vars false W args.toList ds gs before)
    (_ : (DataW.weightsEach Tryz.prog (Tryz.f7.params.toList ++ (OpenSpec.ofChange Rows.fracNamesSpec).bare.plain.varTypes Tryz.prog) (ds ++ gs)).all (· ≤ reachBytes) = true)
    (hlaid : laidMetH Tryz.prog Rows.fracNamesRow.laid W) :
    Calls Tryz.prog 7 args W fun e W' => ∃ v, e = .returned v ∧ Rows.fracNamesSpec.post enc Tryz.prog Tryz.f7 false true false false W args v W' := by
  obtain ⟨p, q, hA0, hV, rfl, hfz, hnd⟩ := id hW
  obtain ⟨rfl, rfl⟩ := trodVars_none hV
  rw [List.append_nil] at hW
  have hA : DataW.TrodAll enc Tryz.prog W 0 (fun _ => true) true Tryz.f7.params.toList args.toList ds p := hA0
  have hA2 := hA
  rw [Tryz.params7] at hA
  obtain ⟨hargs, rfl, rfl⟩ := trodAll_nil hA
  obtain rfl : args = #[] := by cases args; simp_all
  refine (fnames_true W (pow_laid W hlaid) (tz_laid W hlaid)).mono fun e W' ⟨he, hb⟩ => ?_
  subst he
  exact ⟨_, rfl, law_post laidOut Tryz.underlying4 hW hA2 (by kernel_rfl) (by kernel_rfl) rfl rfl rfl rfl hb⟩

theorem lifted (os : Os) (started : os.Started) (H : Type) (enc : TypeId × Value → H) (F : Stop.Interp) :
    ReturnsInHanded {} Tryz.checked os 7 .any ((OpenSpec.ofChange Rows.fracNamesSpec).preRow enc Tryz.prog Tryz.f7 Rows.fracNamesRow.domain false Rows.fracNamesRow.laid) (((OpenSpec.ofChange Rows.fracNamesSpec).at F).post enc Tryz.prog Tryz.f7 false true false false) := by
  obtain ⟨x, hx⟩ := reads os enc
  refine returnsInHanded_of_row (C := Tryz.checked) (s := OpenSpec.ofChange Rows.fracNamesSpec) own started (by kernel_rfl) Tryz.func7
    (have hok : Input.okWideB Tryz.prog ((World.laidAll Tryz.prog os Rows.fracNamesRow.laid).forCall (fun _ _ => 0) ⟨#[], #[], []⟩) 7 ⟨#[], #[], []⟩ = true := by kernel_rfl
      ⟨World.laidAll Tryz.prog os Rows.fracNamesRow.laid, fun _ _ => 0, ⟨#[], #[], []⟩, World.laidAll_os _ _ _, World.shaped_of_ZipB (by kernel_rfl) (by kernel_rfl), (Input.okWide_of_okWideB (base := 0) hok).1, (Input.okWide_of_okWideB hok).2,
      (OpenSpec.preRow_of_cond 8 hx (by kernel_rfl) (fun k hk => by cases hk) (by kernel_rfl) (laid_met os _)), by simp only [Assume.holds]; exact ⟨by simp, by simp, fun _ => Modest.zero, by simp, by simp⟩⟩) ?_
  intro W base args ds gs before hval hW _ _ hz hl _ _
  exact contract H enc W base args ds gs before hval hW hz hl
theorem and_true {a b : Bool} (h : a = true) (k : b = true) : (a && b) = true := by subst h k; rfl
theorem facts : joinedFacts Tryz.pinned.checked.prog 7 Tryz.f7 (OpenSpec.ofChange Rows.fracNamesSpec).bare Rows.fracNamesRow = true := by
  unfold joinedFacts
  repeat' (with_reducible refine and_true ?_ ?_)
  all_goals (as_aux_lemma => kernel_rfl)
theorem said : Rows.FracNamesSaid :=
  OpenClaim.holds_of_cond 7 Tryz.f7 rfl rfl rfl rfl rfl rfl rfl ⟨rfl, rfl, rfl, rfl, rfl⟩ rfl rfl rfl rfl rfl (by kernel_rfl) Tryz.func7 facts
    (of_decide_eq_true (by kernel_rfl)) (by unfold Func.isWrapper; first | (rw [if_pos (by decide +kernel)]; kernel_rfl) | (rw [if_neg (by decide +kernel)]; exact ⟨rfl, rfl⟩))
    (fun os started H enc _ F => by rw [OpenClaim.pre_eq_preRow]; exact lifted os started H enc F)
theorem plain (f : FuncId) (fn : Func) (hf : Tryz.pinned.checked.prog.funcNamed "polestar/polestarlaw02.FracNames" = some f) (hfn : Tryz.pinned.checked.prog.funcs[f]? = some fn) :
    true = Tryz.pinned.checked.prog.looks [] ∧ ∀ (j : Nat) t, fn.params[j]? = some t → Tryz.pinned.checked.prog.wantsStandIn t = false := by
  obtain rfl : f = 7 := Option.some.inj ((show Tryz.prog.funcNamed "polestar/polestarlaw02.FracNames" = some 7 by kernel_rfl).symm.trans hf) |>.symm
  obtain rfl : fn = Tryz.f7 := (Option.some.inj (Tryz.func7.symm.trans hfn)).symm
  refine ⟨by kernel_rfl, fun j t ht => ?_⟩
  rw [Tryz.params7] at ht
  exact absurd ht (by simp)
theorem proved : Rows.FracNamesCardSaid :=
  Claim7.holds_tied_plain_at .later [] _ _ _ _ said (fun _ h => by cases h) (by kernel_rfl) (fun _ h => by cases h) fracNames_row_tie rfl ⟨rfl, rfl⟩ (by kernel_rfl) rfl plain (by kernel_rfl)
#print axioms proved
end Go.Proofs.YtipmkkobdbgphaaGreatDoor.fNamesProof
