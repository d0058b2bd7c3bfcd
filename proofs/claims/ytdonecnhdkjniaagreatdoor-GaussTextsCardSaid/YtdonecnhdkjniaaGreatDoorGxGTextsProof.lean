/- GaussTexts: the text of any number, and any text as a number, or the refusals. No condition. -/
import Derived.Test.YtdonecnhdkjniaaGreatDoorGxGTextsW
import Derived.Test.YtdonecnhdkjniaaGreatDoorGx38
import Derived.Test.YtdonecnhdkjniaaGreatDoorCards
import Derived.Test.YtdonecnhdkjniaaGreatDoorTie
import Derived.LaidSub
import Derived.MakeChecks
import Derived.Lib.LaidTab
import Derived.Lib.LaidU8T
import Derived.LaidMore
import Derived.Stop.Joined
import Derived.Deep.DeepHandedRow
import Derived.SevenTiedAt
import Derived.Lay
import Derived.LaidOnce
set_option maxRecDepth 100000
set_option maxHeartbeats 8000000
namespace Go.Proofs.YtdonecnhdkjniaaGreatDoor.gTextsProof
open Go.ChangeShapes Go.WideShapes Go.ChangeAt Go.RowKit


theorem pow_laid (W : World) (h : laidMetH Tryz.prog Rows.gaussTextsRow.laid W) : ZM W := by
 have h2 := h.filter (fun x => x.1 == "internal/strconv.uint64pow10")
 have e : (Rows.gaussTextsRow.laid.filter fun x => x.1 == "internal/strconv.uint64pow10") = [("internal/strconv.uint64pow10", Lib.tabData .u64 Lib.pow10Tab)] := by rfl
 rw [e, MakeChecks.laidMetH_plain _ _ _ (by rfl)] at h2
 exact Lib.tabIs_of_head (g := 6) (rest := []) (n := 20) (by kernel_rfl) (by kernel_rfl) (t := 297) Tryz.underlying297 Tryz.underlying216 (by kernel_rfl) (by kernel_rfl) h2
def u8ren : Go.Shelf.Ren := ⟨fun n => n, fun | 5 => 5 | 119 => 264 | 138 => 266 | 139 => 267 | n => n, fun | 3 => 2 | 4 => 3 | n => n⟩
theorem u8_laid (W : World) (h : laidMetH Tryz.prog Rows.gaussTextsRow.laid W) : Lib.Utf8Tabs 2 3 W := by
 have h2 := h.filter (fun x => x.1 == "unicode/utf8.first" || x.1 == "unicode/utf8.acceptRanges")
 have e : (Rows.gaussTextsRow.laid.filter fun x => x.1 == "unicode/utf8.first" || x.1 == "unicode/utf8.acceptRanges") = [("unicode/utf8.acceptRanges", Lib.acceptData), ("unicode/utf8.first", Lib.firstData)] := by kernel_rfl
 rw [e, MakeChecks.laidMetH_plain _ _ _ (by rfl)] at h2
 exact utf8Tabs_of_readsT (P := Tryz.prog) (ρ := u8ren) ⟨Tryz.underlying5, Tryz.underlying264, Tryz.underlying266, Tryz.underlying267⟩ ⟨by kernel_rfl, by kernel_rfl, by kernel_rfl, by kernel_rfl, by kernel_rfl, by kernel_rfl, by kernel_rfl⟩ (Lib.laidMet.reads h2 (by simp)) (Lib.laidMet.reads h2 (by simp))
theorem str_fit {s : ByteArray} {H : Type} (h : (DataW.weights Tryz.prog 9 (.lit (.string s.data.toList) : DataW H)).all (fun x => decide (x <= reachBytes)) = true) : s.size <= 1152921504606846975 := by
 simp only [DataW.weights, List.all_cons, List.all_nil, Bool.and_true, decide_eq_true_eq] at h
 unfold reachBytes at h
 rw [<- Lib.size_eq] at h
 omega
theorem own : ownKnob Tryz.prog.godebug = none := by kernel_rfl
theorem laidOut : laidOutB Tryz.prog = true := by kernel_rfl
theorem laid_met (os : Os) (args : Array Value) : laidMetH Tryz.prog Rows.gaussTextsRow.laid ((World.laidAll Tryz.prog os Rows.gaussTextsRow.laid).forCall (fun _ _ => 0) ⟨#[], args, []⟩).memory :=
 by rw [MakeChecks.laidMetH_plain _ _ _ (by kernel_rfl)]; exact laidMet_laidAll _ (by kernel_rfl) (by kernel_rfl)
theorem reads (os : Os) {H : Type} (enc : TypeId × Value -> H) : ∃ x : List (DataW H) × List (DataW H) × List MemPlace, DataW.whole enc Tryz.prog ((World.laidAll Tryz.prog os Rows.gaussTextsRow.laid).forCall (fun _ _ => 0) ⟨#[], #[.agg #[.bool false, .slice none 0 0, .bool false, .slice none 0 0, .bool false, .slice none 0 0, .bool false, .slice none 0 0], .string ⟨#[]⟩], []⟩).memory Tryz.f3.params.toList Rows.gaussTextsSpec.vars false #[.agg #[.bool false, .slice none 0 0, .bool false, .slice none 0 0, .bool false, .slice none 0 0, .bool false, .slice none 0 0], .string ⟨#[]⟩].toList 8 = some x :=
 Option.isSome_iff_exists.1 (by kernel_rfl)

theorem contract (H : Type) (enc : TypeId × Value -> H) (W : World) (base : Nat) (args : Array Value) (ds gs : List (DataW H)) (before : List MemPlace)
  (hval : ∀ (j : Nat) t v, Tryz.f3.params[j]? = some t -> args[j]? = some v -> Value.okWide Tryz.prog W .any base t v)
  (hW : DataW.Whole enc Tryz.prog Tryz.f3.params.toList Rows.gaussTextsSpec.vars false W args.toList ds gs before)
  (hsz0 : (DataW.weightsEach Tryz.prog (Tryz.f3.params.toList ++ (OpenSpec.ofChange Rows.gaussTextsSpec).bare.plain.varTypes Tryz.prog) (ds ++ gs)).all (· <= reachBytes) = true)
  (hlaid : laidMetH Tryz.prog Rows.gaussTextsRow.laid W) :
  Calls Tryz.prog 3 args W fun e W' => ∃ v, e = .returned v /\ Rows.gaussTextsSpec.post enc Tryz.prog Tryz.f3 false true false false W args v W' := by
 obtain ⟨p, q, hA0, hV, rfl, hfz, hnd⟩ := id hW
 obtain ⟨rfl, rfl⟩ := trodVars_none hV
 rw [List.append_nil] at hW
 have hA : DataW.TrodAll enc Tryz.prog W 0 (fun _ => true) true Tryz.f3.params.toList args.toList ds p := hA0
 have hA2 := hA
 have hsz : (DataW.weightsEach Tryz.prog (Tryz.f3.params.toList ++ (OpenSpec.ofChange Rows.gaussTextsSpec).bare.plain.varTypes Tryz.prog) (ds ++ [])).all (· <= reachBytes) = true := hsz0
 rw [Tryz.params3] at hA hval hsz
 obtain ⟨v0, vs0, d0, ds0, p0, q0, hargs, rfl, rfl, h0, r0⟩ := trodAll_cons hA
 obtain ⟨v1, vs1, d1, ds1, p1, q1, rfl, rfl, rfl, h1, r1⟩ := trodAll_cons r0
 obtain ⟨rfl, rfl, rfl⟩ := trodAll_nil r1
 obtain rfl : args = #[v0, v1] := by cases args; simp_all
 obtain ⟨n0, m0, k0, l0, xs0, ys0, us0, vs0, gx0, bx0⟩ := open_gauss (hval 0 28 v0 rfl rfl) h0
 obtain ⟨s1, rfl, rfl, rfl, -⟩ := ChangeMaps.open_string Tryz.underlying9 (hval 1 9 v1 rfl rfl) h1
 have hs2 : (DataW.weightsEach Tryz.prog [28, 9] [d0, _]).all (fun x => decide (x <= reachBytes)) = true := hsz
 simp only [DataW.weightsEach, List.all_append, Bool.and_eq_true] at hs2
 refine (gtexts_true s1 W v0 gx0 (pow_laid W hlaid) (u8_laid W hlaid) (bx0 hs2.1) (Nat.le_trans (str_fit hs2.2.1) (by decide))).mono fun e W' ⟨he, hb⟩ => ?_
 subst he
 exact ⟨_, rfl, law_post laidOut Tryz.underlying4 hW hA2 (by kernel_rfl) (by kernel_rfl) rfl rfl rfl rfl hb⟩

theorem lifted (os : Os) (started : os.Started) (H : Type) (enc : TypeId × Value -> H) (F : Stop.Interp) :
  ReturnsInHanded {} Tryz.checked os 3 .any ((OpenSpec.ofChange Rows.gaussTextsSpec).preRow enc Tryz.prog Tryz.f3 Rows.gaussTextsRow.domain false Rows.gaussTextsRow.laid) (((OpenSpec.ofChange Rows.gaussTextsSpec).at F).post enc Tryz.prog Tryz.f3 false true false false) := by
 obtain ⟨x, hx⟩ := reads os enc
 refine returnsInHanded_of_row (C := Tryz.checked) (s := OpenSpec.ofChange Rows.gaussTextsSpec) own started ?_ Tryz.func3
  (have hok : Input.okWideB Tryz.prog ((World.laidAll Tryz.prog os Rows.gaussTextsRow.laid).forCall (fun _ _ => 0) ⟨#[], #[.agg #[.bool false, .slice none 0 0, .bool false, .slice none 0 0, .bool false, .slice none 0 0, .bool false, .slice none 0 0], .string ⟨#[]⟩], []⟩) 3 ⟨#[], #[.agg #[.bool false, .slice none 0 0, .bool false, .slice none 0 0, .bool false, .slice none 0 0, .bool false, .slice none 0 0], .string ⟨#[]⟩], []⟩ = true := by kernel_rfl
   ⟨World.laidAll Tryz.prog os Rows.gaussTextsRow.laid, fun _ _ => 0, ⟨#[], #[.agg #[.bool false, .slice none 0 0, .bool false, .slice none 0 0, .bool false, .slice none 0 0, .bool false, .slice none 0 0], .string ⟨#[]⟩], []⟩, World.laidAll_os _ _ _, World.shaped_of_ZipB ?_ ?_, (Input.okWide_of_okWideB (base := 0) hok).1, (Input.okWide_of_okWideB hok).2,
   (OpenSpec.preRow_of_cond 8 hx ?_ (fun k hk => by cases hk) ?_ (laid_met os _)), by simp only [Assume.holds]; exact ⟨by simp, by simp, fun _ => Modest.zero, by simp, by simp⟩⟩) ?_
 iterate 5 kernel_rfl
 intro W base args ds gs before hval hW _ _ hz hl _ _
 exact contract H enc W base args ds gs before hval hW hz hl
theorem and_true {a b : Bool} (h : a = true) (k : b = true) : (a && b) = true := by subst h k; rfl
theorem facts : joinedFacts Tryz.pinned.checked.prog 3 Tryz.f3 (OpenSpec.ofChange Rows.gaussTextsSpec).bare Rows.gaussTextsRow = true := by
 unfold joinedFacts
 repeat' (with_reducible refine and_true ?_ ?_)
 all_goals (as_aux_lemma => kernel_rfl)
theorem said : Rows.GaussTextsSaid :=
 OpenClaim.holds_of_cond 3 Tryz.f3 rfl rfl rfl rfl rfl rfl rfl ⟨rfl, rfl, rfl, rfl, rfl⟩ rfl rfl rfl rfl rfl (by kernel_rfl) Tryz.func3 facts
  (of_decide_eq_true (by kernel_rfl)) (by unfold Func.isWrapper; first | (rw [if_pos (by decide +kernel)]; kernel_rfl) | (rw [if_neg (by decide +kernel)]; exact ⟨rfl, rfl⟩))
  (fun os started H enc _ F => by rw [OpenClaim.pre_eq_preRow]; exact lifted os started H enc F)
theorem plain (f : FuncId) (fn : Func) (hf : Tryz.pinned.checked.prog.funcNamed "polestar/polestarlaw03.GaussTexts" = some f) (hfn : Tryz.pinned.checked.prog.funcs[f]? = some fn) :
   true = Tryz.pinned.checked.prog.looks [] /\ ∀ (j : Nat) t, fn.params[j]? = some t -> Tryz.pinned.checked.prog.wantsStandIn t = false := by
 obtain rfl : f = 3 := Option.some.inj ((show Tryz.prog.funcNamed "polestar/polestarlaw03.GaussTexts" = some 3 by kernel_rfl).symm.trans hf) |>.symm
 obtain rfl : fn = Tryz.f3 := (Option.some.inj (Tryz.func3.symm.trans hfn)).symm
 refine ⟨by kernel_rfl, fun j t ht => ?_⟩
 rw [Tryz.params3] at ht
 have h : t = 28 ∨ t = 9 := by simpa using Array.mem_of_getElem? ht
 rcases h with rfl | rfl
 . exact (show Tryz.prog.wantsStandIn 28 = false by kernel_rfl)
 . exact (show Tryz.prog.wantsStandIn 9 = false by kernel_rfl)
theorem proved : Rows.GaussTextsCardSaid :=
 Claim7.holds_tied_plain_at .later [] _ _ _ _ said (fun _ h => by cases h) (by kernel_rfl) (fun _ h => by cases h) gaussTexts_row_tie rfl ⟨rfl, rfl⟩ (by kernel_rfl) rfl plain (by kernel_rfl)
#print axioms proved
end Go.Proofs.YtdonecnhdkjniaaGreatDoor.gTextsProof
