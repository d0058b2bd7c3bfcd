/- Several texts in one: OpenInt, OpenFrac, OpenGauss, Post, Law. -/
import Derived.ChangeSlices
import Derived.ChangeArms
import Derived.SizedLaws
import Derived.Lib.SmallJoins
import Derived.ChangeSame
import Derived.Test.YtdonecnhdkjniaaGreatDoorGx23
import Derived.ProofKit
import Derived.OpenShut
set_option maxRecDepth 100000
set_option maxHeartbeats 8000000
namespace Go.Proofs.YtdonecnhdkjniaaGreatDoor
open Go.ChangeShapes Go.WideShapes Go.ChangeAt Go.RowKit Go.Joins

theorem cells_api : Tryz.prog.cellsOf 24 = 2 := by kernel_rfl
theorem cells_limb : Tryz.prog.cellsOf 109 = 1 := by kernel_rfl
theorem bytes_limb : Tryz.prog.bytesOf 109 = 4 := by kernel_rfl

theorem lt_of_cell {w : World} {a : Addr} {v : Value} (h : w.cell? a = some v) : a.block < w.heap.size := by
 rcases Nat.lt_or_ge a.block w.heap.size with h' | h'
 . exact h'
 . unfold World.cell? at h; rw [Array.getElem?_eq_none h'] at h; simp at h

open Go.ChangeShapes Go.WideShapes Go.ChangeAt Go.RowKit Go.Joins

theorem cells_frac : Tryz.prog.cellsOf 26 = 4 := by kernel_rfl
theorem cells_bool1 : Tryz.prog.cellsOf 4 = 1 := by kernel_rfl
theorem cells_limbs1 : Tryz.prog.cellsOf 22 = 1 := by kernel_rfl
theorem open_int_cells {H : Type} {enc : TypeId × Value -> H} {w : World} {held : Bool} {m : Nat} {v0 v1 : Value} {y : DataW H × List MemPlace}
   (h : DataW.trod enc Tryz.prog w 0 (fun _ => true) held m 24 [v0, v1] = some y) :
   ∃ (neg : Bool) (A : Option Addr) (c : Nat) (xs : List Nat), [v0, v1] = [.bool neg, .slice A xs.length c] /\ Zm w A c xs /\ ((DataW.weights Tryz.prog 24 y.1).all (· <= reachBytes) = true -> xs.length <= 1152921504606846975) := by
 obtain ⟨y0, y1, n, rfl, -, h0, h1⟩ := trod_struct2 Tryz.underlying24 h
 simp only [cells_bool1, cells_limbs1, List.drop_zero, List.drop_succ_cons, List.take_succ_cons, List.take_zero] at h0 h1
 obtain ⟨neg, e0, rfl⟩ := DataW.trod_bool Tryz.underlying4 h0
 simp at e0
 subst e0
 rcases open_ints Tryz.underlying22 Tryz.underlying109 cells_limb h1 with ⟨e1, rfl⟩ | ⟨a, len, cap, zs, e1, -, hl, hm, hz, rfl, hc, hw⟩
 . simp at e1
   subst e1
   exact ⟨neg, none, 0, [], rfl, ⟨by intro x hx; simp at hx, by simp, by omega, ZD.none_⟩, fun _ => by simp⟩
 . simp at e1
   subst e1
   simp at hz
   have hb : ∀ i (hi : i < zs.length), 0 <= zs[i] /\ zs[i] <= 4294967295 := fun i hi => bounds_u32 (hw _ (List.getElem_mem hi))
   have hlen : ((zs.take len).map Int.toNat).length = len := by simp; omega
   refine ⟨neg, some a, cap, (zs.take len).map Int.toNat, by rw [hlen], ⟨?_, by rw [hlen]; exact hl, by unfold maxLen at hm; omega, ?_⟩, ?_⟩
   . intro x hx
     simp only [List.mem_map] at hx
     obtain ⟨z, hz', rfl⟩ := hx
     obtain ⟨i, hi, rfl⟩ := List.mem_iff_getElem.1 (List.mem_of_mem_take hz')
     have := hb i hi
     omega
   . refine ⟨by rw [ZI, Nat.mul_one], fun h0 => ⟨a, rfl, ?_, fun j u hu => ?_⟩⟩
     . rw [hlen] at h0
       have := lt_of_cell (hc 0 (by omega))
       rwa [Z9] at this
     . have hj : j < ((zs.take len).map Int.toNat).length := by
        have := (List.getElem?_eq_some_iff.1 hu).1
        rwa [ZI] at this
       rw [YY hj] at hu
       rw [hlen] at hj
       have hj2 : j < zs.length := by omega
       have hbj := hb j hj2
       rw [<- hu, hc j hj2]
       simp [hj2]
       omega
   . intro hs
     rw [hlen]
     simp only [DataW.weights, Tryz.underlying24, DataW.weightsEach, Tryz.underlying22, List.all_append, List.all_cons, Bool.and_eq_true, bytes_limb, lits, List.length_map, List.length_take, List.length_drop, reachBytes, List.map_cons, List.map_nil] at hs
     have h4 := of_decide_eq_true hs.2.1.1
     omega
open Go.ChangeShapes Go.WideShapes Go.ChangeAt Go.RowKit Go.Joins

theorem cells_gauss : Tryz.prog.cellsOf 28 = 8 := by kernel_rfl
theorem open_frac_cells {H : Type} {enc : TypeId × Value -> H} {w : World} {held : Bool} {m : Nat} {v0 v1 v2 v3 : Value} {y : DataW H × List MemPlace}
  (h : DataW.trod enc Tryz.prog w 0 (fun _ => true) held m 26 [v0, v1, v2, v3] = some y) :
  ∃ (n1 n2 : Bool) (A B : Option Addr) (c e : Nat) (xs ys : List Nat), [v0, v1, v2, v3] = [.bool n1, .slice A xs.length c, .bool n2, .slice B ys.length e] /\ Zm w A c xs /\ Zm w B e ys /\ ((DataW.weights Tryz.prog 26 y.1).all (· <= reachBytes) = true -> xs.length <= 1152921504606846975 /\ ys.length <= 1152921504606846975) := by
 obtain ⟨y0, y1, n, rfl, -, h0, h1⟩ := trod_struct2 Tryz.underlying26 h
 simp only [cells_api, List.drop_zero, List.drop_succ_cons, List.take_succ_cons, List.take_zero] at h0 h1
 obtain ⟨n1, A, c, xs, e1, r1, b1⟩ := open_int_cells h0
 obtain ⟨n2, B, e, ys, e2, r2, b2⟩ := open_int_cells h1
 simp only [List.cons.injEq, and_true] at e1 e2
 obtain ⟨rfl, rfl⟩ := e1
 obtain ⟨rfl, rfl⟩ := e2
 refine ⟨n1, n2, A, B, c, e, xs, ys, rfl, r1, r2, fun hs => ?_⟩
 simp only [DataW.weights, Tryz.underlying26, DataW.weightsEach, List.map_cons, List.map_nil, List.all_append, Bool.and_eq_true] at hs
 exact ⟨b1 hs.1, b2 hs.2.1⟩
theorem open_gauss {H : Type} {enc : TypeId × Value -> H} {w : World} {held : Bool} {v : Value} {d : DataW H} {p : List MemPlace}
  (hv : Value.okWide Tryz.prog w .any 0 28 v) (h : DataW.Trod enc Tryz.prog w 0 (fun _ => true) held 28 v d p) :
  ∃ (n1 n2 n3 n4 : Bool) (xs ys us vs : List Nat), ZR w v n1 n2 n3 n4 xs ys us vs /\ ((DataW.weights Tryz.prog 28 d).all (· <= reachBytes) = true -> (xs.length <= 1152921504606846975 /\ ys.length <= 1152921504606846975) /\ us.length <= 1152921504606846975 /\ vs.length <= 1152921504606846975) := by
 obtain ⟨cs, rfl, hsz⟩ := okWide_struct Tryz.underlying28 hv
 rw [cells_gauss] at hsz
 obtain ⟨cs⟩ := cs
 match cs, hsz with
 | [c0, c1, c2, c3, c4, c5, c6, c7], _ =>
  obtain ⟨fuel, hf⟩ := h
  obtain ⟨y0, y1, n, hx, -, h0, h1⟩ := trod_struct2 Tryz.underlying28 hf
  simp only [Value.cells, cells_frac, List.drop_zero, List.drop_succ_cons, List.take_succ_cons, List.take_zero] at h0 h1
  simp only [Prod.mk.injEq] at hx
  obtain ⟨rfl, -⟩ := hx
  obtain ⟨n1, n2, A, B, c, e, xs, ys, e1, r1, r2, b1⟩ := open_frac_cells h0
  obtain ⟨n3, n4, A', B', c', e', us, vs, e2, r3, r4, b2⟩ := open_frac_cells h1
  simp only [List.cons.injEq, and_true] at e1 e2
  obtain ⟨rfl, rfl, rfl, rfl⟩ := e1
  obtain ⟨rfl, rfl, rfl, rfl⟩ := e2
  refine ⟨n1, n2, n3, n4, xs, ys, us, vs, ⟨_, _, _, _, _, _, _, _, rfl, r1, r2, r3, r4⟩, fun hs => ?_⟩
  simp only [DataW.weights, Tryz.underlying28, DataW.weightsEach, List.map_cons, List.map_nil, List.all_append, Bool.and_eq_true] at hs
  exact ⟨b1 hs.1, b2 hs.2.1⟩
open Go.RowKit Go.WideShapes Go.ChangeShapes
section
variable {H : Type} {enc : TypeId × Value -> H} {P : Program}
theorem post_of_below {f : Func} {s : ChangeSpec} {apart fresh handsOn again : Bool} {W W' : World} {args : Array Value} {v : Value} {ds gs : List (DataW H)} {before pa pv : List MemPlace}
   (hW : DataW.Whole enc P f.params.toList s.vars apart W args.toList ds gs before)
   (hres : ∀ (b : Nat) (sp : Nat -> Bool) (hd : Bool), DataW.TrodAll enc P W' b sp hd f.resultTypes.toList (v.resultList f.resultTypes.size) (s.fn H (ds ++ gs)).results [])
   (hargs : ∀ sp : Nat -> Bool, (∀ p ∈ before, sp p.block = true) -> DataW.TrodAll enc P W' 0 sp true f.params.toList args.toList (s.fn H (ds ++ gs)).args pa)
   (hvars : ∀ sp : Nat -> Bool, (∀ p ∈ before, sp p.block = true) -> DataW.TrodVars enc P W' sp s.vars (s.fn H (ds ++ gs)).vars pv)
   (hps : before = pa ++ pv) (hb : Below W.heap.size W W')
   (hok : ∀ (j : Nat) (t : TypeId) (r : Value), f.resultTypes[j]? = some t -> (v.resultList f.resultTypes.size)[j]? = some r -> Value.okWide P W' .any 0 t r) :
   s.post enc P f apart fresh handsOn again W args v W' := by
 have hlt : ∀ p ∈ before, p.block < W.heap.size := fun p hp => hW.lt p hp
 have hold : ∀ p ∈ before, (fun b => decide (b < W.heap.size)) p.block = true := fun p hp => by simpa using hlt p hp
 refine ⟨ds, gs, before, [], pa, pv, hW, hres _ _ _, hargs _ hold, hvars _ hold, World.keptBut_mono (fun p hp => ⟨hp, ?_⟩) (hb.frame (· ∈ before)), fun _ => ?_⟩
 . rw [hps, List.mem_append] at hp
   exact Or.inr hp
 . obtain ⟨_, _, _, _, _, hz, hn⟩ := hW
   refine ⟨hok, _, _, ([] ++ pa) ++ pv, ⟨[] ++ pa, pv, trodAll_append (hargs _ (fun _ _ => rfl)) (hres _ _ _), hvars _ (fun _ _ => rfl), rfl, ?_, ?_⟩, ?_⟩
   . intro b off hp
     have hin : MemPlace.cell b off ∈ before := by rw [hps]; simpa using hp
     rw [hb.frozen (hlt _ hin)]
     exact hz b off hin
   . intro ha
     have := hn ha
     rw [hps] at this
     simpa using this
   . intro p hp _
     rw [hps]
     simpa using hp
end
open Go.ChangeShapes Go.WideShapes Go.ChangeAt Go.RowKit
section
variable {H : Type} {enc : TypeId × Value -> H} {P : Program}

theorem trodAll_stays (hl : laidOutB P = true) {W W' : World} {sp : Nat -> Bool} : ∀ (ts : List TypeId) (vs : List Value) (ds : List (DataW H)) (ps : List MemPlace), (∀ t ∈ ts, P.readableRec t = true /\ t < P.types.size) ->
  DataW.TrodAll enc P W 0 (fun _ => true) true ts vs ds ps -> (∀ p ∈ ps, W.sameAt W' p) -> (∀ p ∈ ps, sp p.block = true) -> DataW.TrodAll enc P W' 0 sp true ts vs ds ps
 | [], vs, ds, ps, _, h, _, _ => by
  obtain ⟨rfl, rfl, rfl⟩ := trodAll_nil h
  exact trodAll_mk0
 | t :: ts, vs, ds, ps, hr, h, hs, hp => by
  obtain ⟨v, vs', d, ds', p, q, rfl, rfl, rfl, h1, h2⟩ := trodAll_cons h
  exact trodAll_cons_mk (WideElems.Trod_stays hl (hr t (by simp)).1 (hr t (by simp)).2 h1 (fun x hx => hs x (by simp [hx])) (fun x hx => hp x (by simp [hx])))
   (trodAll_stays hl ts vs' ds' q (fun t ht => hr t (by simp [ht])) h2 (fun x hx => hs x (by simp [hx])) (fun x hx => hp x (by simp [hx])))

theorem law_post {tb : TypeId} (hl : laidOutB P = true) (hbt : P.underlying tb = some .bool) {f : Func} {s : ChangeSpec} {apart fresh handsOn again : Bool} {W W' : World} {args : Array Value} {ds : List (DataW H)} {before : List MemPlace}
   (hW : DataW.Whole enc P f.params.toList s.vars apart W args.toList ds [] before)
   (hA : DataW.TrodAll enc P W 0 (fun _ => true) true f.params.toList args.toList ds before)
   (hrt : f.resultTypes = #[tb]) (hread : f.params.toList.all (fun t => P.readableRec t && decide (t < P.types.size)) = true)
   (hvs : s.vars = []) (hres : (s.fn H (ds ++ [])).results = [.lit (.bool true)]) (hargs : (s.fn H (ds ++ [])).args = ds) (hvars : (s.fn H (ds ++ [])).vars = [])
   (hb : Below W.heap.size W W') : s.post enc P f apart fresh handsOn again W args (.bool true) W' := by
 have hlt : ∀ p ∈ before, p.block < W.heap.size := fun p hp => hW.lt p hp
 have hr : ∀ t ∈ f.params.toList, P.readableRec t = true /\ t < P.types.size := fun t ht => by
   have := List.all_eq_true.1 hread t ht
   simpa using this
 refine post_of_below (pa := before) (pv := []) hW ?_ ?_ ?_ (by simp) hb ?_
 . intro b sp hd
   rw [hres, hrt]
   exact trodAll_mk1 (shut_bool hbt _)
 . intro sp hsp
   rw [hargs]
   exact trodAll_stays hl _ _ _ _ hr hA (fun p hp => hb.same (hlt p hp)) hsp
 . intro sp _
   rw [hvars, hvs]
   rfl
 . exact ok_one hrt rfl (okWide_bool_mk hbt _)
end
end Go.Proofs.YtdonecnhdkjniaaGreatDoor
