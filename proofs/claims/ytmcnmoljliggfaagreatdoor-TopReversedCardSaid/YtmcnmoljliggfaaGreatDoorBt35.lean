/- Several texts in one: OpenLight, Post, Law. -/
import Derived.Test.YtmcnmoljliggfaaGreatDoorBt34
import Derived.ProofKit
import Derived.OpenShut
set_option maxRecDepth 100000
set_option maxHeartbeats 8000000
/- A bench and two rays that came in, opened. -/
namespace Go.Proofs.YtmcnmoljliggfaaGreatDoor
open Go.ChangeShapes Go.WideShapes Go.ChangeAt Go.RowKit Go.Joins

theorem cells_ray : Tryz.prog.cellsOf 29 = 8 := by kernel_rfl
theorem cells_bench : Tryz.prog.cellsOf 22 = 1 := by kernel_rfl
theorem cells_light : Tryz.prog.cellsOf 31 = 17 := by kernel_rfl
theorem open_ray_cells {H : Type} {enc : TypeId × Value → H} {w : World} {held : Bool} {m : Nat} {c0 c1 c2 c3 c4 c5 c6 c7 : Value} {y : DataW H × List MemPlace}
    (h : DataW.trod enc Tryz.prog w 0 (fun _ => true) held m 29 [c0, c1, c2, c3, c4, c5, c6, c7] = some y) :
    ∃ r : RRaw, [c0, c1, c2, c3, c4, c5, c6, c7] = r.cells ∧ r.In w ∧ ((DataW.weights Tryz.prog 29 y.1).all (· ≤ reachBytes) = true → r.small) := by
  obtain ⟨y0, y1, n, rfl, -, h0, h1⟩ := trod_struct2 Tryz.underlying29 h
  simp only [cells_frac, List.drop_zero, List.drop_succ_cons, List.take_succ_cons, List.take_zero] at h0 h1
  obtain ⟨n1, n2, A, B, c, e, xs, ys, e1, r1, r2, b1⟩ := open_frac_cells h0
  obtain ⟨n3, n4, A', B', c', e', us, vs, e2, r3, r4, b2⟩ := open_frac_cells h1
  simp only [List.cons.injEq, and_true] at e1 e2
  obtain ⟨rfl, rfl, rfl, rfl⟩ := e1
  obtain ⟨rfl, rfl, rfl, rfl⟩ := e2
  refine ⟨⟨⟨n1, A, c, xs, n2, B, e, ys⟩, ⟨n3, A', c', us, n4, B', e', vs⟩⟩, rfl, ⟨⟨r1, r2⟩, r3, r4⟩, fun hs => ?_⟩
  simp only [DataW.weights, Tryz.underlying29, DataW.weightsEach, List.map_cons, List.map_nil, List.all_append, Bool.and_eq_true] at hs
  exact ⟨b1 hs.1, b2 hs.2.1⟩
theorem open_light {H : Type} {enc : TypeId × Value → H} {w : World} {held : Bool} {v : Value} {d : DataW H} {p : List MemPlace}
    (hv : Value.okWide Tryz.prog w .any 0 31 v) (h : DataW.Trod enc Tryz.prog w 0 (fun _ => true) held 31 v d p) :
    ∃ x : LRaw, v = .agg x.cells ∧ BenchIn w w.heap.size x.A x.l ∧ x.l.length ≤ x.c ∧ x.r.In w ∧ x.s.In w ∧
      ((DataW.weights Tryz.prog 31 d).all (· ≤ reachBytes) = true → x.l.length ≤ 4611686018427387904 ∧ (∀ e ∈ x.l, e.small) ∧ x.r.small ∧ x.s.small) := by
  obtain ⟨cs, rfl, hsz⟩ := okWide_struct Tryz.underlying31 hv
  rw [cells_light] at hsz
  obtain ⟨cs⟩ := cs
  match cs, hsz with
  | [c0, c1, c2, c3, c4, c5, c6, c7, c8, c9, c10, c11, c12, c13, c14, c15, c16], _ =>
    obtain ⟨fuel, hf⟩ := h
    obtain ⟨y0, y1, y2, n, hx, -, h0, h1, h2⟩ := Go.Deep.trod_struct3 Tryz.underlying31 hf
    simp only [Value.cells, cells_bench, cells_ray, List.drop_zero, List.drop_succ_cons, List.take_succ_cons, List.take_zero] at h0 h1 h2
    simp only [Prod.mk.injEq] at hx
    obtain ⟨rfl, -⟩ := hx
    obtain ⟨A, c, l, e1, hb, hl, -, -, b0, b9⟩ := open_bench h0
    obtain ⟨r, e2, hr, b1⟩ := open_ray_cells h1
    obtain ⟨s, e3, hs, b2⟩ := open_ray_cells h2
    subst e1
    refine ⟨⟨A, c, l, r, s⟩, ?_, hb, hl, hr, hs, fun hz => ?_⟩
    · unfold RRaw.cells at e2 e3
      simp only [List.cons.injEq, and_true] at e2 e3
      obtain ⟨rfl, rfl, rfl, rfl, rfl, rfl, rfl, rfl⟩ := e2
      obtain ⟨rfl, rfl, rfl, rfl, rfl, rfl, rfl, rfl⟩ := e3
      rfl
    · simp only [DataW.weights, Tryz.underlying31, DataW.weightsEach, List.map_cons, List.map_nil, List.all_append, Bool.and_eq_true] at hz
      exact ⟨b9 hz.1, b0 hz.1, b1 hz.2.1, b2 hz.2.2.1⟩
/- The last step of a row where of the world 'Below' is known. (Copied from the guide's page of small lemmas.) -/
open Go.RowKit Go.WideShapes Go.ChangeShapes
section
variable {H : Type} {enc : TypeId × Value → H} {P : Program}
theorem post_of_below {f : Func} {s : ChangeSpec} {apart fresh handsOn again : Bool} {W W' : World} {args : Array Value} {v : Value} {ds gs : List (DataW H)} {before pa pv : List MemPlace}
    (hW : DataW.Whole enc P f.params.toList s.vars apart W args.toList ds gs before)
    (hres : ∀ (b : Nat) (sp : Nat → Bool) (hd : Bool), DataW.TrodAll enc P W' b sp hd f.resultTypes.toList (v.resultList f.resultTypes.size) (s.fn H (ds ++ gs)).results [])
    (hargs : ∀ sp : Nat → Bool, (∀ p ∈ before, sp p.block = true) → DataW.TrodAll enc P W' 0 sp true f.params.toList args.toList (s.fn H (ds ++ gs)).args pa)
    (hvars : ∀ sp : Nat → Bool, (∀ p ∈ before, sp p.block = true) → DataW.TrodVars enc P W' sp s.vars (s.fn H (ds ++ gs)).vars pv)
    (hps : before = pa ++ pv) (hb : Below W.heap.size W W')
    (hok : ∀ (j : Nat) (t : TypeId) (r : Value), f.resultTypes[j]? = some t → (v.resultList f.resultTypes.size)[j]? = some r → Value.okWide P W' .any 0 t r) :
    s.post enc P f apart fresh handsOn again W args v W' := by
  have hlt : ∀ p ∈ before, p.block < W.heap.size := fun p hp => hW.lt p hp
  have hold : ∀ p ∈ before, (fun b => decide (b < W.heap.size)) p.block = true := fun p hp => by simpa using hlt p hp
  refine ⟨ds, gs, before, [], pa, pv, hW, hres _ _ _, hargs _ hold, hvars _ hold, World.keptBut_mono (fun p hp => ⟨hp, ?_⟩) (hb.frame (· ∈ before)), fun _ => ?_⟩
  · rw [hps, List.mem_append] at hp
    exact Or.inr hp
  · obtain ⟨_, _, _, _, _, hz, hn⟩ := hW
    refine ⟨hok, _, _, ([] ++ pa) ++ pv, ⟨[] ++ pa, pv, trodAll_append (hargs _ (fun _ _ => rfl)) (hres _ _ _), hvars _ (fun _ _ => rfl), rfl, ?_, ?_⟩, ?_⟩
    · intro b off hp
      have hin : MemPlace.cell b off ∈ before := by rw [hps]; simpa using hp
      rw [hb.frozen (hlt _ hin)]
      exact hz b off hin
    · intro ha
      have := hn ha
      rw [hps] at this
      simpa using this
    · intro p hp _
      rw [hps]
      simpa using hp
end
/- The last step of a law's row: it returned true, and below the heap that was there nothing has turned. -/
open Go.ChangeShapes Go.WideShapes Go.ChangeAt Go.RowKit
section
variable {H : Type} {enc : TypeId × Value → H} {P : Program}

theorem trodAll_stays (hl : laidOutB P = true) {W W' : World} {sp : Nat → Bool} : ∀ (ts : List TypeId) (vs : List Value) (ds : List (DataW H)) (ps : List MemPlace), (∀ t ∈ ts, P.readableRec t = true ∧ t < P.types.size) →
    DataW.TrodAll enc P W 0 (fun _ => true) true ts vs ds ps → (∀ p ∈ ps, W.sameAt W' p) → (∀ p ∈ ps, sp p.block = true) → DataW.TrodAll enc P W' 0 sp true ts vs ds ps
  | [], vs, ds, ps, _, h, _, _ => by
    obtain ⟨rfl, rfl, rfl⟩ := trodAll_nil h
    exact trodAll_mk0
  | t :: ts, vs, ds, ps, hr, h, hs, hp => by
    obtain ⟨v, vs', d, ds', p, q, rfl, rfl, rfl, h1, h2⟩ := trodAll_cons h
    exact trodAll_cons_mk (WideElems.Trod_stays hl (hr t (by simp)).1 (hr t (by simp)).2 h1 (fun x hx => hs x (by simp [hx])) (fun x hx => hp x (by simp [hx])))
      (trodAll_stays hl ts vs' ds' q (fun t ht => hr t (by simp [ht])) h2 (fun x hx => hs x (by simp [hx])) (fun x hx => hp x (by simp [hx])))

theorem law_post {tb : TypeId} (hl : laidOutB P = true) (hbt : P.underlying tb = some .bool) {f : Func} {s : ChangeSpec} {apart fresh handsOn again : Bool} {W W' : World} {args : Array Value} {ds : List (DataW H)} {before : List MemPlace}
    (hW : DataW.Whole enc P f.params.toList s.vars apart W args.toList ds [] before)
    (hA : DataW.TrodAll enc P W 0 (fun _ => true) true f.params.toList args.toList ds before)
    (hrt : f.resultTypes = #[tb]) (hread : f.params.toList.all (fun t => P.readableRec t && decide (t < P.types.size)) = true)
    (hvs : s.vars = []) (hres : (s.fn H (ds ++ [])).results = [.lit (.bool true)]) (hargs : (s.fn H (ds ++ [])).args = ds) (hvars : (s.fn H (ds ++ [])).vars = [])
    (hb : Below W.heap.size W W') : s.post enc P f apart fresh handsOn again W args (.bool true) W' := by
  have hlt : ∀ p ∈ before, p.block < W.heap.size := fun p hp => hW.lt p hp
  have hr : ∀ t ∈ f.params.toList, P.readableRec t = true ∧ t < P.types.size := fun t ht => by
    have := List.all_eq_true.1 hread t ht
    simpa using this
  refine post_of_below (pa := before) (pv := []) hW ?_ ?_ ?_ (by simp) hb ?_
  · intro b sp hd
    rw [hres, hrt]
    exact trodAll_mk1 (shut_bool hbt _)
  · intro sp hsp
    rw [hargs]
    exact trodAll_stays hl _ _ _ _ hr hA (fun p hp => hb.same (hlt p hp)) hsp
  · intro sp _
    rw [hvars, hvs]
    rfl
  · exact ok_one hrt rfl (okWide_bool_mk hbt _)
end
end Go.Proofs.YtmcnmoljliggfaaGreatDoor
