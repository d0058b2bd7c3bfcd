/- Several texts in one: RayD, FPlain, FRingPlain, Rat, LowFresh. -/
import Derived.Test.YtmcnmoljliggfaaGreatDoorBt26
import Derived.Laws.Cover3
set_option maxRecDepth 100000
set_option maxHeartbeats 8000000
/- Package ray: Back, Through, Cross. (Written by wip/top/genrayd.py.) -/
namespace Go.Proofs.YtmcnmoljliggfaaGreatDoor
open Go.RowKit

theorem results_two {P : Program} {fn : Func} {p q : Tmp} {ty : TypeId} (h : fn.results = #[.cell p ty, .tmp q]) (tmps : Array Value) (w : World) (g : Nat) (t : TypeId) (cs : Array Value) (fr : Nat × Nat) (d : TypeDesc) (v : Value)
    (hp : tmps.getD p undef = .pointer (some ⟨g, 0, none⟩)) (hg : w.heap[g]? = some (.cells cs t fr))
    (hu : P.underlying ty = some d) (hd : (match d with | .struct _ | .array _ _ => true | _ => false) = true) (hi : (P.info? ty).map (·.size) = some cs.size) (hv : tmps.getD q undef = v) :
    (results fn tmps).run P w = .ok (.tuple #[.agg cs, v]) w := by
  have hp' : tmps[p]?.getD undef = .pointer (some ⟨g, 0, none⟩) := by simpa using hp
  have hv' : tmps[q]?.getD undef = v := by simpa using hv
  simp [results, h, hp', hv', asAddr, run_loadVar_row w g t ty cs fr d hg hu hd hi]
theorem rayInfo : (Tryz.prog.info? 29).map (·.size) = some 8 := by kernel_rfl
theorem fracInfo4 : (Tryz.prog.info? 27).map (·.size) = some 4 := by kernel_rfl
theorem range_cells {w : World} {g : Nat} {cs : Array Value} {T : TypeId} {xs : List Value} (h : Blk w g T cs) (hp : xs <+: cs.toList) : w.rangeAt g 0 xs := fun j v hv => by
  obtain ⟨us, hu⟩ := hp
  have h1 := (List.getElem?_eq_some_iff.1 hv).1
  rw [Nat.zero_add, h.cell, ← Array.getElem?_toList, ← hu, List.getElem?_append_left h1]
  exact hv
theorem FIs.cons {w : World} {l : List FLoc} {z : Int × Int} {zs : List (Int × Int)} (h : FIs w l (z :: zs)) : ∃ q t, l = q :: t ∧ FracIn w 0 q.val z.1 z.2 ∧ FIs w t zs := by
  cases l with
  | nil => exact h.elim
  | cons q t => exact ⟨q, t, rfl, h.1, h.2⟩
theorem FIs.nil {w : World} {l : List FLoc} (h : FIs w l []) : l = [] := by
  cases l with
  | nil => rfl
  | cons q t => exact h.elim

theorem FL.four {w : World} {u : Value} {N1 D1 N2 D2 N3 D3 N4 D4 : Int} (h : FL w u [(N1, D1), (N2, D2), (N3, D3), (N4, D4)]) : ∃ g c cs A0 c0 A1 c1 A2 c2 A3 c3 A4 c4 A5 c5 A6 c6 A7 c7, u = .slice (some ⟨g, 0, none⟩) 4 c ∧ (Blk w g 27 cs ∧ [.bool (decide (N1 < 0)), .slice A0 (natL N1.natAbs).length c0, .bool (decide (D1 < 0)), .slice A1 (natL D1.natAbs).length c1, .bool (decide (N2 < 0)), .slice A2 (natL N2.natAbs).length c2, .bool (decide (D2 < 0)), .slice A3 (natL D2.natAbs).length c3, .bool (decide (N3 < 0)), .slice A4 (natL N3.natAbs).length c4, .bool (decide (D3 < 0)), .slice A5 (natL D3.natAbs).length c5, .bool (decide (N4 < 0)), .slice A6 (natL N4.natAbs).length c6, .bool (decide (D4 < 0)), .slice A7 (natL D4.natAbs).length c7] <+: cs.toList) ∧ MatIn w (.agg #[.bool (decide (N1 < 0)), .slice A0 (natL N1.natAbs).length c0, .bool (decide (D1 < 0)), .slice A1 (natL D1.natAbs).length c1, .bool (decide (N2 < 0)), .slice A2 (natL N2.natAbs).length c2, .bool (decide (D2 < 0)), .slice A3 (natL D2.natAbs).length c3, .bool (decide (N3 < 0)), .slice A4 (natL N3.natAbs).length c4, .bool (decide (D3 < 0)), .slice A5 (natL D3.natAbs).length c5, .bool (decide (N4 < 0)), .slice A6 (natL N4.natAbs).length c6, .bool (decide (D4 < 0)), .slice A7 (natL D4.natAbs).length c7]) N1 D1 N2 D2 N3 D3 N4 D4 := by
  obtain ⟨g, c, cs, l, rfl, h1, h2, h3, -⟩ := h.form
  obtain ⟨q0, t0, rfl, e0, h3⟩ := h3.cons
  obtain ⟨q1, t1, rfl, e1, h3⟩ := h3.cons
  obtain ⟨q2, t2, rfl, e2, h3⟩ := h3.cons
  obtain ⟨q3, t3, rfl, e3, h3⟩ := h3.cons
  obtain rfl := h3.nil
  obtain ⟨A0, c0, A1, c1, f0, -⟩ := e0.form
  obtain ⟨A2, c2, A3, c3, f1, -⟩ := e1.form
  obtain ⟨A4, c4, A5, c5, f2, -⟩ := e2.form
  obtain ⟨A6, c6, A7, c7, f3, -⟩ := e3.form
  rw [show cellsF [q0, q1, q2, q3] = [.bool (decide (N1 < 0)), .slice A0 (natL N1.natAbs).length c0, .bool (decide (D1 < 0)), .slice A1 (natL D1.natAbs).length c1, .bool (decide (N2 < 0)), .slice A2 (natL N2.natAbs).length c2, .bool (decide (D2 < 0)), .slice A3 (natL D2.natAbs).length c3, .bool (decide (N3 < 0)), .slice A4 (natL N3.natAbs).length c4, .bool (decide (D3 < 0)), .slice A5 (natL D3.natAbs).length c5, .bool (decide (N4 < 0)), .slice A6 (natL N4.natAbs).length c6, .bool (decide (D4 < 0)), .slice A7 (natL D4.natAbs).length c7] from by
    simp only [FLoc.val, Value.agg.injEq, Array.mk.injEq, List.cons.injEq, and_true] at f0 f1 f2 f3
    simp only [cellsF, List.flatMap_cons, List.flatMap_nil, FLoc.cells, f0, f1, f2, f3, List.cons_append, List.nil_append]] at h2
  rw [f0] at e0
  rw [f1] at e1
  rw [f2] at e2
  rw [f3] at e3
  exact ⟨g, c, cs, A0, c0, A1, c1, A2, c2, A3, c3, A4, c4, A5, c5, A6, c6, A7, c7, rfl, ⟨h1, h2⟩, ⟨_, _, _, _, _, _, _, _, _, _, _, _, _, _, _, _, rfl, e0, e1, e2, e3⟩⟩

theorem FL.two {w : World} {u : Value} {N1 D1 N2 D2 : Int} (h : FL w u [(N1, D1), (N2, D2)]) : ∃ g c cs A0 c0 A1 c1 A2 c2 A3 c3, u = .slice (some ⟨g, 0, none⟩) 2 c ∧ (Blk w g 27 cs ∧ [.bool (decide (N1 < 0)), .slice A0 (natL N1.natAbs).length c0, .bool (decide (D1 < 0)), .slice A1 (natL D1.natAbs).length c1, .bool (decide (N2 < 0)), .slice A2 (natL N2.natAbs).length c2, .bool (decide (D2 < 0)), .slice A3 (natL D2.natAbs).length c3] <+: cs.toList) ∧ GaussIn w (.agg #[.bool (decide (N1 < 0)), .slice A0 (natL N1.natAbs).length c0, .bool (decide (D1 < 0)), .slice A1 (natL D1.natAbs).length c1, .bool (decide (N2 < 0)), .slice A2 (natL N2.natAbs).length c2, .bool (decide (D2 < 0)), .slice A3 (natL D2.natAbs).length c3]) N1 D1 N2 D2 := by
  obtain ⟨g, c, cs, l, rfl, h1, h2, h3, -⟩ := h.form
  obtain ⟨q0, t0, rfl, e0, h3⟩ := h3.cons
  obtain ⟨q1, t1, rfl, e1, h3⟩ := h3.cons
  obtain rfl := h3.nil
  obtain ⟨A0, c0, A1, c1, f0, -⟩ := e0.form
  obtain ⟨A2, c2, A3, c3, f1, -⟩ := e1.form
  rw [show cellsF [q0, q1] = [.bool (decide (N1 < 0)), .slice A0 (natL N1.natAbs).length c0, .bool (decide (D1 < 0)), .slice A1 (natL D1.natAbs).length c1, .bool (decide (N2 < 0)), .slice A2 (natL N2.natAbs).length c2, .bool (decide (D2 < 0)), .slice A3 (natL D2.natAbs).length c3] from by
    simp only [FLoc.val, Value.agg.injEq, Array.mk.injEq, List.cons.injEq, and_true] at f0 f1
    simp only [cellsF, List.flatMap_cons, List.flatMap_nil, FLoc.cells, f0, f1, List.cons_append, List.nil_append]] at h2
  rw [f0] at e0
  rw [f1] at e1
  exact ⟨g, c, cs, A0, c0, A1, c1, A2, c2, A3, c3, rfl, ⟨h1, h2⟩, ⟨_, _, _, _, _, _, _, _, rfl, e0, e1⟩⟩

theorem MatIn.nought (w : World) : MatIn w (.agg #[.bool false, .slice none 0 0, .bool false, .slice none 0 0, .bool false, .slice none 0 0, .bool false, .slice none 0 0, .bool false, .slice none 0 0, .bool false, .slice none 0 0, .bool false, .slice none 0 0, .bool false, .slice none 0 0]) 0 0 0 0 0 0 0 0 := ⟨none, 0, none, 0, none, 0, none, 0, none, 0, none, 0, none, 0, none, 0, rfl, (FracOwn.nought w 0).in_, (FracOwn.nought w 0).in_, (FracOwn.nought w 0).in_, (FracOwn.nought w 0).in_⟩
def RetMatK (w : World) (B : Nat) (N1 D1 N2 D2 N3 D3 N4 D4 k : Int) (e : Ending) (w' : World) : Prop := ∃ v, e = .returned (.tuple #[v, .int .i64 k]) ∧ MatIn w' v N1 D1 N2 D2 N3 D3 N4 D4 ∧ Below B w w'
def RetFracK (w : World) (B : Nat) (N D k : Int) (e : Ending) (w' : World) : Prop := ∃ v, e = .returned (.tuple #[v, .int .i64 k]) ∧ FracIn w' 0 v N D ∧ Below B w w'

/- Fractions as plain numbers: lowest terms are one, and stand in one order. -/

theorem gcdZ_dvd (n d : Int) : gcdZ n d ∣ n ∧ gcdZ n d ∣ d :=
  ⟨Int.ofNat_dvd_left.2 (Nat.gcd_dvd_left _ _), Int.ofNat_dvd_left.2 (Nat.gcd_dvd_right _ _)⟩
theorem low_parts (n : Int) {d : Int} (hd : 0 < d) : lowN n d * gcdZ n d = n ∧ lowD n d * gcdZ n d = d := by
  unfold lowN lowD
  rw [if_neg (by omega), if_neg (by omega)]
  exact ⟨Int.tdiv_mul_cancel (gcdZ_dvd n d).1, Int.tdiv_mul_cancel (gcdZ_dvd n d).2⟩
theorem lowD_pos (n : Int) {d : Int} (hd : 0 < d) : 0 < lowD n d := by
  have h := (low_parts n hd).2
  have hg := gcdZ_pos (n := n) (d := d) (by omega)
  rcases Int.lt_trichotomy (lowD n d) 0 with h1 | h1 | h1
  · have := Int.mul_neg_of_neg_of_pos h1 hg; omega
  · rw [h1] at h; simp at h; omega
  · exact h1
theorem low_one (n : Int) {d : Int} (hd : 0 < d) : gcdZ (lowN n d) (lowD n d) = 1 := by
  unfold lowN lowD
  rw [if_neg (by omega), if_neg (by omega)]
  have hp : 0 < Nat.gcd n.natAbs d.natAbs := Nat.gcd_pos_of_pos_right _ (by omega)
  have hc : Nat.gcd (n.natAbs / Nat.gcd n.natAbs d.natAbs) (d.natAbs / Nat.gcd n.natAbs d.natAbs) = 1 := Nat.coprime_div_gcd_div_gcd hp
  unfold gcdZ
  rw [Int.natAbs_tdiv, Int.natAbs_tdiv, Int.natAbs_natCast]
  exact congrArg (fun k : Nat => (k : Int)) hc
theorem low_cross (n : Int) {d : Int} (hd : 0 < d) : lowN n d * d = n * lowD n d := by
  have h := low_parts n hd
  generalize lowN n d = p at h ⊢
  generalize lowD n d = q at h ⊢
  generalize gcdZ n d = g at h
  rw [← h.1, ← h.2, Int.mul_assoc, Int.mul_comm g q, Int.mul_comm q g]
/- Fractions as plain numbers: the laws of a field. -/

/- Fractions in lowest terms as rational numbers; plain. -/

structure Is (q : Rat) (n d : Int) : Prop where
  num : q.num = n
  den : (q.den : Int) = d
theorem Is.pos {q : Rat} {n d : Int} (h : Is q n d) : 0 < d := by
  have := q.den_pos
  rw [← h.den]
  omega
theorem Is.low {q : Rat} {n d : Int} (h : Is q n d) : gcdZ n d = 1 := by
  have := q.reduced
  unfold gcdZ
  rw [← h.num, ← h.den, Int.natAbs_natCast]
  exact congrArg (fun k : Nat => (k : Int)) this
theorem Is.of (q : Rat) : Is q q.num q.den := ⟨rfl, rfl⟩
theorem Is.eq {q : Rat} {n d : Int} (h : Is q n d) : q = Rat.divInt n d := by
  rw [← h.num, ← h.den, Rat.num_divInt_den]
theorem Is.one {a b : Rat} {n d m f : Int} (h : Is a n d) (g : Is b m f) : a = b ↔ n = m ∧ d = f := by
  constructor
  · rintro rfl
    exact ⟨h.num.symm.trans g.num, h.den.symm.trans g.den⟩
  · rintro ⟨rfl, rfl⟩
    rw [h.eq, g.eq]
theorem Is.uniq {q : Rat} {n d m f : Int} (h : Is q n d) (g : Is q m f) : n = m ∧ d = f := (h.one g).1 rfl
theorem is_of {n d : Int} (hd : 0 < d) (hg : gcdZ n d = 1) : Is (Rat.divInt n d) n d := by
  have hc : Nat.Coprime n.natAbs d.natAbs := by
    unfold gcdZ at hg
    exact_mod_cast hg
  have e : Rat.divInt n d = ⟨n, d.natAbs, by omega, hc⟩ := by
    rw [Rat.mk_eq_divInt, show ((d.natAbs : Nat) : Int) = d by omega]
  rw [e]
  exact ⟨rfl, by show ((d.natAbs : Nat) : Int) = d; omega⟩
theorem low_neg {n d : Int} (hd : d < 0) : lowN n d = lowN (-n) (-d) ∧ lowD n d = lowD (-n) (-d) := by
  unfold lowN lowD
  have eg : gcdZ (-n) (-d) = gcdZ n d := by unfold gcdZ; rw [Int.natAbs_neg, Int.natAbs_neg]
  rw [if_pos hd, if_pos hd, if_neg (by omega), if_neg (by omega), eg, Int.neg_tdiv, Int.neg_tdiv]
  exact ⟨rfl, rfl⟩
theorem is_low (n : Int) {d : Int} (hd : d ≠ 0) : Is (Rat.divInt n d) (lowN n d) (lowD n d) := by
  have key : ∀ (n : Int) {d : Int}, 0 < d → Is (Rat.divInt n d) (lowN n d) (lowD n d) := fun n d hd => by
    have e : Rat.divInt n d = Rat.divInt (lowN n d) (lowD n d) := by
      have h2 := lowD_pos n hd
      rw [Rat.divInt_eq_divInt_iff (by omega) (by omega)]
      exact (low_cross n hd).symm
    rw [e]
    exact is_of (lowD_pos n hd) (low_one n hd)
  rcases Int.lt_or_gt_of_ne hd with h | h
  · rw [(low_neg h).1, (low_neg h).2, ← Rat.neg_divInt_neg]
    exact key _ (by omega)
  · exact key _ h
section
variable {a b : Rat} {n d m f : Int} (h : Is a n d) (g : Is b m f)
include h g
theorem is_add : Is (a + b) (addN n d m f) (addD n d m f) := by
  have h1 := h.pos
  have h2 := g.pos
  rw [h.eq, g.eq, Rat.divInt_add_divInt _ _ (by omega) (by omega)]
  exact is_low _ (Int.mul_ne_zero (by omega) (by omega))
theorem is_sub : Is (a - b) (subN n d m f) (subD n d m f) := by
  have h1 := h.pos
  have h2 := g.pos
  rw [h.eq, g.eq, Rat.divInt_sub_divInt _ _ (by omega) (by omega)]
  exact is_low _ (Int.mul_ne_zero (by omega) (by omega))
theorem is_mul : Is (a * b) (mulN n d m f) (mulD n d m f) := by
  have h1 := h.pos
  have h2 := g.pos
  rw [h.eq, g.eq, Rat.divInt_mul_divInt]
  exact is_low _ (Int.mul_ne_zero (by omega) (by omega))
theorem is_quo (hb : b ≠ 0) : Is (a / b) (quoN n d m f) (quoD n d m f) := by
  have h1 := h.pos
  have h2 := g.pos
  have h3 : m ≠ 0 := fun e => hb (by rw [← Rat.num_eq_zero, g.num, e])
  rw [h.eq, g.eq, Rat.div_def, Rat.inv_divInt, Rat.divInt_mul_divInt]
  exact is_low _ (Int.mul_ne_zero (by omega) h3)
end
theorem is_zero : Is 0 0 1 := ⟨rfl, rfl⟩
theorem Is.nought {q : Rat} {n d : Int} (h : Is q n d) : n = 0 ↔ q = 0 := by rw [← Rat.num_eq_zero, h.num]
theorem fine_is {n d : Int} (f : Fine n d) : Is (Rat.divInt n d) n d := is_of f.pos f.low
theorem Is.fine {q : Rat} {n d : Int} (h : Is q n d) (h1 : lz n ≤ 2048) (h2 : lz d ≤ 2048) : Fine n d := by
  have f1 : Fit n := h1
  have f2 : Fit d := h2
  refine ⟨?_, h1, h2, h.pos, h.low⟩
  unfold chkE mkOk
  rw [f1.ok, f2.ok, ival_at, ival_at]
  simp only [Bool.and_self, if_true]
  rw [if_pos ⟨h.pos, h.low⟩]
/- Lowest of package ratio over two numbers that lie apart: so do the answer's. (Written by wip/gauss/genlowfresh.py.) -/

theorem efresh_one_neg (n d : Int) (A B : Option Addr) (c e0 b : Nat) (w : World) (h_n : Raw w A c (natL n.natAbs)) (h_d : Raw w B e0 (natL d.natAbs)) (o_n : IntOwn w b (.agg #[.bool (decide (n < 0)), .slice A (natL n.natAbs).length c]) n) (o_d : IntOwn w b (.agg #[.bool (decide (d < 0)), .slice B (natL d.natAbs).length e0]) d) (hap : ∀ g, (Value.slice A (natL n.natAbs).length c).ownBlock = some g → (Value.slice B (natL d.natAbs).length e0).ownBlock ≠ some g) (hbw : b ≤ w.heap.size) (hn : lz n ≤ 400000000) (hd : lz d ≤ 400000000) (hd0 : d ≠ 0) (hs0 : d < 0) (hgc : gcdZ n d = 1) :
    Calls Tryz.prog 95 #[.agg #[.bool (decide (n < 0)), .slice A (natL n.natAbs).length c], .agg #[.bool (decide (d < 0)), .slice B (natL d.natAbs).length e0]] w (RetFracOwn b w (lowN n d) (lowD n d)) := by
  obtain ⟨g, hg⟩ : ∃ k : Int, k = gcdZ n d := ⟨_, rfl⟩
  obtain ⟨one, hone⟩ : ∃ k : Int, k = 1 := ⟨_, rfl⟩
  obtain ⟨q, hq⟩ : ∃ k : Int, k = n.tdiv g := ⟨_, rfl⟩
  obtain ⟨r, hr⟩ : ∃ k : Int, k = n.tmod g := ⟨_, rfl⟩
  obtain ⟨p, hp⟩ : ∃ k : Int, k = d.tdiv g := ⟨_, rfl⟩
  obtain ⟨s, hs⟩ : ∃ k : Int, k = d.tmod g := ⟨_, rfl⟩
  obtain ⟨q', hq'⟩ : ∃ k : Int, k = -q := ⟨_, rfl⟩
  obtain ⟨p', hp'⟩ : ∃ k : Int, k = -p := ⟨_, rfl⟩
  have hgp := gcdZ_pos (n := n) hd0
  have hgl := gcdZ_lz (n := n) hd0
  rw [← hg] at hgp hgl hgc
  have hql : lz q ≤ lz n := by rw [hq]; exact tdiv_lz n g
  have hpl : lz p ≤ lz d := by rw [hp]; exact tdiv_lz d g
  have hps : p.sign = d.sign := by rw [hp, hg]; exact tdiv_sign hd0
  have hol : lz one ≤ 2 := by rw [hone]; decide
  obtain ⟨sg, hsg⟩ : ∃ k : Int, k = p.sign := ⟨_, rfl⟩
  have HSG := Hd hsg
  have HSN := Hd (show decide (sg < 0) = true from by
    rw [hsg, hps]
    exact decide_eq_true (by rw [Int.sign_eq_neg_one_of_neg hs0]; decide))
  have HG := Hd (show g = ((Nat.gcd n.natAbs d.natAbs : Nat) : Int) from hg)
  have H1 := Hd hone
  have HG0 := Hd (show g ≠ 0 from by omega)
  have HQ := Hd (And.intro hq hr)
  have HP := Hd (And.intro hp hs)
  have HN1 := Hd hq'
  have HN2 := Hd hp'
  have HK := Hd (show (0 : Int) = cmpz g one from by rw [hone]; rw [hgc]; decide)
  have HLN := Hd (show lowN n d = q' ∧ lowD n d = p' from by
    unfold lowN lowD
    rw [if_pos hs0, if_pos hs0, ← hg, ← hq, ← hp, hq', hp']
    exact ⟨rfl, rfl⟩)
  have HQN := Hd (show q = n ∧ p = d from by rw [hq, hp, hgc]; exact ⟨Int.tdiv_one _, Int.tdiv_one _⟩)
  have OW_n := Hd o_n
  have OW_d := Hd o_d
  have HAP := Hd hap
  have _ := hbw
  clear o_n o_d hap
  clear hgc hg hone hq hr hp hs hq' hp' hs0 hsg hps hd0
  have b0 := ((((Below.refl w.heap.size w).alloc (Nat.le_refl _) (.cells #[.bool (decide (n < 0)), .slice A (natL n.natAbs).length c] 25)).alloc (by simp) (.cells #[.bool (decide (d < 0)), .slice B (natL d.natAbs).length e0] 25)).alloc (by simp; omega) (.cells #[.bool false, .slice none 0 0, .bool false, .slice none 0 0] 27))
  have p0 := ((Pair.new w 25 (.bool (decide (n < 0))) (.slice A (natL n.natAbs).length c)).alloc (.cells #[.bool (decide (d < 0)), .slice B (natL d.natAbs).length e0] 25)).alloc (.cells #[.bool false, .slice none 0 0, .bool false, .slice none 0 0] 27)
  have p1 := (Pair.new (w.alloc (.cells #[.bool (decide (n < 0)), .slice A (natL n.natAbs).length c] 25)) 25 (.bool (decide (d < 0))) (.slice B (natL d.natAbs).length e0)).alloc (.cells #[.bool false, .slice none 0 0, .bool false, .slice none 0 0] 27)
  have p2 := Quad.new ((w.alloc (.cells #[.bool (decide (n < 0)), .slice A (natL n.natAbs).length c] 25)).alloc (.cells #[.bool (decide (d < 0)), .slice B (natL d.natAbs).length e0] 25)) (.bool false) (.slice none 0 0) (.bool false) (.slice none 0 0)
  simp only [World.size_alloc] at p1 p2
  have V_n := Hd (NV.of h_n b0 p0)
  have V_d := Hd (NV.of h_d b0 p1)
  have P_r0 := Hd p2
  have RW_n := Hd h_n
  have RW_d := Hd h_d
  have HBW := Hd b0
  clear b0 p0 p1 p2 h_n h_d
  go_enter Tryz.func95, Tryz.ntmps95
  obtain ⟨W, E⟩ : ∃ W, W = (((w.alloc (.cells #[.bool (decide (n < 0)), .slice A (natL n.natAbs).length c] 25)).alloc (.cells #[.bool (decide (d < 0)), .slice B (natL d.natAbs).length e0] 25)).alloc (.cells #[.bool false, .slice none 0 0, .bool false, .slice none 0 0] 27)) := ⟨_, rfl⟩
  go_upto_region 1 with fail
  rw [← E] at V_n V_d P_r0 HBW ⊢
  clear E
  have hsz := P_r0.out.blk.lt
  have O_n0 := Hd (OW_n.out.below HBW.out)
  have O_d0 := Hd (OW_d.out.below HBW.out)
  clear OW_n OW_d
  obtain ⟨l_n, a_n, b_n, -, -⟩ := V_n.out.pair.facts
  obtain ⟨l_d, a_d, b_d, -, -⟩ := V_d.out.pair.facts
  go_wp2_with fail
  refine (ecommon n d g A B c e0 W V_n.out.raw V_d.out.raw (by omega) (by omega) HG.out).mono ?_
  rintro e x1 ⟨v, rfl, hI, hb⟩
  obtain ⟨A1, c1, rfl, r1⟩ := hI.raw
  have hIg := hI.base (Nat.zero_le _)
  have hszg := hb.size
  clear l_n a_n b_n l_d a_d b_d
  have V_n := Hd (V_n.out.below hb)
  have V_d := Hd (V_d.out.below hb)
  have P_r0 := Hd (P_r0.out.below hb)
  have O_n0 := Hd (O_n0.out.below hb)
  have O_d0 := Hd (O_d0.out.below hb)
  have HBW := Hd (belowTo HBW.out hb)
  have R_g := Hd r1
  clear hb r1
  have O_g := Hd hIg
  clear hI hIg
  go_upto_region 2 with fail
  have ha := ((Below.refl x1.heap.size x1).alloc (Nat.le_refl _) (.cells #[.bool (decide (g < 0)), .slice A1 (natL g.natAbs).length c1] 25))
  have p_g := (Pair.new x1 25 (.bool (decide (g < 0))) (.slice A1 (natL g.natAbs).length c1))
  obtain ⟨y2, E⟩ : ∃ W, W = (x1.alloc (.cells #[.bool (decide (g < 0)), .slice A1 (natL g.natAbs).length c1] 25)) := ⟨_, rfl⟩
  rw [← E] at ha p_g ⊢
  have V_g := Hd (NV.of R_g.out ha p_g)
  have V_n := Hd (V_n.out.below ha)
  have V_d := Hd (V_d.out.below ha)
  have P_r0 := Hd (P_r0.out.below ha)
  have O_n0 := Hd (O_n0.out.below ha)
  have O_d0 := Hd (O_d0.out.below ha)
  have O_g := Hd (O_g.out.below ha)
  have HBW := Hd (belowTo HBW.out ha)
  obtain ⟨g2, hg⟩ : ∃ g, g = x1.heap.size := ⟨_, rfl⟩
  rw [← hg] at V_g ⊢
  have hge2 : x1.heap.size ≤ g2 := by omega
  clear E ha hg p_g
  go_wp2_with fail
  obtain ⟨W0, hW⟩ : ∃ W0, W0 = y2 := ⟨_, rfl⟩
  rw [← hW] at HBW P_r0 O_n0 O_d0 O_g V_n V_d V_g  ⊢
  clear hW
  refine wp_region_free [.val (.agg #[.bool (decide (g < 0)), .slice A1 (natL g.natAbs).length c1]) [], .any false (fun u0 V => IntAt V u0 one) [], .val (.int .i64 0) [1], .val (.bool false) []] W0.heap.size W0 [] (fun _ _ => False) _ mixedOrders2 (Nat.le_refl _) (Below.refl _ _) (KeptV.refl _ _ _) rfl (by kernel_rfl) (by kernel_rfl) (by kernel_rfl) (by kernel_rfl) (by kernel_rfl) (by kernel_rfl) (by kernel_rfl) (by kernel_rfl) rfl (by simp [oldsF]) ?_ ?_ ?_ ?_
  · simp only [StableF, and_true]
    exact fun u0 V V' h k => h.keptNone k
  · simp only [OldsF]
  · simp (maxSteps := 4000000) [StepsF, DepF, freeAct, fill, pairs]
    repeat' (first | apply And.intro | (intro (u0 : Value)))
    all_goals first
    | (intro V hV hK
       obtain ⟨-, a_g, b_g, -, -⟩ := (V_g.out.below hV).pair.facts
       have r_g := Hd (V_g.out.below hV).raw
       clear hV hK
       go_simp
       first
       | exact Below.refl _ _
       | exact ⟨by first | rfl | decide | go_num, Below.refl _ _⟩
       | ((with_reducible refine (eof 1 one H1.out (by decide) (by decide) V).mono ?_); rintro e w' ⟨v, rfl, hv, hb⟩; exact ⟨hv.at_, hb⟩))
    | (intro V hV hK hu
       obtain ⟨A', c', rfl, hr⟩ := hu.form
       have r_g := Hd (V_g.out.below hV).raw
       have r' := Hd hr
       clear hV hK hu hr
       go_simp
       (with_reducible refine (ecmp g one 0 A1 A' c1 c' V r_g.out r'.out (by omega) (by omega) HK.out).mono ?_)
       rintro e w' ⟨rfl, hb⟩
       exact ⟨rfl, hb⟩)
  · simp [EndF, FactsF, freeAct, fill, pairs]
    intro u1 V hV hK _ _ _ _
    have V_n := Hd (V_n.out.below hV)
    have V_d := Hd (V_d.out.below hV)
    have V_g := Hd (V_g.out.below hV)
    have P_r0 := Hd (P_r0.out.below hV)
    have O_n0 := Hd (O_n0.out.below hV)
    have O_d0 := Hd (O_d0.out.below hV)
    have O_g := Hd (O_g.out.below hV)
    have HBW := Hd (belowTo HBW.out hV)
    clear hV hK
    obtain ⟨v3, hV0⟩ : ∃ Y, Y = V := ⟨_, rfl⟩
    rw [← hV0] at HBW P_r0 O_n0 O_d0 O_g V_n V_d V_g  ⊢
    clear hV0
    obtain ⟨rfl, rfl⟩ := HQN.out
    have hsn := HSN.out
    obtain ⟨l_d, a_d, b_d, -, -⟩ := V_d.out.pair.facts
    go_wp2_with fail
    refine (esign p sg B e0 v3 V_d.out.raw HSG.out).mono ?_
    rintro e x4 ⟨rfl, hb⟩
    clear l_d a_d b_d
    have V_n := Hd (V_n.out.below hb)
    have V_d := Hd (V_d.out.below hb)
    have V_g := Hd (V_g.out.below hb)
    have P_r0 := Hd (P_r0.out.below hb)
    have O_n0 := Hd (O_n0.out.below hb)
    have O_d0 := Hd (O_d0.out.below hb)
    have O_g := Hd (O_g.out.below hb)
    have HBW := Hd (belowTo HBW.out hb)
    clear hb
    go_upto_region 6 with fail
    clear hsn
    go_wp2_with fail
    have hszz := P_r0.out.blk.lt
    refine wp_region_free [.val (.agg #[.bool (decide (q < 0)), .slice A (natL q.natAbs).length c]) [1004], .any true (fun u V => IntOwn V b u q') [], .val (.agg #[.bool (decide (p < 0)), .slice B (natL p.natAbs).length e0]) [1005], .any true (fun u V => IntOwn V b u p') [], .old (w.heap.size) 25 #[.bool (decide (q < 0)), .slice A (natL q.natAbs).length c] 0 2 1 [], .old (w.heap.size + 1) 25 #[.bool (decide (p < 0)), .slice B (natL p.natAbs).length e0] 0 2 3 []] w.heap.size x4 [25] blkInt _ mixedOrders2 (by omega) (Below.refl _ _) (KeptV.refl _ _ _) rfl (by kernel_rfl) (by kernel_rfl) (by kernel_rfl) (by kernel_rfl) (by kernel_rfl) (by kernel_rfl) (by kernel_rfl) (by kernel_rfl) rfl (by simp [oldsF]) ?_ ?_ ?_ ?_
    · simp only [StableF, and_true]
      exact ⟨fun u V V' h k => h.kept k (by decide), fun u V V' h k => h.kept k (by decide)⟩
    · simp only [OldsF, and_true]
      exact ⟨⟨by omega, by omega, V_n.out.pair.blk, by simp⟩, by omega, by omega, V_d.out.pair.blk, by simp⟩
    · simp (maxSteps := 4000000) [StepsF, DepF, freeAct, fill, pairs]
      repeat' (first | apply And.intro | (intro (u : Value)) | (intro (u : Nat)))
      all_goals try exact ⟨_, _, _, rfl, rfl, rfl, rfl, intInfo⟩
      all_goals first
      | (intro V hV hK hp
         obtain ⟨-, a_p, b_p, -, -⟩ := (Pair.mk hp).facts
         clear hV hK hp
         go_simp
         exact Below.refl _ _)
      | (intro V hV hK
         have rn := Hd ((O_n0.out.kept hK (by decide)).rawAt)
         have rd := Hd ((O_d0.out.kept hK (by decide)).rawAt)
         have hbV : b ≤ V.heap.size := Nat.le_trans hbw (Nat.le_trans HBW.out.size hV.size)
         clear hV hK
         go_simp
         first
         | ((with_reducible refine (eturned q q' A c V rn.out (by omega) HN1.out).mono ?_); rintro e w' ⟨v, rfl, hv, hb⟩; exact ⟨hv.base hbV, hb, hv.mine⟩)
         | ((with_reducible refine (eturned p p' B e0 V rd.out (by omega) HN2.out).mono ?_); rintro e w' ⟨v, rfl, hv, hb⟩; exact ⟨hv.base hbV, hb, hv.mine⟩))
      | exact fun _ _ _ (h : IntOwn _ _ _ _) => h.cells
    · simp [EndF, FactsF, freeAct, fill, pairs]
      intro u1 u2 V hV hK h1 h2 p1 p2 hq _ _
      obtain ⟨A6, c6, rfl, r6⟩ := h1.raw
      obtain ⟨A7, c7, rfl, r7⟩ := h2.raw
      simp [setAll, Value.cells] at p1 p2
      have V_n := Hd (show NV V (w.heap.size) q' A6 c6 from ⟨⟨p1⟩, r6⟩)
      have V_d := Hd (show NV V (w.heap.size + 1) p' A7 c7 from ⟨⟨p2⟩, r7⟩)
      have HBW := Hd (HBW.out.trans hV)
      have P_r0 := Hd (show Quad V _ _ _ _ _ from ⟨hK.blk P_r0.out.blk (by decide)⟩)
      have O_n9 := Hd h1
      have O_d9 := Hd h2
      have HAP := Hd (show ∀ g, (Value.slice A6 (natL q'.natAbs).length c6).ownBlock = some g → (Value.slice A7 (natL p'.natAbs).length c7).ownBlock ≠ some g from fun g => hq 1 3 rfl rfl (by decide) g)
      clear hq hV hK h1 h2 p1 p2 r6 r7
      obtain ⟨l_n, a_n, b_n, -, -⟩ := V_n.out.pair.facts
      obtain ⟨l_d, a_d, b_d, -, -⟩ := V_d.out.pair.facts
      obtain ⟨l_r, c_r0, c_r1, c_r2, c_r3, f_r0, f_r1, f_r2, f_r3⟩ := P_r0.out.facts
      have HQ9 := Hd (P_r0.out.store (.bool (decide (q' < 0))) (.slice A6 (natL q'.natAbs).length c6) (.bool (decide (p' < 0))) (.slice A7 (natL p'.natAbs).length c7))
      have HB9 := Hd (below4 HBW.out (show w.heap.size ≤ w.heap.size + 1 + 1 by omega) (.bool (decide (q' < 0))) (.slice A6 (natL q'.natAbs).length c6) (.bool (decide (p' < 0))) (.slice A7 (natL p'.natAbs).length c7))
      have HF := Hd (show FracOwn ((((V.setCell ⟨w.heap.size + 1 + 1, 0, none⟩ (.bool (decide (q' < 0)))).setCell ⟨w.heap.size + 1 + 1, 1, none⟩ (.slice A6 (natL q'.natAbs).length c6)).setCell ⟨w.heap.size + 1 + 1, 2, none⟩ (.bool (decide (p' < 0)))).setCell ⟨w.heap.size + 1 + 1, 3, none⟩ (.slice A7 (natL p'.natAbs).length c7)) b (.agg #[.bool (decide (q' < 0)), .slice A6 (natL q'.natAbs).length c6, .bool (decide (p' < 0)), .slice A7 (natL p'.natAbs).length c7]) q' p' from ⟨_, _, _, _, rfl, O_n9.out.quad P_r0.out _ _ _ _, O_d9.out.quad P_r0.out _ _ _ _, HAP.out⟩)
      go_wp2_with fail
      obtain ⟨_, k0, k1, k2, k3, _⟩ := HQ9.out.facts
      exact bodyPost_ret (by simp [results, Tryz.results95, go_sem, k0, k1, k2, k3]) rfl ⟨.agg #[.bool (decide (q' < 0)), .slice A6 (natL q'.natAbs).length c6, .bool (decide (p' < 0)), .slice A7 (natL p'.natAbs).length c7], rfl, by rw [HLN.out.1, HLN.out.2]; exact HF.out, HB9.out⟩

theorem efresh_one_pos (n d : Int) (A B : Option Addr) (c e0 b : Nat) (w : World) (h_n : Raw w A c (natL n.natAbs)) (h_d : Raw w B e0 (natL d.natAbs)) (o_n : IntOwn w b (.agg #[.bool (decide (n < 0)), .slice A (natL n.natAbs).length c]) n) (o_d : IntOwn w b (.agg #[.bool (decide (d < 0)), .slice B (natL d.natAbs).length e0]) d) (hap : ∀ g, (Value.slice A (natL n.natAbs).length c).ownBlock = some g → (Value.slice B (natL d.natAbs).length e0).ownBlock ≠ some g) (hbw : b ≤ w.heap.size) (hn : lz n ≤ 400000000) (hd : lz d ≤ 400000000) (hd0 : d ≠ 0) (hs0 : ¬ d < 0) (hgc : gcdZ n d = 1) :
    Calls Tryz.prog 95 #[.agg #[.bool (decide (n < 0)), .slice A (natL n.natAbs).length c], .agg #[.bool (decide (d < 0)), .slice B (natL d.natAbs).length e0]] w (RetFracOwn b w (lowN n d) (lowD n d)) := by
  obtain ⟨g, hg⟩ : ∃ k : Int, k = gcdZ n d := ⟨_, rfl⟩
  obtain ⟨one, hone⟩ : ∃ k : Int, k = 1 := ⟨_, rfl⟩
  obtain ⟨q, hq⟩ : ∃ k : Int, k = n.tdiv g := ⟨_, rfl⟩
  obtain ⟨r, hr⟩ : ∃ k : Int, k = n.tmod g := ⟨_, rfl⟩
  obtain ⟨p, hp⟩ : ∃ k : Int, k = d.tdiv g := ⟨_, rfl⟩
  obtain ⟨s, hs⟩ : ∃ k : Int, k = d.tmod g := ⟨_, rfl⟩
  obtain ⟨q', hq'⟩ : ∃ k : Int, k = -q := ⟨_, rfl⟩
  obtain ⟨p', hp'⟩ : ∃ k : Int, k = -p := ⟨_, rfl⟩
  have hgp := gcdZ_pos (n := n) hd0
  have hgl := gcdZ_lz (n := n) hd0
  rw [← hg] at hgp hgl hgc
  have hql : lz q ≤ lz n := by rw [hq]; exact tdiv_lz n g
  have hpl : lz p ≤ lz d := by rw [hp]; exact tdiv_lz d g
  have hps : p.sign = d.sign := by rw [hp, hg]; exact tdiv_sign hd0
  have hol : lz one ≤ 2 := by rw [hone]; decide
  obtain ⟨sg, hsg⟩ : ∃ k : Int, k = p.sign := ⟨_, rfl⟩
  have HSG := Hd hsg
  have HSN := Hd (show decide (sg < 0) = false from by
    rw [hsg, hps]
    exact decide_eq_false (by have := sign_cases d; omega))
  have HG := Hd (show g = ((Nat.gcd n.natAbs d.natAbs : Nat) : Int) from hg)
  have H1 := Hd hone
  have HG0 := Hd (show g ≠ 0 from by omega)
  have HQ := Hd (And.intro hq hr)
  have HP := Hd (And.intro hp hs)
  have HN1 := Hd hq'
  have HN2 := Hd hp'
  have HK := Hd (show (0 : Int) = cmpz g one from by rw [hone]; rw [hgc]; decide)
  have HLN := Hd (show lowN n d = q ∧ lowD n d = p from by
    unfold lowN lowD
    rw [if_neg hs0, if_neg hs0, ← hg, ← hq, ← hp]
    exact ⟨rfl, rfl⟩)
  have HQN := Hd (show q = n ∧ p = d from by rw [hq, hp, hgc]; exact ⟨Int.tdiv_one _, Int.tdiv_one _⟩)
  have OW_n := Hd o_n
  have OW_d := Hd o_d
  have HAP := Hd hap
  have _ := hbw
  clear o_n o_d hap
  clear hgc hg hone hq hr hp hs hq' hp' hs0 hsg hps hd0
  have b0 := ((((Below.refl w.heap.size w).alloc (Nat.le_refl _) (.cells #[.bool (decide (n < 0)), .slice A (natL n.natAbs).length c] 25)).alloc (by simp) (.cells #[.bool (decide (d < 0)), .slice B (natL d.natAbs).length e0] 25)).alloc (by simp; omega) (.cells #[.bool false, .slice none 0 0, .bool false, .slice none 0 0] 27))
  have p0 := ((Pair.new w 25 (.bool (decide (n < 0))) (.slice A (natL n.natAbs).length c)).alloc (.cells #[.bool (decide (d < 0)), .slice B (natL d.natAbs).length e0] 25)).alloc (.cells #[.bool false, .slice none 0 0, .bool false, .slice none 0 0] 27)
  have p1 := (Pair.new (w.alloc (.cells #[.bool (decide (n < 0)), .slice A (natL n.natAbs).length c] 25)) 25 (.bool (decide (d < 0))) (.slice B (natL d.natAbs).length e0)).alloc (.cells #[.bool false, .slice none 0 0, .bool false, .slice none 0 0] 27)
  have p2 := Quad.new ((w.alloc (.cells #[.bool (decide (n < 0)), .slice A (natL n.natAbs).length c] 25)).alloc (.cells #[.bool (decide (d < 0)), .slice B (natL d.natAbs).length e0] 25)) (.bool false) (.slice none 0 0) (.bool false) (.slice none 0 0)
  simp only [World.size_alloc] at p1 p2
  have V_n := Hd (NV.of h_n b0 p0)
  have V_d := Hd (NV.of h_d b0 p1)
  have P_r0 := Hd p2
  have RW_n := Hd h_n
  have RW_d := Hd h_d
  have HBW := Hd b0
  clear b0 p0 p1 p2 h_n h_d
  go_enter Tryz.func95, Tryz.ntmps95
  obtain ⟨W, E⟩ : ∃ W, W = (((w.alloc (.cells #[.bool (decide (n < 0)), .slice A (natL n.natAbs).length c] 25)).alloc (.cells #[.bool (decide (d < 0)), .slice B (natL d.natAbs).length e0] 25)).alloc (.cells #[.bool false, .slice none 0 0, .bool false, .slice none 0 0] 27)) := ⟨_, rfl⟩
  go_upto_region 1 with fail
  rw [← E] at V_n V_d P_r0 HBW ⊢
  clear E
  have hsz := P_r0.out.blk.lt
  have O_n0 := Hd (OW_n.out.below HBW.out)
  have O_d0 := Hd (OW_d.out.below HBW.out)
  clear OW_n OW_d
  obtain ⟨l_n, a_n, b_n, -, -⟩ := V_n.out.pair.facts
  obtain ⟨l_d, a_d, b_d, -, -⟩ := V_d.out.pair.facts
  go_wp2_with fail
  refine (ecommon n d g A B c e0 W V_n.out.raw V_d.out.raw (by omega) (by omega) HG.out).mono ?_
  rintro e x1 ⟨v, rfl, hI, hb⟩
  obtain ⟨A1, c1, rfl, r1⟩ := hI.raw
  have hIg := hI.base (Nat.zero_le _)
  have hszg := hb.size
  clear l_n a_n b_n l_d a_d b_d
  have V_n := Hd (V_n.out.below hb)
  have V_d := Hd (V_d.out.below hb)
  have P_r0 := Hd (P_r0.out.below hb)
  have O_n0 := Hd (O_n0.out.below hb)
  have O_d0 := Hd (O_d0.out.below hb)
  have HBW := Hd (belowTo HBW.out hb)
  have R_g := Hd r1
  clear hb r1
  have O_g := Hd hIg
  clear hI hIg
  go_upto_region 2 with fail
  have ha := ((Below.refl x1.heap.size x1).alloc (Nat.le_refl _) (.cells #[.bool (decide (g < 0)), .slice A1 (natL g.natAbs).length c1] 25))
  have p_g := (Pair.new x1 25 (.bool (decide (g < 0))) (.slice A1 (natL g.natAbs).length c1))
  obtain ⟨y2, E⟩ : ∃ W, W = (x1.alloc (.cells #[.bool (decide (g < 0)), .slice A1 (natL g.natAbs).length c1] 25)) := ⟨_, rfl⟩
  rw [← E] at ha p_g ⊢
  have V_g := Hd (NV.of R_g.out ha p_g)
  have V_n := Hd (V_n.out.below ha)
  have V_d := Hd (V_d.out.below ha)
  have P_r0 := Hd (P_r0.out.below ha)
  have O_n0 := Hd (O_n0.out.below ha)
  have O_d0 := Hd (O_d0.out.below ha)
  have O_g := Hd (O_g.out.below ha)
  have HBW := Hd (belowTo HBW.out ha)
  obtain ⟨g2, hg⟩ : ∃ g, g = x1.heap.size := ⟨_, rfl⟩
  rw [← hg] at V_g ⊢
  have hge2 : x1.heap.size ≤ g2 := by omega
  clear E ha hg p_g
  go_wp2_with fail
  obtain ⟨W0, hW⟩ : ∃ W0, W0 = y2 := ⟨_, rfl⟩
  rw [← hW] at HBW P_r0 O_n0 O_d0 O_g V_n V_d V_g  ⊢
  clear hW
  refine wp_region_free [.val (.agg #[.bool (decide (g < 0)), .slice A1 (natL g.natAbs).length c1]) [], .any false (fun u0 V => IntAt V u0 one) [], .val (.int .i64 0) [1], .val (.bool false) []] W0.heap.size W0 [] (fun _ _ => False) _ mixedOrders2 (Nat.le_refl _) (Below.refl _ _) (KeptV.refl _ _ _) rfl (by kernel_rfl) (by kernel_rfl) (by kernel_rfl) (by kernel_rfl) (by kernel_rfl) (by kernel_rfl) (by kernel_rfl) (by kernel_rfl) rfl (by simp [oldsF]) ?_ ?_ ?_ ?_
  · simp only [StableF, and_true]
    exact fun u0 V V' h k => h.keptNone k
  · simp only [OldsF]
  · simp (maxSteps := 4000000) [StepsF, DepF, freeAct, fill, pairs]
    repeat' (first | apply And.intro | (intro (u0 : Value)))
    all_goals first
    | (intro V hV hK
       obtain ⟨-, a_g, b_g, -, -⟩ := (V_g.out.below hV).pair.facts
       have r_g := Hd (V_g.out.below hV).raw
       clear hV hK
       go_simp
       first
       | exact Below.refl _ _
       | exact ⟨by first | rfl | decide | go_num, Below.refl _ _⟩
       | ((with_reducible refine (eof 1 one H1.out (by decide) (by decide) V).mono ?_); rintro e w' ⟨v, rfl, hv, hb⟩; exact ⟨hv.at_, hb⟩))
    | (intro V hV hK hu
       obtain ⟨A', c', rfl, hr⟩ := hu.form
       have r_g := Hd (V_g.out.below hV).raw
       have r' := Hd hr
       clear hV hK hu hr
       go_simp
       (with_reducible refine (ecmp g one 0 A1 A' c1 c' V r_g.out r'.out (by omega) (by omega) HK.out).mono ?_)
       rintro e w' ⟨rfl, hb⟩
       exact ⟨rfl, hb⟩)
  · simp [EndF, FactsF, freeAct, fill, pairs]
    intro u1 V hV hK _ _ _ _
    have V_n := Hd (V_n.out.below hV)
    have V_d := Hd (V_d.out.below hV)
    have V_g := Hd (V_g.out.below hV)
    have P_r0 := Hd (P_r0.out.below hV)
    have O_n0 := Hd (O_n0.out.below hV)
    have O_d0 := Hd (O_d0.out.below hV)
    have O_g := Hd (O_g.out.below hV)
    have HBW := Hd (belowTo HBW.out hV)
    clear hV hK
    obtain ⟨v3, hV0⟩ : ∃ Y, Y = V := ⟨_, rfl⟩
    rw [← hV0] at HBW P_r0 O_n0 O_d0 O_g V_n V_d V_g  ⊢
    clear hV0
    obtain ⟨rfl, rfl⟩ := HQN.out
    have hsn := HSN.out
    obtain ⟨l_d, a_d, b_d, -, -⟩ := V_d.out.pair.facts
    go_wp2_with fail
    refine (esign p sg B e0 v3 V_d.out.raw HSG.out).mono ?_
    rintro e x4 ⟨rfl, hb⟩
    clear l_d a_d b_d
    have V_n := Hd (V_n.out.below hb)
    have V_d := Hd (V_d.out.below hb)
    have V_g := Hd (V_g.out.below hb)
    have P_r0 := Hd (P_r0.out.below hb)
    have O_n0 := Hd (O_n0.out.below hb)
    have O_d0 := Hd (O_d0.out.below hb)
    have O_g := Hd (O_g.out.below hb)
    have HBW := Hd (belowTo HBW.out hb)
    clear hb
    go_upto_region 7 with fail
    clear hsn
    obtain ⟨l_n, a_n, b_n, -, -⟩ := V_n.out.pair.facts
    obtain ⟨l_d, a_d, b_d, -, -⟩ := V_d.out.pair.facts
    obtain ⟨l_r, c_r0, c_r1, c_r2, c_r3, f_r0, f_r1, f_r2, f_r3⟩ := P_r0.out.facts
    have HQ9 := Hd (P_r0.out.store (.bool (decide (q < 0))) (.slice A (natL q.natAbs).length c) (.bool (decide (p < 0))) (.slice B (natL p.natAbs).length e0))
    have HB9 := Hd (below4 HBW.out (show w.heap.size ≤ w.heap.size + 1 + 1 by omega) (.bool (decide (q < 0))) (.slice A (natL q.natAbs).length c) (.bool (decide (p < 0))) (.slice B (natL p.natAbs).length e0))
    have HF := Hd (show FracOwn ((((x4.setCell ⟨w.heap.size + 1 + 1, 0, none⟩ (.bool (decide (q < 0)))).setCell ⟨w.heap.size + 1 + 1, 1, none⟩ (.slice A (natL q.natAbs).length c)).setCell ⟨w.heap.size + 1 + 1, 2, none⟩ (.bool (decide (p < 0)))).setCell ⟨w.heap.size + 1 + 1, 3, none⟩ (.slice B (natL p.natAbs).length e0)) b (.agg #[.bool (decide (q < 0)), .slice A (natL q.natAbs).length c, .bool (decide (p < 0)), .slice B (natL p.natAbs).length e0]) q p from ⟨_, _, _, _, rfl, O_n0.out.quad P_r0.out _ _ _ _, O_d0.out.quad P_r0.out _ _ _ _, HAP.out⟩)
    go_wp2_with fail
    obtain ⟨_, k0, k1, k2, k3, _⟩ := HQ9.out.facts
    exact bodyPost_ret (by simp [results, Tryz.results95, go_sem, k0, k1, k2, k3]) rfl ⟨.agg #[.bool (decide (q < 0)), .slice A (natL q.natAbs).length c, .bool (decide (p < 0)), .slice B (natL p.natAbs).length e0], rfl, by rw [HLN.out.1, HLN.out.2]; exact HF.out, HB9.out⟩

theorem efresh_more_neg (n d : Int) (A B : Option Addr) (c e0 b : Nat) (w : World) (h_n : Raw w A c (natL n.natAbs)) (h_d : Raw w B e0 (natL d.natAbs)) (o_n : IntOwn w b (.agg #[.bool (decide (n < 0)), .slice A (natL n.natAbs).length c]) n) (o_d : IntOwn w b (.agg #[.bool (decide (d < 0)), .slice B (natL d.natAbs).length e0]) d) (hap : ∀ g, (Value.slice A (natL n.natAbs).length c).ownBlock = some g → (Value.slice B (natL d.natAbs).length e0).ownBlock ≠ some g) (hbw : b ≤ w.heap.size) (hn : lz n ≤ 400000000) (hd : lz d ≤ 400000000) (hd0 : d ≠ 0) (hs0 : d < 0) (hgc : 1 < gcdZ n d) :
    Calls Tryz.prog 95 #[.agg #[.bool (decide (n < 0)), .slice A (natL n.natAbs).length c], .agg #[.bool (decide (d < 0)), .slice B (natL d.natAbs).length e0]] w (RetFracOwn b w (lowN n d) (lowD n d)) := by
  obtain ⟨g, hg⟩ : ∃ k : Int, k = gcdZ n d := ⟨_, rfl⟩
  obtain ⟨one, hone⟩ : ∃ k : Int, k = 1 := ⟨_, rfl⟩
  obtain ⟨q, hq⟩ : ∃ k : Int, k = n.tdiv g := ⟨_, rfl⟩
  obtain ⟨r, hr⟩ : ∃ k : Int, k = n.tmod g := ⟨_, rfl⟩
  obtain ⟨p, hp⟩ : ∃ k : Int, k = d.tdiv g := ⟨_, rfl⟩
  obtain ⟨s, hs⟩ : ∃ k : Int, k = d.tmod g := ⟨_, rfl⟩
  obtain ⟨q', hq'⟩ : ∃ k : Int, k = -q := ⟨_, rfl⟩
  obtain ⟨p', hp'⟩ : ∃ k : Int, k = -p := ⟨_, rfl⟩
  have hgp := gcdZ_pos (n := n) hd0
  have hgl := gcdZ_lz (n := n) hd0
  rw [← hg] at hgp hgl hgc
  have hql : lz q ≤ lz n := by rw [hq]; exact tdiv_lz n g
  have hpl : lz p ≤ lz d := by rw [hp]; exact tdiv_lz d g
  have hps : p.sign = d.sign := by rw [hp, hg]; exact tdiv_sign hd0
  have hol : lz one ≤ 2 := by rw [hone]; decide
  obtain ⟨sg, hsg⟩ : ∃ k : Int, k = p.sign := ⟨_, rfl⟩
  have HSG := Hd hsg
  have HSN := Hd (show decide (sg < 0) = true from by
    rw [hsg, hps]
    exact decide_eq_true (by rw [Int.sign_eq_neg_one_of_neg hs0]; decide))
  have HG := Hd (show g = ((Nat.gcd n.natAbs d.natAbs : Nat) : Int) from hg)
  have H1 := Hd hone
  have HG0 := Hd (show g ≠ 0 from by omega)
  have HQ := Hd (And.intro hq hr)
  have HP := Hd (And.intro hp hs)
  have HN1 := Hd hq'
  have HN2 := Hd hp'
  have HK := Hd (show (1 : Int) = cmpz g one from by rw [hone]; exact (cmpz_gt (by omega)).symm)
  have HLN := Hd (show lowN n d = q' ∧ lowD n d = p' from by
    unfold lowN lowD
    rw [if_pos hs0, if_pos hs0, ← hg, ← hq, ← hp, hq', hp']
    exact ⟨rfl, rfl⟩)
  have OW_n := Hd o_n
  have OW_d := Hd o_d
  have HAP := Hd hap
  have _ := hbw
  clear o_n o_d hap
  clear hgc hg hone hq hr hp hs hq' hp' hs0 hsg hps hd0
  have b0 := ((((Below.refl w.heap.size w).alloc (Nat.le_refl _) (.cells #[.bool (decide (n < 0)), .slice A (natL n.natAbs).length c] 25)).alloc (by simp) (.cells #[.bool (decide (d < 0)), .slice B (natL d.natAbs).length e0] 25)).alloc (by simp; omega) (.cells #[.bool false, .slice none 0 0, .bool false, .slice none 0 0] 27))
  have p0 := ((Pair.new w 25 (.bool (decide (n < 0))) (.slice A (natL n.natAbs).length c)).alloc (.cells #[.bool (decide (d < 0)), .slice B (natL d.natAbs).length e0] 25)).alloc (.cells #[.bool false, .slice none 0 0, .bool false, .slice none 0 0] 27)
  have p1 := (Pair.new (w.alloc (.cells #[.bool (decide (n < 0)), .slice A (natL n.natAbs).length c] 25)) 25 (.bool (decide (d < 0))) (.slice B (natL d.natAbs).length e0)).alloc (.cells #[.bool false, .slice none 0 0, .bool false, .slice none 0 0] 27)
  have p2 := Quad.new ((w.alloc (.cells #[.bool (decide (n < 0)), .slice A (natL n.natAbs).length c] 25)).alloc (.cells #[.bool (decide (d < 0)), .slice B (natL d.natAbs).length e0] 25)) (.bool false) (.slice none 0 0) (.bool false) (.slice none 0 0)
  simp only [World.size_alloc] at p1 p2
  have V_n := Hd (NV.of h_n b0 p0)
  have V_d := Hd (NV.of h_d b0 p1)
  have P_r0 := Hd p2
  have RW_n := Hd h_n
  have RW_d := Hd h_d
  have HBW := Hd b0
  clear b0 p0 p1 p2 h_n h_d
  go_enter Tryz.func95, Tryz.ntmps95
  obtain ⟨W, E⟩ : ∃ W, W = (((w.alloc (.cells #[.bool (decide (n < 0)), .slice A (natL n.natAbs).length c] 25)).alloc (.cells #[.bool (decide (d < 0)), .slice B (natL d.natAbs).length e0] 25)).alloc (.cells #[.bool false, .slice none 0 0, .bool false, .slice none 0 0] 27)) := ⟨_, rfl⟩
  go_upto_region 1 with fail
  rw [← E] at V_n V_d P_r0 HBW ⊢
  clear E
  have hsz := P_r0.out.blk.lt
  have O_n0 := Hd (OW_n.out.below HBW.out)
  have O_d0 := Hd (OW_d.out.below HBW.out)
  clear OW_n OW_d
  obtain ⟨l_n, a_n, b_n, -, -⟩ := V_n.out.pair.facts
  obtain ⟨l_d, a_d, b_d, -, -⟩ := V_d.out.pair.facts
  go_wp2_with fail
  refine (ecommon n d g A B c e0 W V_n.out.raw V_d.out.raw (by omega) (by omega) HG.out).mono ?_
  rintro e x1 ⟨v, rfl, hI, hb⟩
  obtain ⟨A1, c1, rfl, r1⟩ := hI.raw
  have hIg := hI.base (Nat.zero_le _)
  have hszg := hb.size
  clear l_n a_n b_n l_d a_d b_d
  have V_n := Hd (V_n.out.below hb)
  have V_d := Hd (V_d.out.below hb)
  have P_r0 := Hd (P_r0.out.below hb)
  have O_n0 := Hd (O_n0.out.below hb)
  have O_d0 := Hd (O_d0.out.below hb)
  have HBW := Hd (belowTo HBW.out hb)
  have R_g := Hd r1
  clear hb r1
  have O_g := Hd hIg
  clear hI hIg
  go_upto_region 2 with fail
  have ha := ((Below.refl x1.heap.size x1).alloc (Nat.le_refl _) (.cells #[.bool (decide (g < 0)), .slice A1 (natL g.natAbs).length c1] 25))
  have p_g := (Pair.new x1 25 (.bool (decide (g < 0))) (.slice A1 (natL g.natAbs).length c1))
  obtain ⟨y2, E⟩ : ∃ W, W = (x1.alloc (.cells #[.bool (decide (g < 0)), .slice A1 (natL g.natAbs).length c1] 25)) := ⟨_, rfl⟩
  rw [← E] at ha p_g ⊢
  have V_g := Hd (NV.of R_g.out ha p_g)
  have V_n := Hd (V_n.out.below ha)
  have V_d := Hd (V_d.out.below ha)
  have P_r0 := Hd (P_r0.out.below ha)
  have O_n0 := Hd (O_n0.out.below ha)
  have O_d0 := Hd (O_d0.out.below ha)
  have O_g := Hd (O_g.out.below ha)
  have HBW := Hd (belowTo HBW.out ha)
  obtain ⟨g2, hg⟩ : ∃ g, g = x1.heap.size := ⟨_, rfl⟩
  rw [← hg] at V_g ⊢
  have hge2 : x1.heap.size ≤ g2 := by omega
  clear E ha hg p_g
  go_wp2_with fail
  obtain ⟨W0, hW⟩ : ∃ W0, W0 = y2 := ⟨_, rfl⟩
  rw [← hW] at HBW P_r0 O_n0 O_d0 O_g V_n V_d V_g  ⊢
  clear hW
  refine wp_region_free [.val (.agg #[.bool (decide (g < 0)), .slice A1 (natL g.natAbs).length c1]) [], .any false (fun u0 V => IntAt V u0 one) [], .val (.int .i64 1) [1], .val (.bool true) []] W0.heap.size W0 [] (fun _ _ => False) _ mixedOrders2 (Nat.le_refl _) (Below.refl _ _) (KeptV.refl _ _ _) rfl (by kernel_rfl) (by kernel_rfl) (by kernel_rfl) (by kernel_rfl) (by kernel_rfl) (by kernel_rfl) (by kernel_rfl) (by kernel_rfl) rfl (by simp [oldsF]) ?_ ?_ ?_ ?_
  · simp only [StableF, and_true]
    exact fun u0 V V' h k => h.keptNone k
  · simp only [OldsF]
  · simp (maxSteps := 4000000) [StepsF, DepF, freeAct, fill, pairs]
    repeat' (first | apply And.intro | (intro (u0 : Value)))
    all_goals first
    | (intro V hV hK
       obtain ⟨-, a_g, b_g, -, -⟩ := (V_g.out.below hV).pair.facts
       have r_g := Hd (V_g.out.below hV).raw
       clear hV hK
       go_simp
       first
       | exact Below.refl _ _
       | exact ⟨by first | rfl | decide | go_num, Below.refl _ _⟩
       | ((with_reducible refine (eof 1 one H1.out (by decide) (by decide) V).mono ?_); rintro e w' ⟨v, rfl, hv, hb⟩; exact ⟨hv.at_, hb⟩))
    | (intro V hV hK hu
       obtain ⟨A', c', rfl, hr⟩ := hu.form
       have r_g := Hd (V_g.out.below hV).raw
       have r' := Hd hr
       clear hV hK hu hr
       go_simp
       (with_reducible refine (ecmp g one 1 A1 A' c1 c' V r_g.out r'.out (by omega) (by omega) HK.out).mono ?_)
       rintro e w' ⟨rfl, hb⟩
       exact ⟨rfl, hb⟩)
  · simp [EndF, FactsF, freeAct, fill, pairs]
    intro u1 V hV hK _ _ _ _
    have V_n := Hd (V_n.out.below hV)
    have V_d := Hd (V_d.out.below hV)
    have V_g := Hd (V_g.out.below hV)
    have P_r0 := Hd (P_r0.out.below hV)
    have O_n0 := Hd (O_n0.out.below hV)
    have O_d0 := Hd (O_d0.out.below hV)
    have O_g := Hd (O_g.out.below hV)
    have HBW := Hd (belowTo HBW.out hV)
    clear hV hK
    obtain ⟨v3, hV0⟩ : ∃ Y, Y = V := ⟨_, rfl⟩
    rw [← hV0] at HBW P_r0 O_n0 O_d0 O_g V_n V_d V_g  ⊢
    clear hV0
    obtain ⟨l_n, a_n, b_n, -, -⟩ := V_n.out.pair.facts
    obtain ⟨l_g, a_g, b_g, -, -⟩ := V_g.out.pair.facts
    go_wp2_with fail
    refine (edivide n g q r A A1 c c1 v3 V_n.out.raw V_g.out.raw (by omega) (by omega) HG0.out HQ.out.1 HQ.out.2).mono ?_
    rintro e x4 ⟨v1, v2, rfl, hI, hb⟩
    obtain ⟨A2, c2, rfl, -⟩ := hI.one.raw
    obtain ⟨A3, c3, rfl, -⟩ := hI.two.raw
    have hszb := HBW.out.size
    clear l_n a_n b_n l_g a_g b_g
    have V_n := Hd (V_n.out.below hb)
    have V_d := Hd (V_d.out.below hb)
    have V_g := Hd (V_g.out.below hb)
    have P_r0 := Hd (P_r0.out.below hb)
    have O_n0 := Hd (O_n0.out.below hb)
    have O_d0 := Hd (O_d0.out.below hb)
    have O_g := Hd (O_g.out.below hb)
    have HBW := Hd (belowTo HBW.out hb)
    have HTOP := Hd (show ∀ g, (Value.slice A2 (natL q.natAbs).length c2).ownBlock = some g → g < x4.heap.size from fun g hg => (hI.one.mine g hg).2)
    have O_n := Hd (hI.one.base (Nat.le_trans hbw hszb))
    clear hb hI
    obtain ⟨l_s, a_s, b_s, f_s, g_s⟩ := V_n.out.pair.facts
    have M_n := V_n.out.pair.store (.bool (decide (q < 0))) (.slice A2 (natL q.natAbs).length c2)
    have M_d := V_d.out.pair.far (show w.heap.size + 1 ≠ w.heap.size by omega) (.bool (decide (q < 0))) (.slice A2 (natL q.natAbs).length c2)
    have M_g := V_g.out.pair.far (show g2 ≠ w.heap.size by omega) (.bool (decide (q < 0))) (.slice A2 (natL q.natAbs).length c2)
    have Q_O_d0 := O_d0.out.pairT V_n.out.pair (.bool (decide (q < 0))) (.slice A2 (natL q.natAbs).length c2)
    have Q_O_g := O_g.out.pairT V_n.out.pair (.bool (decide (q < 0))) (.slice A2 (natL q.natAbs).length c2)
    have Q_O_n := O_n.out.pairT V_n.out.pair (.bool (decide (q < 0))) (.slice A2 (natL q.natAbs).length c2)
    have F_P_r0 : Quad _ _ _ _ _ _ := ⟨P_r0.out.blk.far2 (show w.heap.size + 1 + 1 ≠ w.heap.size by omega) (.bool (decide (q < 0))) (.slice A2 (natL q.natAbs).length c2)⟩
    have HB9 := below2 HBW.out (show w.heap.size ≤ w.heap.size by omega) (.bool (decide (q < 0))) (.slice A2 (natL q.natAbs).length c2)
    have hgrow : x4.heap.size ≤ (((x4).setCell ⟨w.heap.size, 0, none⟩ (.bool (decide (q < 0)))).setCell ⟨w.heap.size, 1, none⟩ (.slice A2 (natL q.natAbs).length c2)).heap.size := by simp
    go_upto_region 4 with fail
    obtain ⟨y5, E⟩ : ∃ W, W = (((x4).setCell ⟨w.heap.size, 0, none⟩ (.bool (decide (q < 0)))).setCell ⟨w.heap.size, 1, none⟩ (.slice A2 (natL q.natAbs).length c2)) := ⟨_, rfl⟩
    rw [← E] at M_n M_d M_g Q_O_d0 Q_O_g Q_O_n F_P_r0 HB9 hgrow ⊢
    clear E l_s a_s b_s f_s g_s
    have HBW := Hd HB9
    have O_d0 := Hd Q_O_d0
    have O_g := Hd Q_O_g
    have O_n := Hd Q_O_n
    have V_n := Hd (show NV y5 (w.heap.size) q A2 c2 from ⟨M_n, O_n.out.rawAt⟩)
    have V_d := Hd (show NV y5 (w.heap.size + 1) d B e0 from ⟨M_d, O_d0.out.rawAt⟩)
    have V_g := Hd (show NV y5 (g2) g A1 c1 from ⟨M_g, O_g.out.rawAt⟩)
    have P_r0 := Hd F_P_r0
    clear HB9 M_n M_d M_g Q_O_d0 Q_O_g Q_O_n F_P_r0
    obtain ⟨l_d, a_d, b_d, -, -⟩ := V_d.out.pair.facts
    obtain ⟨l_g, a_g, b_g, -, -⟩ := V_g.out.pair.facts
    go_wp2_with fail
    refine (edivide d g p s B A1 e0 c1 y5 V_d.out.raw V_g.out.raw (by omega) (by omega) HG0.out HP.out.1 HP.out.2).mono ?_
    rintro e x6 ⟨v1, v2, rfl, hI, hb⟩
    obtain ⟨A4, c4, rfl, -⟩ := hI.one.raw
    obtain ⟨A5, c5, rfl, -⟩ := hI.two.raw
    have hszb := HBW.out.size
    clear l_d a_d b_d l_g a_g b_g
    have V_n := Hd (V_n.out.below hb)
    have V_d := Hd (V_d.out.below hb)
    have V_g := Hd (V_g.out.below hb)
    have P_r0 := Hd (P_r0.out.below hb)
    have O_d0 := Hd (O_d0.out.below hb)
    have O_g := Hd (O_g.out.below hb)
    have O_n := Hd (O_n.out.below hb)
    have HBW := Hd (belowTo HBW.out hb)
    have HAP := Hd (show ∀ g, (Value.slice A2 (natL q.natAbs).length c2).ownBlock = some g → (Value.slice A4 (natL p.natAbs).length c4).ownBlock ≠ some g from fun g h1 h2 => by have a1 := HTOP.out g h1; have a2 := (hI.one.mine g h2).1; omega)
    have O_d := Hd (hI.one.base (Nat.le_trans hbw hszb))
    clear hb hI
    obtain ⟨l_s, a_s, b_s, f_s, g_s⟩ := V_d.out.pair.facts
    have M_d := V_d.out.pair.store (.bool (decide (p < 0))) (.slice A4 (natL p.natAbs).length c4)
    have M_n := V_n.out.pair.far (show w.heap.size ≠ w.heap.size + 1 by omega) (.bool (decide (p < 0))) (.slice A4 (natL p.natAbs).length c4)
    have Q_O_d := O_d.out.pairT V_d.out.pair (.bool (decide (p < 0))) (.slice A4 (natL p.natAbs).length c4)
    have Q_O_n := O_n.out.pairT V_d.out.pair (.bool (decide (p < 0))) (.slice A4 (natL p.natAbs).length c4)
    have F_P_r0 : Quad _ _ _ _ _ _ := ⟨P_r0.out.blk.far2 (show w.heap.size + 1 + 1 ≠ w.heap.size + 1 by omega) (.bool (decide (p < 0))) (.slice A4 (natL p.natAbs).length c4)⟩
    have HB9 := below2 HBW.out (show w.heap.size ≤ w.heap.size + 1 by omega) (.bool (decide (p < 0))) (.slice A4 (natL p.natAbs).length c4)
    have hgrow : x6.heap.size ≤ (((x6).setCell ⟨w.heap.size + 1, 0, none⟩ (.bool (decide (p < 0)))).setCell ⟨w.heap.size + 1, 1, none⟩ (.slice A4 (natL p.natAbs).length c4)).heap.size := by simp
    go_upto_region 5 with fail
    obtain ⟨y7, E⟩ : ∃ W, W = (((x6).setCell ⟨w.heap.size + 1, 0, none⟩ (.bool (decide (p < 0)))).setCell ⟨w.heap.size + 1, 1, none⟩ (.slice A4 (natL p.natAbs).length c4)) := ⟨_, rfl⟩
    rw [← E] at M_d M_n Q_O_d Q_O_n F_P_r0 HB9 hgrow ⊢
    clear E l_s a_s b_s f_s g_s
    have HBW := Hd HB9
    have O_d := Hd Q_O_d
    have O_n := Hd Q_O_n
    have V_d := Hd (show NV y7 (w.heap.size + 1) p A4 c4 from ⟨M_d, O_d.out.rawAt⟩)
    have V_n := Hd (show NV y7 (w.heap.size) q A2 c2 from ⟨M_n, O_n.out.rawAt⟩)
    have P_r0 := Hd F_P_r0
    clear HB9 M_d M_n Q_O_d Q_O_n F_P_r0
    clear V_g
    have hsn := HSN.out
    obtain ⟨l_d, a_d, b_d, -, -⟩ := V_d.out.pair.facts
    go_wp2_with fail
    refine (esign p sg A4 c4 y7 V_d.out.raw HSG.out).mono ?_
    rintro e x8 ⟨rfl, hb⟩
    clear l_d a_d b_d
    have V_n := Hd (V_n.out.below hb)
    have V_d := Hd (V_d.out.below hb)
    have P_r0 := Hd (P_r0.out.below hb)
    have O_n := Hd (O_n.out.below hb)
    have O_d := Hd (O_d.out.below hb)
    have HBW := Hd (belowTo HBW.out hb)
    clear hb
    go_upto_region 6 with fail
    clear hsn
    go_wp2_with fail
    have hszz := P_r0.out.blk.lt
    refine wp_region_free [.val (.agg #[.bool (decide (q < 0)), .slice A2 (natL q.natAbs).length c2]) [1004], .any true (fun u V => IntOwn V b u q') [], .val (.agg #[.bool (decide (p < 0)), .slice A4 (natL p.natAbs).length c4]) [1005], .any true (fun u V => IntOwn V b u p') [], .old (w.heap.size) 25 #[.bool (decide (q < 0)), .slice A2 (natL q.natAbs).length c2] 0 2 1 [], .old (w.heap.size + 1) 25 #[.bool (decide (p < 0)), .slice A4 (natL p.natAbs).length c4] 0 2 3 []] w.heap.size x8 [25] blkInt _ mixedOrders2 (by omega) (Below.refl _ _) (KeptV.refl _ _ _) rfl (by kernel_rfl) (by kernel_rfl) (by kernel_rfl) (by kernel_rfl) (by kernel_rfl) (by kernel_rfl) (by kernel_rfl) (by kernel_rfl) rfl (by simp [oldsF]) ?_ ?_ ?_ ?_
    · simp only [StableF, and_true]
      exact ⟨fun u V V' h k => h.kept k (by decide), fun u V V' h k => h.kept k (by decide)⟩
    · simp only [OldsF, and_true]
      exact ⟨⟨by omega, by omega, V_n.out.pair.blk, by simp⟩, by omega, by omega, V_d.out.pair.blk, by simp⟩
    · simp (maxSteps := 4000000) [StepsF, DepF, freeAct, fill, pairs]
      repeat' (first | apply And.intro | (intro (u : Value)) | (intro (u : Nat)))
      all_goals try exact ⟨_, _, _, rfl, rfl, rfl, rfl, intInfo⟩
      all_goals first
      | (intro V hV hK hp
         obtain ⟨-, a_p, b_p, -, -⟩ := (Pair.mk hp).facts
         clear hV hK hp
         go_simp
         exact Below.refl _ _)
      | (intro V hV hK
         have rn := Hd ((O_n.out.kept hK (by decide)).rawAt)
         have rd := Hd ((O_d.out.kept hK (by decide)).rawAt)
         have hbV : b ≤ V.heap.size := Nat.le_trans hbw (Nat.le_trans HBW.out.size hV.size)
         clear hV hK
         go_simp
         first
         | ((with_reducible refine (eturned q q' A2 c2 V rn.out (by omega) HN1.out).mono ?_); rintro e w' ⟨v, rfl, hv, hb⟩; exact ⟨hv.base hbV, hb, hv.mine⟩)
         | ((with_reducible refine (eturned p p' A4 c4 V rd.out (by omega) HN2.out).mono ?_); rintro e w' ⟨v, rfl, hv, hb⟩; exact ⟨hv.base hbV, hb, hv.mine⟩))
      | exact fun _ _ _ (h : IntOwn _ _ _ _) => h.cells
    · simp [EndF, FactsF, freeAct, fill, pairs]
      intro u1 u2 V hV hK h1 h2 p1 p2 hq _ _
      obtain ⟨A6, c6, rfl, r6⟩ := h1.raw
      obtain ⟨A7, c7, rfl, r7⟩ := h2.raw
      simp [setAll, Value.cells] at p1 p2
      have V_n := Hd (show NV V (w.heap.size) q' A6 c6 from ⟨⟨p1⟩, r6⟩)
      have V_d := Hd (show NV V (w.heap.size + 1) p' A7 c7 from ⟨⟨p2⟩, r7⟩)
      have HBW := Hd (HBW.out.trans hV)
      have P_r0 := Hd (show Quad V _ _ _ _ _ from ⟨hK.blk P_r0.out.blk (by decide)⟩)
      have O_n9 := Hd h1
      have O_d9 := Hd h2
      have HAP := Hd (show ∀ g, (Value.slice A6 (natL q'.natAbs).length c6).ownBlock = some g → (Value.slice A7 (natL p'.natAbs).length c7).ownBlock ≠ some g from fun g => hq 1 3 rfl rfl (by decide) g)
      clear hq hV hK h1 h2 p1 p2 r6 r7
      obtain ⟨l_n, a_n, b_n, -, -⟩ := V_n.out.pair.facts
      obtain ⟨l_d, a_d, b_d, -, -⟩ := V_d.out.pair.facts
      obtain ⟨l_r, c_r0, c_r1, c_r2, c_r3, f_r0, f_r1, f_r2, f_r3⟩ := P_r0.out.facts
      have HQ9 := Hd (P_r0.out.store (.bool (decide (q' < 0))) (.slice A6 (natL q'.natAbs).length c6) (.bool (decide (p' < 0))) (.slice A7 (natL p'.natAbs).length c7))
      have HB9 := Hd (below4 HBW.out (show w.heap.size ≤ w.heap.size + 1 + 1 by omega) (.bool (decide (q' < 0))) (.slice A6 (natL q'.natAbs).length c6) (.bool (decide (p' < 0))) (.slice A7 (natL p'.natAbs).length c7))
      have HF := Hd (show FracOwn ((((V.setCell ⟨w.heap.size + 1 + 1, 0, none⟩ (.bool (decide (q' < 0)))).setCell ⟨w.heap.size + 1 + 1, 1, none⟩ (.slice A6 (natL q'.natAbs).length c6)).setCell ⟨w.heap.size + 1 + 1, 2, none⟩ (.bool (decide (p' < 0)))).setCell ⟨w.heap.size + 1 + 1, 3, none⟩ (.slice A7 (natL p'.natAbs).length c7)) b (.agg #[.bool (decide (q' < 0)), .slice A6 (natL q'.natAbs).length c6, .bool (decide (p' < 0)), .slice A7 (natL p'.natAbs).length c7]) q' p' from ⟨_, _, _, _, rfl, O_n9.out.quad P_r0.out _ _ _ _, O_d9.out.quad P_r0.out _ _ _ _, HAP.out⟩)
      go_wp2_with fail
      obtain ⟨_, k0, k1, k2, k3, _⟩ := HQ9.out.facts
      exact bodyPost_ret (by simp [results, Tryz.results95, go_sem, k0, k1, k2, k3]) rfl ⟨.agg #[.bool (decide (q' < 0)), .slice A6 (natL q'.natAbs).length c6, .bool (decide (p' < 0)), .slice A7 (natL p'.natAbs).length c7], rfl, by rw [HLN.out.1, HLN.out.2]; exact HF.out, HB9.out⟩

theorem efresh_more_pos (n d : Int) (A B : Option Addr) (c e0 b : Nat) (w : World) (h_n : Raw w A c (natL n.natAbs)) (h_d : Raw w B e0 (natL d.natAbs)) (o_n : IntOwn w b (.agg #[.bool (decide (n < 0)), .slice A (natL n.natAbs).length c]) n) (o_d : IntOwn w b (.agg #[.bool (decide (d < 0)), .slice B (natL d.natAbs).length e0]) d) (hap : ∀ g, (Value.slice A (natL n.natAbs).length c).ownBlock = some g → (Value.slice B (natL d.natAbs).length e0).ownBlock ≠ some g) (hbw : b ≤ w.heap.size) (hn : lz n ≤ 400000000) (hd : lz d ≤ 400000000) (hd0 : d ≠ 0) (hs0 : ¬ d < 0) (hgc : 1 < gcdZ n d) :
    Calls Tryz.prog 95 #[.agg #[.bool (decide (n < 0)), .slice A (natL n.natAbs).length c], .agg #[.bool (decide (d < 0)), .slice B (natL d.natAbs).length e0]] w (RetFracOwn b w (lowN n d) (lowD n d)) := by
  obtain ⟨g, hg⟩ : ∃ k : Int, k = gcdZ n d := ⟨_, rfl⟩
  obtain ⟨one, hone⟩ : ∃ k : Int, k = 1 := ⟨_, rfl⟩
  obtain ⟨q, hq⟩ : ∃ k : Int, k = n.tdiv g := ⟨_, rfl⟩
  obtain ⟨r, hr⟩ : ∃ k : Int, k = n.tmod g := ⟨_, rfl⟩
  obtain ⟨p, hp⟩ : ∃ k : Int, k = d.tdiv g := ⟨_, rfl⟩
  obtain ⟨s, hs⟩ : ∃ k : Int, k = d.tmod g := ⟨_, rfl⟩
  obtain ⟨q', hq'⟩ : ∃ k : Int, k = -q := ⟨_, rfl⟩
  obtain ⟨p', hp'⟩ : ∃ k : Int, k = -p := ⟨_, rfl⟩
  have hgp := gcdZ_pos (n := n) hd0
  have hgl := gcdZ_lz (n := n) hd0
  rw [← hg] at hgp hgl hgc
  have hql : lz q ≤ lz n := by rw [hq]; exact tdiv_lz n g
  have hpl : lz p ≤ lz d := by rw [hp]; exact tdiv_lz d g
  have hps : p.sign = d.sign := by rw [hp, hg]; exact tdiv_sign hd0
  have hol : lz one ≤ 2 := by rw [hone]; decide
  obtain ⟨sg, hsg⟩ : ∃ k : Int, k = p.sign := ⟨_, rfl⟩
  have HSG := Hd hsg
  have HSN := Hd (show decide (sg < 0) = false from by
    rw [hsg, hps]
    exact decide_eq_false (by have := sign_cases d; omega))
  have HG := Hd (show g = ((Nat.gcd n.natAbs d.natAbs : Nat) : Int) from hg)
  have H1 := Hd hone
  have HG0 := Hd (show g ≠ 0 from by omega)
  have HQ := Hd (And.intro hq hr)
  have HP := Hd (And.intro hp hs)
  have HN1 := Hd hq'
  have HN2 := Hd hp'
  have HK := Hd (show (1 : Int) = cmpz g one from by rw [hone]; exact (cmpz_gt (by omega)).symm)
  have HLN := Hd (show lowN n d = q ∧ lowD n d = p from by
    unfold lowN lowD
    rw [if_neg hs0, if_neg hs0, ← hg, ← hq, ← hp]
    exact ⟨rfl, rfl⟩)
  have OW_n := Hd o_n
  have OW_d := Hd o_d
  have HAP := Hd hap
  have _ := hbw
  clear o_n o_d hap
  clear hgc hg hone hq hr hp hs hq' hp' hs0 hsg hps hd0
  have b0 := ((((Below.refl w.heap.size w).alloc (Nat.le_refl _) (.cells #[.bool (decide (n < 0)), .slice A (natL n.natAbs).length c] 25)).alloc (by simp) (.cells #[.bool (decide (d < 0)), .slice B (natL d.natAbs).length e0] 25)).alloc (by simp; omega) (.cells #[.bool false, .slice none 0 0, .bool false, .slice none 0 0] 27))
  have p0 := ((Pair.new w 25 (.bool (decide (n < 0))) (.slice A (natL n.natAbs).length c)).alloc (.cells #[.bool (decide (d < 0)), .slice B (natL d.natAbs).length e0] 25)).alloc (.cells #[.bool false, .slice none 0 0, .bool false, .slice none 0 0] 27)
  have p1 := (Pair.new (w.alloc (.cells #[.bool (decide (n < 0)), .slice A (natL n.natAbs).length c] 25)) 25 (.bool (decide (d < 0))) (.slice B (natL d.natAbs).length e0)).alloc (.cells #[.bool false, .slice none 0 0, .bool false, .slice none 0 0] 27)
  have p2 := Quad.new ((w.alloc (.cells #[.bool (decide (n < 0)), .slice A (natL n.natAbs).length c] 25)).alloc (.cells #[.bool (decide (d < 0)), .slice B (natL d.natAbs).length e0] 25)) (.bool false) (.slice none 0 0) (.bool false) (.slice none 0 0)
  simp only [World.size_alloc] at p1 p2
  have V_n := Hd (NV.of h_n b0 p0)
  have V_d := Hd (NV.of h_d b0 p1)
  have P_r0 := Hd p2
  have RW_n := Hd h_n
  have RW_d := Hd h_d
  have HBW := Hd b0
  clear b0 p0 p1 p2 h_n h_d
  go_enter Tryz.func95, Tryz.ntmps95
  obtain ⟨W, E⟩ : ∃ W, W = (((w.alloc (.cells #[.bool (decide (n < 0)), .slice A (natL n.natAbs).length c] 25)).alloc (.cells #[.bool (decide (d < 0)), .slice B (natL d.natAbs).length e0] 25)).alloc (.cells #[.bool false, .slice none 0 0, .bool false, .slice none 0 0] 27)) := ⟨_, rfl⟩
  go_upto_region 1 with fail
  rw [← E] at V_n V_d P_r0 HBW ⊢
  clear E
  have hsz := P_r0.out.blk.lt
  have O_n0 := Hd (OW_n.out.below HBW.out)
  have O_d0 := Hd (OW_d.out.below HBW.out)
  clear OW_n OW_d
  obtain ⟨l_n, a_n, b_n, -, -⟩ := V_n.out.pair.facts
  obtain ⟨l_d, a_d, b_d, -, -⟩ := V_d.out.pair.facts
  go_wp2_with fail
  refine (ecommon n d g A B c e0 W V_n.out.raw V_d.out.raw (by omega) (by omega) HG.out).mono ?_
  rintro e x1 ⟨v, rfl, hI, hb⟩
  obtain ⟨A1, c1, rfl, r1⟩ := hI.raw
  have hIg := hI.base (Nat.zero_le _)
  have hszg := hb.size
  clear l_n a_n b_n l_d a_d b_d
  have V_n := Hd (V_n.out.below hb)
  have V_d := Hd (V_d.out.below hb)
  have P_r0 := Hd (P_r0.out.below hb)
  have O_n0 := Hd (O_n0.out.below hb)
  have O_d0 := Hd (O_d0.out.below hb)
  have HBW := Hd (belowTo HBW.out hb)
  have R_g := Hd r1
  clear hb r1
  have O_g := Hd hIg
  clear hI hIg
  go_upto_region 2 with fail
  have ha := ((Below.refl x1.heap.size x1).alloc (Nat.le_refl _) (.cells #[.bool (decide (g < 0)), .slice A1 (natL g.natAbs).length c1] 25))
  have p_g := (Pair.new x1 25 (.bool (decide (g < 0))) (.slice A1 (natL g.natAbs).length c1))
  obtain ⟨y2, E⟩ : ∃ W, W = (x1.alloc (.cells #[.bool (decide (g < 0)), .slice A1 (natL g.natAbs).length c1] 25)) := ⟨_, rfl⟩
  rw [← E] at ha p_g ⊢
  have V_g := Hd (NV.of R_g.out ha p_g)
  have V_n := Hd (V_n.out.below ha)
  have V_d := Hd (V_d.out.below ha)
  have P_r0 := Hd (P_r0.out.below ha)
  have O_n0 := Hd (O_n0.out.below ha)
  have O_d0 := Hd (O_d0.out.below ha)
  have O_g := Hd (O_g.out.below ha)
  have HBW := Hd (belowTo HBW.out ha)
  obtain ⟨g2, hg⟩ : ∃ g, g = x1.heap.size := ⟨_, rfl⟩
  rw [← hg] at V_g ⊢
  have hge2 : x1.heap.size ≤ g2 := by omega
  clear E ha hg p_g
  go_wp2_with fail
  obtain ⟨W0, hW⟩ : ∃ W0, W0 = y2 := ⟨_, rfl⟩
  rw [← hW] at HBW P_r0 O_n0 O_d0 O_g V_n V_d V_g  ⊢
  clear hW
  refine wp_region_free [.val (.agg #[.bool (decide (g < 0)), .slice A1 (natL g.natAbs).length c1]) [], .any false (fun u0 V => IntAt V u0 one) [], .val (.int .i64 1) [1], .val (.bool true) []] W0.heap.size W0 [] (fun _ _ => False) _ mixedOrders2 (Nat.le_refl _) (Below.refl _ _) (KeptV.refl _ _ _) rfl (by kernel_rfl) (by kernel_rfl) (by kernel_rfl) (by kernel_rfl) (by kernel_rfl) (by kernel_rfl) (by kernel_rfl) (by kernel_rfl) rfl (by simp [oldsF]) ?_ ?_ ?_ ?_
  · simp only [StableF, and_true]
    exact fun u0 V V' h k => h.keptNone k
  · simp only [OldsF]
  · simp (maxSteps := 4000000) [StepsF, DepF, freeAct, fill, pairs]
    repeat' (first | apply And.intro | (intro (u0 : Value)))
    all_goals first
    | (intro V hV hK
       obtain ⟨-, a_g, b_g, -, -⟩ := (V_g.out.below hV).pair.facts
       have r_g := Hd (V_g.out.below hV).raw
       clear hV hK
       go_simp
       first
       | exact Below.refl _ _
       | exact ⟨by first | rfl | decide | go_num, Below.refl _ _⟩
       | ((with_reducible refine (eof 1 one H1.out (by decide) (by decide) V).mono ?_); rintro e w' ⟨v, rfl, hv, hb⟩; exact ⟨hv.at_, hb⟩))
    | (intro V hV hK hu
       obtain ⟨A', c', rfl, hr⟩ := hu.form
       have r_g := Hd (V_g.out.below hV).raw
       have r' := Hd hr
       clear hV hK hu hr
       go_simp
       (with_reducible refine (ecmp g one 1 A1 A' c1 c' V r_g.out r'.out (by omega) (by omega) HK.out).mono ?_)
       rintro e w' ⟨rfl, hb⟩
       exact ⟨rfl, hb⟩)
  · simp [EndF, FactsF, freeAct, fill, pairs]
    intro u1 V hV hK _ _ _ _
    have V_n := Hd (V_n.out.below hV)
    have V_d := Hd (V_d.out.below hV)
    have V_g := Hd (V_g.out.below hV)
    have P_r0 := Hd (P_r0.out.below hV)
    have O_n0 := Hd (O_n0.out.below hV)
    have O_d0 := Hd (O_d0.out.below hV)
    have O_g := Hd (O_g.out.below hV)
    have HBW := Hd (belowTo HBW.out hV)
    clear hV hK
    obtain ⟨v3, hV0⟩ : ∃ Y, Y = V := ⟨_, rfl⟩
    rw [← hV0] at HBW P_r0 O_n0 O_d0 O_g V_n V_d V_g  ⊢
    clear hV0
    obtain ⟨l_n, a_n, b_n, -, -⟩ := V_n.out.pair.facts
    obtain ⟨l_g, a_g, b_g, -, -⟩ := V_g.out.pair.facts
    go_wp2_with fail
    refine (edivide n g q r A A1 c c1 v3 V_n.out.raw V_g.out.raw (by omega) (by omega) HG0.out HQ.out.1 HQ.out.2).mono ?_
    rintro e x4 ⟨v1, v2, rfl, hI, hb⟩
    obtain ⟨A2, c2, rfl, -⟩ := hI.one.raw
    obtain ⟨A3, c3, rfl, -⟩ := hI.two.raw
    have hszb := HBW.out.size
    clear l_n a_n b_n l_g a_g b_g
    have V_n := Hd (V_n.out.below hb)
    have V_d := Hd (V_d.out.below hb)
    have V_g := Hd (V_g.out.below hb)
    have P_r0 := Hd (P_r0.out.below hb)
    have O_n0 := Hd (O_n0.out.below hb)
    have O_d0 := Hd (O_d0.out.below hb)
    have O_g := Hd (O_g.out.below hb)
    have HBW := Hd (belowTo HBW.out hb)
    have HTOP := Hd (show ∀ g, (Value.slice A2 (natL q.natAbs).length c2).ownBlock = some g → g < x4.heap.size from fun g hg => (hI.one.mine g hg).2)
    have O_n := Hd (hI.one.base (Nat.le_trans hbw hszb))
    clear hb hI
    obtain ⟨l_s, a_s, b_s, f_s, g_s⟩ := V_n.out.pair.facts
    have M_n := V_n.out.pair.store (.bool (decide (q < 0))) (.slice A2 (natL q.natAbs).length c2)
    have M_d := V_d.out.pair.far (show w.heap.size + 1 ≠ w.heap.size by omega) (.bool (decide (q < 0))) (.slice A2 (natL q.natAbs).length c2)
    have M_g := V_g.out.pair.far (show g2 ≠ w.heap.size by omega) (.bool (decide (q < 0))) (.slice A2 (natL q.natAbs).length c2)
    have Q_O_d0 := O_d0.out.pairT V_n.out.pair (.bool (decide (q < 0))) (.slice A2 (natL q.natAbs).length c2)
    have Q_O_g := O_g.out.pairT V_n.out.pair (.bool (decide (q < 0))) (.slice A2 (natL q.natAbs).length c2)
    have Q_O_n := O_n.out.pairT V_n.out.pair (.bool (decide (q < 0))) (.slice A2 (natL q.natAbs).length c2)
    have F_P_r0 : Quad _ _ _ _ _ _ := ⟨P_r0.out.blk.far2 (show w.heap.size + 1 + 1 ≠ w.heap.size by omega) (.bool (decide (q < 0))) (.slice A2 (natL q.natAbs).length c2)⟩
    have HB9 := below2 HBW.out (show w.heap.size ≤ w.heap.size by omega) (.bool (decide (q < 0))) (.slice A2 (natL q.natAbs).length c2)
    have hgrow : x4.heap.size ≤ (((x4).setCell ⟨w.heap.size, 0, none⟩ (.bool (decide (q < 0)))).setCell ⟨w.heap.size, 1, none⟩ (.slice A2 (natL q.natAbs).length c2)).heap.size := by simp
    go_upto_region 4 with fail
    obtain ⟨y5, E⟩ : ∃ W, W = (((x4).setCell ⟨w.heap.size, 0, none⟩ (.bool (decide (q < 0)))).setCell ⟨w.heap.size, 1, none⟩ (.slice A2 (natL q.natAbs).length c2)) := ⟨_, rfl⟩
    rw [← E] at M_n M_d M_g Q_O_d0 Q_O_g Q_O_n F_P_r0 HB9 hgrow ⊢
    clear E l_s a_s b_s f_s g_s
    have HBW := Hd HB9
    have O_d0 := Hd Q_O_d0
    have O_g := Hd Q_O_g
    have O_n := Hd Q_O_n
    have V_n := Hd (show NV y5 (w.heap.size) q A2 c2 from ⟨M_n, O_n.out.rawAt⟩)
    have V_d := Hd (show NV y5 (w.heap.size + 1) d B e0 from ⟨M_d, O_d0.out.rawAt⟩)
    have V_g := Hd (show NV y5 (g2) g A1 c1 from ⟨M_g, O_g.out.rawAt⟩)
    have P_r0 := Hd F_P_r0
    clear HB9 M_n M_d M_g Q_O_d0 Q_O_g Q_O_n F_P_r0
    obtain ⟨l_d, a_d, b_d, -, -⟩ := V_d.out.pair.facts
    obtain ⟨l_g, a_g, b_g, -, -⟩ := V_g.out.pair.facts
    go_wp2_with fail
    refine (edivide d g p s B A1 e0 c1 y5 V_d.out.raw V_g.out.raw (by omega) (by omega) HG0.out HP.out.1 HP.out.2).mono ?_
    rintro e x6 ⟨v1, v2, rfl, hI, hb⟩
    obtain ⟨A4, c4, rfl, -⟩ := hI.one.raw
    obtain ⟨A5, c5, rfl, -⟩ := hI.two.raw
    have hszb := HBW.out.size
    clear l_d a_d b_d l_g a_g b_g
    have V_n := Hd (V_n.out.below hb)
    have V_d := Hd (V_d.out.below hb)
    have V_g := Hd (V_g.out.below hb)
    have P_r0 := Hd (P_r0.out.below hb)
    have O_d0 := Hd (O_d0.out.below hb)
    have O_g := Hd (O_g.out.below hb)
    have O_n := Hd (O_n.out.below hb)
    have HBW := Hd (belowTo HBW.out hb)
    have HAP := Hd (show ∀ g, (Value.slice A2 (natL q.natAbs).length c2).ownBlock = some g → (Value.slice A4 (natL p.natAbs).length c4).ownBlock ≠ some g from fun g h1 h2 => by have a1 := HTOP.out g h1; have a2 := (hI.one.mine g h2).1; omega)
    have O_d := Hd (hI.one.base (Nat.le_trans hbw hszb))
    clear hb hI
    obtain ⟨l_s, a_s, b_s, f_s, g_s⟩ := V_d.out.pair.facts
    have M_d := V_d.out.pair.store (.bool (decide (p < 0))) (.slice A4 (natL p.natAbs).length c4)
    have M_n := V_n.out.pair.far (show w.heap.size ≠ w.heap.size + 1 by omega) (.bool (decide (p < 0))) (.slice A4 (natL p.natAbs).length c4)
    have Q_O_d := O_d.out.pairT V_d.out.pair (.bool (decide (p < 0))) (.slice A4 (natL p.natAbs).length c4)
    have Q_O_n := O_n.out.pairT V_d.out.pair (.bool (decide (p < 0))) (.slice A4 (natL p.natAbs).length c4)
    have F_P_r0 : Quad _ _ _ _ _ _ := ⟨P_r0.out.blk.far2 (show w.heap.size + 1 + 1 ≠ w.heap.size + 1 by omega) (.bool (decide (p < 0))) (.slice A4 (natL p.natAbs).length c4)⟩
    have HB9 := below2 HBW.out (show w.heap.size ≤ w.heap.size + 1 by omega) (.bool (decide (p < 0))) (.slice A4 (natL p.natAbs).length c4)
    have hgrow : x6.heap.size ≤ (((x6).setCell ⟨w.heap.size + 1, 0, none⟩ (.bool (decide (p < 0)))).setCell ⟨w.heap.size + 1, 1, none⟩ (.slice A4 (natL p.natAbs).length c4)).heap.size := by simp
    go_upto_region 5 with fail
    obtain ⟨y7, E⟩ : ∃ W, W = (((x6).setCell ⟨w.heap.size + 1, 0, none⟩ (.bool (decide (p < 0)))).setCell ⟨w.heap.size + 1, 1, none⟩ (.slice A4 (natL p.natAbs).length c4)) := ⟨_, rfl⟩
    rw [← E] at M_d M_n Q_O_d Q_O_n F_P_r0 HB9 hgrow ⊢
    clear E l_s a_s b_s f_s g_s
    have HBW := Hd HB9
    have O_d := Hd Q_O_d
    have O_n := Hd Q_O_n
    have V_d := Hd (show NV y7 (w.heap.size + 1) p A4 c4 from ⟨M_d, O_d.out.rawAt⟩)
    have V_n := Hd (show NV y7 (w.heap.size) q A2 c2 from ⟨M_n, O_n.out.rawAt⟩)
    have P_r0 := Hd F_P_r0
    clear HB9 M_d M_n Q_O_d Q_O_n F_P_r0
    clear V_g
    have hsn := HSN.out
    obtain ⟨l_d, a_d, b_d, -, -⟩ := V_d.out.pair.facts
    go_wp2_with fail
    refine (esign p sg A4 c4 y7 V_d.out.raw HSG.out).mono ?_
    rintro e x8 ⟨rfl, hb⟩
    clear l_d a_d b_d
    have V_n := Hd (V_n.out.below hb)
    have V_d := Hd (V_d.out.below hb)
    have P_r0 := Hd (P_r0.out.below hb)
    have O_n := Hd (O_n.out.below hb)
    have O_d := Hd (O_d.out.below hb)
    have HBW := Hd (belowTo HBW.out hb)
    clear hb
    go_upto_region 7 with fail
    clear hsn
    obtain ⟨l_n, a_n, b_n, -, -⟩ := V_n.out.pair.facts
    obtain ⟨l_d, a_d, b_d, -, -⟩ := V_d.out.pair.facts
    obtain ⟨l_r, c_r0, c_r1, c_r2, c_r3, f_r0, f_r1, f_r2, f_r3⟩ := P_r0.out.facts
    have HQ9 := Hd (P_r0.out.store (.bool (decide (q < 0))) (.slice A2 (natL q.natAbs).length c2) (.bool (decide (p < 0))) (.slice A4 (natL p.natAbs).length c4))
    have HB9 := Hd (below4 HBW.out (show w.heap.size ≤ w.heap.size + 1 + 1 by omega) (.bool (decide (q < 0))) (.slice A2 (natL q.natAbs).length c2) (.bool (decide (p < 0))) (.slice A4 (natL p.natAbs).length c4))
    have HF := Hd (show FracOwn ((((x8.setCell ⟨w.heap.size + 1 + 1, 0, none⟩ (.bool (decide (q < 0)))).setCell ⟨w.heap.size + 1 + 1, 1, none⟩ (.slice A2 (natL q.natAbs).length c2)).setCell ⟨w.heap.size + 1 + 1, 2, none⟩ (.bool (decide (p < 0)))).setCell ⟨w.heap.size + 1 + 1, 3, none⟩ (.slice A4 (natL p.natAbs).length c4)) b (.agg #[.bool (decide (q < 0)), .slice A2 (natL q.natAbs).length c2, .bool (decide (p < 0)), .slice A4 (natL p.natAbs).length c4]) q p from ⟨_, _, _, _, rfl, O_n.out.quad P_r0.out _ _ _ _, O_d.out.quad P_r0.out _ _ _ _, HAP.out⟩)
    go_wp2_with fail
    obtain ⟨_, k0, k1, k2, k3, _⟩ := HQ9.out.facts
    exact bodyPost_ret (by simp [results, Tryz.results95, go_sem, k0, k1, k2, k3]) rfl ⟨.agg #[.bool (decide (q < 0)), .slice A2 (natL q.natAbs).length c2, .bool (decide (p < 0)), .slice A4 (natL p.natAbs).length c4], rfl, by rw [HLN.out.1, HLN.out.2]; exact HF.out, HB9.out⟩

theorem efresh (n d : Int) (A B : Option Addr) (c e0 b : Nat) (w : World) (o_n : IntOwn w b (.agg #[.bool (decide (n < 0)), .slice A (natL n.natAbs).length c]) n) (o_d : IntOwn w b (.agg #[.bool (decide (d < 0)), .slice B (natL d.natAbs).length e0]) d) (hap : ∀ g, (Value.slice A (natL n.natAbs).length c).ownBlock = some g → (Value.slice B (natL d.natAbs).length e0).ownBlock ≠ some g) (hbw : b ≤ w.heap.size) (hn : lz n ≤ 400000000) (hd : lz d ≤ 400000000) (hd0 : d ≠ 0) :
    Calls Tryz.prog 95 #[.agg #[.bool (decide (n < 0)), .slice A (natL n.natAbs).length c], .agg #[.bool (decide (d < 0)), .slice B (natL d.natAbs).length e0]] w (RetFracOwn b w (lowN n d) (lowD n d)) := by
  have hp := gcdZ_pos (n := n) hd0
  have h := o_n.rawAt
  have g := o_d.rawAt
  rcases (by omega : gcdZ n d = 1 ∨ 1 < gcdZ n d) with h1 | h1 <;> by_cases hs : d < 0
  · exact efresh_one_neg n d A B c e0 b w h g o_n o_d hap hbw hn hd hd0 hs h1
  · exact efresh_one_pos n d A B c e0 b w h g o_n o_d hap hbw hn hd hd0 hs h1
  · exact efresh_more_neg n d A B c e0 b w h g o_n o_d hap hbw hn hd hd0 hs h1
  · exact efresh_more_pos n d A B c e0 b w h g o_n o_d hap hbw hn hd hd0 hs h1
end Go.Proofs.YtmcnmoljliggfaaGreatDoor
