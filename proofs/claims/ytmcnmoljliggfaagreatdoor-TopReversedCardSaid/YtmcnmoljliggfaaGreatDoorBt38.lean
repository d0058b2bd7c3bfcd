/- Several texts in one: Wordsq1, FListq1, RayAq1, RayCq1, RayDq2. -/
import Derived.Test.YtmcnmoljliggfaaGreatDoorBt27
set_option maxRecDepth 100000
set_option maxHeartbeats 8000000
/- Words for memory. (Copied from the guide's page of words for memory.) -/
namespace Go.Proofs.YtmcnmoljliggfaaGreatDoor
open Go.RowKit
theorem add_of_add (a : Addr) (i j : Nat) : (a.add i).add j = a.add (i + j) := by
  unfold Addr.add
  by_cases hi : i = 0 <;> by_cases hj : j = 0 <;> simp [hi, hj, Nat.add_assoc]

section
variable {w w' : World} {B B' size n : Nat} {A : Option Addr} {xs : List Value}
theorem Reads.cut (h : Reads w B size A n xs) {k cap : Nat} (hk : k ≤ n) (hc : n ≤ cap) :
    Reads w B size (if cap = k then A else A.map (·.add (k * size))) (n - k) (xs.drop (k * size)) := by
  refine ⟨by rw [List.length_drop, h.1, Nat.sub_mul], fun hn => ?_⟩
  obtain ⟨ad, rfl, hb, hcell⟩ := h.2 (by omega)
  rw [if_neg (by omega)]
  refine ⟨ad.add (k * size), rfl, by rw [block_of_add]; exact hb, fun j u hu => ?_⟩
  rw [add_of_add]
  exact hcell _ u (by rw [← hu, List.getElem?_drop])
end
section
variable {w w' : World} {g : Nat} {t : TypeId} {cs : Array Value}
end
section
variable {P : Program} (w : World)

end

section
variable {w w' : World} {g g' : Nat} {t : TypeId} {cs : Array Value}
end
section
variable {w w' : World} {B : Nat} {e e2 : TypeId} {size n1 size2 n2 : Nat} {v1 v2 : Value} {xs1 xs2 : List Value}
end
section
variable {w w' : World} {B : Nat} {e : TypeId} {size n1 n2 n3 : Nat} {v1 v2 v3 : Value} {xs1 xs2 xs3 : List Value}
end
/- Lists of fractions: what lies in them; Checks, Long, Answer of them. -/

theorem FIs.app {w : World} {q : FLoc} {z : Int × Int} (hq : FracIn w 0 q.val z.1 z.2) : ∀ {l : List FLoc} {zs : List (Int × Int)}, FIs w l zs → FIs w (l ++ [q]) (zs ++ [z])
  | [], [], _ => ⟨hq, trivial⟩
  | _ :: _, _ :: _, h => ⟨h.1, FIs.app hq h.2⟩
theorem FAs.len {w : World} : ∀ {l : List FLoc} {zs : List (Int × Int)}, FAs w l zs → l.length = zs.length
  | [], [], _ => rfl
  | q :: l, z :: zs, h => by rw [List.length_cons, List.length_cons, h.2.len]
/- Package ray: pair, det, fourOf, matrix, Check. (Written by wip/top/genraya.py.) -/

theorem fourOf_w {n1 d1 n2 d2 n3 d3 n4 d4 : Int} {Am1 Am2 Am3 Am4 Am5 Am6 Am7 Am8 : Option Addr} {cm1 cm2 cm3 cm4 cm5 cm6 cm7 cm8 : Nat} (w : World) :
    Calls Tryz.prog 34 #[.agg #[.bool (decide (n1 < 0)), .slice Am1 (natL n1.natAbs).length cm1, .bool (decide (d1 < 0)), .slice Am2 (natL d1.natAbs).length cm2, .bool (decide (n2 < 0)), .slice Am3 (natL n2.natAbs).length cm3, .bool (decide (d2 < 0)), .slice Am4 (natL d2.natAbs).length cm4, .bool (decide (n3 < 0)), .slice Am5 (natL n3.natAbs).length cm5, .bool (decide (d3 < 0)), .slice Am6 (natL d3.natAbs).length cm6, .bool (decide (n4 < 0)), .slice Am7 (natL n4.natAbs).length cm7, .bool (decide (d4 < 0)), .slice Am8 (natL d4.natAbs).length cm8]] w fun e w' => e = .returned (.agg #[.bool (decide (n1 < 0)), .slice Am1 (natL n1.natAbs).length cm1, .bool (decide (d1 < 0)), .slice Am2 (natL d1.natAbs).length cm2, .bool (decide (n2 < 0)), .slice Am3 (natL n2.natAbs).length cm3, .bool (decide (d2 < 0)), .slice Am4 (natL d2.natAbs).length cm4, .bool (decide (n3 < 0)), .slice Am5 (natL n3.natAbs).length cm5, .bool (decide (d3 < 0)), .slice Am6 (natL d3.natAbs).length cm6, .bool (decide (n4 < 0)), .slice Am7 (natL n4.natAbs).length cm7, .bool (decide (d4 < 0)), .slice Am8 (natL d4.natAbs).length cm8]) ∧ Below w.heap.size w w' := by
  go_enter Tryz.func34, Tryz.ntmps34
  go_upto_region 1 with fail
  refine boxes2 (P := fun W => Code.wp _ _ _ _ W) fun W p0 p1 b0 => ?_
  have PR := Hd (Hex.mk p1)
  have HB := Hd b0
  obtain ⟨-, a0, a1, a2, a3, a4, a5, a6, a7, a8, a9, a10, a11, a12, a13, a14, a15⟩ := (Hex.mk p0).facts
  clear p0 p1 b0
  go_wp2_with (refine wpList_store_N rfl 79 _ _ (by rfl) (by rfl) _ (.agg #[.bool (decide (n1 < 0)), .slice Am1 (natL n1.natAbs).length cm1, .bool (decide (d1 < 0)), .slice Am2 (natL d1.natAbs).length cm2, .bool (decide (n2 < 0)), .slice Am3 (natL n2.natAbs).length cm3, .bool (decide (d2 < 0)), .slice Am4 (natL d2.natAbs).length cm4, .bool (decide (n3 < 0)), .slice Am5 (natL n3.natAbs).length cm5, .bool (decide (d3 < 0)), .slice Am6 (natL d3.natAbs).length cm6, .bool (decide (n4 < 0)), .slice Am7 (natL n4.natAbs).length cm7, .bool (decide (d4 < 0)), .slice Am8 (natL d4.natAbs).length cm8]) _ 16 (by rfl) (by rfl) PR.out.blk rfl ⟨rfl, by simp [Value.oneCell', Value.cells]⟩ fourInfo ?_; intro w9 hput)
  have HB9 := Hd (hput.below HB.out (by omega))
  have k9 := hput.blk
  simp [Value.cells] at k9
  exact bodyPost_ret (results_cell_row rfl _ _ (w.heap.size + 1) _ _ _ _ (by rfl) k9 Tryz.underlying79 rfl fourInfo) rfl ⟨rfl, HB9.out⟩

/- Package ray: the keeper. (Written by wip/top/genrayc.py.) -/

theorem answer_mul_false {zs : List (Int × Int)} {p0 p1 : Value} (hl : longZ zs = false) (w : World) {kk : Nat} (hk : Cell1 w kk 74 (.int .i64 0)) (C1 : Calls Tryz.prog 33 #[p0, p1] w (RetFL w zs)) :
    Calls Tryz.prog 38 #[.pointer (some ⟨kk, 0, none⟩), .func (.func 33) #[] #[p0, p1]] w (RetFL w zs) := by
  have H1 := Hd C1
  have HL := Hd hl.symm
  have K := Hd hk
  clear C1 hl hk
  have k0 := K.out.blk.cell 0
  simp at k0
  go_enter Tryz.func38, Tryz.ntmps38
  go_wp2_with fail
  refine H1.out.mono ?_
  rintro e w1 ⟨v, rfl, hv, hb⟩
  clear k0
  have K := Hd (K.out.below hb)
  have HV := Hd hv
  have HB := Hd hb
  obtain ⟨g9, c9, cs9, l9, rfl, -⟩ := hv.form
  clear hv hb
  go_wp2_with fail
  refine (HV.out.at_.answer HL.out).mono ?_
  rintro e w2 ⟨rfl, hb⟩
  have K := Hd (K.out.below hb)
  have HV := Hd (HV.out.below hb)
  have HB := Hd (belowTo HB.out hb)
  clear hb
  have k1 := K.out.blk.cell 0
  simp at k1
  have k2 := K.out.blk.frozen 0
  have HV := Hd (HV.out.below (below_same (Below.refl _ _) K.out.blk))
  have HB := Hd (below_same HB.out K.out.blk)
  go_wp2_with fail
  go_ret
  exact ⟨_, rfl, HV.out, HB.out⟩

/- Package ray: Back, Through, Cross. (Written by wip/top/genrayd.py.) -/

theorem as_mul_false {N1 D1 N2 D2 N3 D3 N4 D4 : Int} {p0 p1 : Value} (hl : longZ [(N1, D1), (N2, D2), (N3, D3), (N4, D4)] = false) (w : World) {kk : Nat} (hk : Cell1 w kk 74 (.int .i64 0)) (C1 : ∀ V, Below w.heap.size w V → Calls Tryz.prog 33 #[p0, p1] V (RetFL V [(N1, D1), (N2, D2), (N3, D3), (N4, D4)])) :
    Calls Tryz.prog 32 #[.pointer (some ⟨kk, 0, none⟩), .func (.func 33) #[] #[p0, p1]] w (RetMatK w kk N1 D1 N2 D2 N3 D3 N4 D4 0) := by
  have hz := Hd (Nat.le_of_lt hk.blk.lt)
  have H1 := Hd C1
  have HL := Hd hl
  have K := Hd hk
  clear C1 hl hk
  go_enter Tryz.func32, Tryz.ntmps32
  go_upto_region 1 with fail
  refine boxes1 (P := fun W => Code.wp _ _ _ _ W) fun W p0 b0 => ?_
  have PR := Hd (Hex.mk p0)
  have HB := Hd b0
  have K := Hd (K.out.below b0)
  clear p0 b0
  go_wp2_with fail
  refine (answer_mul_false HL.out W K.out (H1.out W HB.out)).mono ?_
  rintro e w1 ⟨u, rfl, hu, hb⟩
  obtain ⟨g, c, cs, A0, c0, A1, c1, A2, c2, A3, c3, A4, c4, A5, c5, A6, c6, A7, c7, rfl, hr, hm⟩ := hu.four
  have HR := Hd (range_cells hr.1 hr.2)
  have HM := Hd hm
  have PR := Hd (PR.out.below hb)
  have HB := Hd (belowTo HB.out hb)
  clear hu hr hm hb K
  have hat : ∀ w, (Instr.arrayAt 79 (.slice (some ⟨g, 0, none⟩) 4 c)).run Tryz.prog w = .ok (.pointer (some ⟨g, 0, none⟩)) w := fun w => run_arrayAt w 79 _ 4 _ 4 c Tryz.underlying79 (Nat.le_refl _)
  go_wp2_with (first | (refine wpList_load_mid rfl _ _ (by rfl) _ _ (by rfl) _ _ HR.out Tryz.underlying79 rfl fourInfo ?_) | (rw [hat]) | (go_at_call 65; refine (matrix_w w1).mono ?_; rintro e w2 ⟨rfl, hb⟩; have PR := Hd (PR.out.below hb); have HM := Hd (HM.out.below hb); have HB := Hd (belowTo HB.out hb); clear hb) | (refine wpList_store_M rfl _ _ (by rfl) (by rfl) _ _ _ (by rfl) (by rfl) PR.out.blk rfl HM.out.cells ?_; intro w9 hput))
  have HF := Hd (HM.out.kept (hput.kept _ (Nat.le_refl _)) (by decide))
  have HB9 := Hd ((hput.below HB.out (Nat.le_refl _)).mono hz.out)
  have k9 := hput.blk
  simp [Value.cells] at k9
  refine bodyPost_ret (results_two rfl _ _ w.heap.size _ _ _ _ _ (by rfl) k9 Tryz.underlying38 rfl matInfo (by rfl)) rfl ⟨_, rfl, HF.out, HB9.out⟩

end Go.Proofs.YtmcnmoljliggfaaGreatDoor
