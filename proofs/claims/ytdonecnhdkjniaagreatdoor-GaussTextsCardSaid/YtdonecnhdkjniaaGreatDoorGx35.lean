/- Several texts in one: FRootZ, FRoot, ReadOwn, GReadLaw, GTextR. -/
import Derived.Test.YtdonecnhdkjniaaGreatDoorGx34
import Derived.Test.YtdonecnhdkjniaaGreatDoorGx32
set_option maxRecDepth 100000
set_option maxHeartbeats 8000000
namespace Go.Proofs.YtdonecnhdkjniaaGreatDoor
open Go.RowKit


def RetFracOwn3 (base : Nat) (w : World) (n d : Int) (b : Bool) (k : Int) (e : Ending) (w' : World) : Prop := ∃ v, e = .returned (.tuple #[v, .bool b, .int .i64 k]) /\ Zl w' base v n d /\ Below w.heap.size w w'
theorem Zc.top {w : World} {base : Nat} {n : Int} {a : Value} {A : Option Addr} {k c : Nat} (h : Zc w base (.agg #[a, .slice A k c]) n) : ∀ x, (Value.slice A k c).ownBlock = some x -> base <= x /\ x < w.heap.size := h.mine
theorem Zl.of {w : World} {b1 b2 c e : Nat} {n d : Int} {A B : Option Addr} (h1 : Zc w b1 (.agg #[.bool (decide (n < 0)), .slice A (Za n.natAbs).length c]) n) (h2 : Zc w b2 (.agg #[.bool (decide (d < 0)), .slice B (Za d.natAbs).length e]) d) (hb : b1 <= b2)
  (ht : ∀ x, (Value.slice A (Za n.natAbs).length c).ownBlock = some x -> x < b2) : Zl w b1 (.agg #[.bool (decide (n < 0)), .slice A (Za n.natAbs).length c, .bool (decide (d < 0)), .slice B (Za d.natAbs).length e]) n d := by
 refine ⟨A, c, B, e, rfl, h1, h2.base hb, fun g h h' => ?_⟩
 have := ht g h
 have := (h2.top g h').1
 omega


def ZX (w : World) (o : Option (Int × Int)) (e : Ending) (w' : World) : Prop := ∃ n d v, e = .returned (.tuple #[v, .bool o.isSome]) /\ ZE w' 0 v n d /\ Below w.heap.size w w' /\ ∀ p, o = some p -> p = (n, d) /\ Zl w' w.heap.size v n d
def YT (w : World) (n d : Int) (b : Bool) (e : Ending) (w' : World) : Prop := ∃ v, e = .returned (.tuple #[v, .bool b]) /\ Zl w' w.heap.size v n d /\ Below w.heap.size w w'

theorem ratio_WholeO (z one : Int) (A : Option Addr) (c base : Nat) (w : World) (h_z : Zm w A c (Za z.natAbs)) (o_z : Zc w base (.agg #[.bool (decide (z < 0)), .slice A (Za z.natAbs).length c]) z) (hbase : base <= w.heap.size) (h1 : one = 1) :
   Calls Tryz.prog 106 #[.agg #[.bool (decide (z < 0)), .slice A (Za z.natAbs).length c]] w (Z3 base w z one) := by
 have OT := Hd (fun x hx => (o_z.top x hx).2)
 have HBB := Hd hbase
 have OW := Hd o_z
 have H1 := Hd h1
 clear o_z h1 hbase
 have b0 := (((Below.refl w.heap.size w).alloc (Nat.le_refl _) (.cells #[.bool (decide (z < 0)), .slice A (Za z.natAbs).length c] 24)).alloc (by simp) (.cells #[.bool false, .slice none 0 0, .bool false, .slice none 0 0] 26))
 have p0 := (Zr.new w 24 (.bool (decide (z < 0))) (.slice A (Za z.natAbs).length c)).alloc (.cells #[.bool false, .slice none 0 0, .bool false, .slice none 0 0] 26)
 have p1 := Zz.new (w.alloc (.cells #[.bool (decide (z < 0)), .slice A (Za z.natAbs).length c] 24)) (.bool false) (.slice none 0 0) (.bool false) (.slice none 0 0)
 simp only [World.size_alloc] at p1
 have V_z := Hd (NV.of h_z b0 p0)
 have P_r0 := Hd p1
 have RW_z := Hd h_z
 have HBW := Hd b0
 clear b0 p0 p1 h_z
 go_enter Tryz.func106, Tryz.ntmps106
 obtain ⟨W, E⟩ : ∃ W, W = ((w.alloc (.cells #[.bool (decide (z < 0)), .slice A (Za z.natAbs).length c] 24)).alloc (.cells #[.bool false, .slice none 0 0, .bool false, .slice none 0 0] 26)) := ⟨_, rfl⟩
 go_upto_region 1 with fail
 rw [<- E] at V_z P_r0 HBW ⊢
 clear E
 have hszr := P_r0.out.blk.lt
 have O_z := Hd (OW.out.below HBW.out)
 clear OW
 go_wp2_with fail
 refine Zd [.val (.agg #[.bool (decide (z < 0)), .slice A (Za z.natAbs).length c]) [], .any false (fun u V => Zc V w.heap.size u one) [], .any false (fun u V => Zl V base u z one) [1], .old (w.heap.size + 1) 26 #[.bool false, .slice none 0 0, .bool false, .slice none 0 0] 0 4 2 []] (w.heap.size + 1) W [26] X6 _ Zf (by have := P_r0.out.blk.lt; omega) (Below.refl _ _) (Zu.refl _ _ _) rfl ?_ ?_ ?_ ?_ ?_ ?_ ?_ ?_ rfl (by simp [ZP]) ?_ ?_ ?_ ?_
 iterate 8 kernel_rfl
 . simp only [Zy, and_true]
   exact ⟨fun u V V' h k => h.kept k (by decide), fun u V V' h k => h.kept k (by decide)⟩
 . simp only [Z5, and_true]
   exact ⟨Nat.le_refl _, P_r0.out.blk.lt, P_r0.out.blk, by simp⟩
 . simp (maxSteps := 4000000) [ZH, YD, Zg, ZF, Zn]
   repeat' (first | apply And.intro | (intro (u : Value)) | (intro (u : Nat)))
   all_goals try exact ⟨_, _, _, rfl, rfl, rfl, rfl, YN⟩
   all_goals first
   | (intro V hV hK
      obtain ⟨-, a_z, b_z, -, -⟩ := (Zr.mk (hK.blk V_z.out.pair.blk (by decide))).facts
      have hvs := (HBW.out.trans (hV.mono (by omega))).size
      clear hV hK
      go_simp
      first
      | exact Below.refl _ _
      | ((with_reducible refine (eof 1 one H1.out (by decide) (by decide) V).mono ?_); rintro _ _ ⟨_, rfl, x, y⟩; exact ⟨x.base hvs, y⟩))
   | (intro V hV hK h1
      have oz := O_z.out.kept hK (by decide)
      obtain ⟨A6, c6, rfl, -⟩ := h1.raw
      clear hV hK
      go_simp
      exact ⟨Zl.of oz h1 HBB.out OT.out, Below.refl _ _⟩)
   | exact fun _ _ _ (h : Zl _ _ _ _ _) => h.cells
 . simp [YH, ZK, Zg, ZF, Zn]
   intro u1 u2 V hV hK h1 h2 bq _ _ _
   have HF := Hd h2
   obtain ⟨A6, c6, A7, c7, rfl, -⟩ := h2.form
   simp [Yd, Value.cells] at bq
   have k0 := bq.cell 0
   have k1 := bq.cell 1
   have k2 := bq.cell 2
   have k3 := bq.cell 3
   simp at k0 k1 k2 k3
   have HB9 := Hd (HBW.out.trans (hV.mono (by omega)))
   clear h1 h2 hV hK bq
   go_wp2_with fail
   exact bodyPost_ret (by simp [results, Tryz.results106, go_sem, k0, k1, k2, k3]) rfl ⟨_, rfl, HF.out, HB9.out⟩

theorem ratio_ReadO_w (s a b : ByteArray) (n : Int) (cut ok : Bool) (w : World)  (hc : cut = false ∨ cut = true /\ ok = false) (C1 : ∀ V, Calls Tryz.prog 104 #[.string s, .string ⟨#[47]⟩] V fun e w' => e = .returned (.tuple #[.string a, .string b, .bool cut]) /\ Below V.heap.size V w') (C2 : ∀ V, Calls Tryz.prog 105 #[.string a] V (RetZB V n ok)) :
  Calls Tryz.prog 27 #[.string s] w (YT w n 1 ok) := by
 have HC := Hd hc
 have H1 := Hd C1
 have H2 := Hd C2
 obtain ⟨one, hone⟩ : ∃ k : Int, k = 1 := ⟨_, rfl⟩
 have H3 := Hd (fun (V : World) (A : Option Addr) (c base : Nat) (h : Zm V A c (Za n.natAbs)) (o_z : Zc V base (.agg #[.bool (decide (n < 0)), .slice A (Za n.natAbs).length c]) n) (hb : base <= V.heap.size) => ratio_WholeO n one A c base V h o_z hb hone)
 rw [show (YT w n 1 ok) = YT w n one ok by rw [hone]]
 clear C1 C2 hone hc
 have b0 := ((Below.refl w.heap.size w).alloc (Nat.le_refl _) (.cells #[.bool false, .slice none 0 0, .bool false, .slice none 0 0] 26))
 have p0 := Zz.new w (.bool false) (.slice none 0 0) (.bool false) (.slice none 0 0)
 have P_r0 := Hd p0
 have HBW := Hd b0
 clear b0 p0 
 go_enter Tryz.func27, Tryz.ntmps27
 obtain ⟨W, E⟩ : ∃ W, W = (w.alloc (.cells #[.bool false, .slice none 0 0, .bool false, .slice none 0 0] 26)) := ⟨_, rfl⟩
 go_upto_region 1 with fail
 rw [<- E] at P_r0 HBW ⊢
 clear E
 have hsz := P_r0.out.blk.lt
 clear hsz
 go_wp2_with fail
 refine (H1.out W).mono ?_
 rintro e x1 ⟨rfl, hb⟩
 have P_r0 := Hd (P_r0.out.below hb)
 have HBW := Hd (Zb HBW.out hb)
 clear hb
 go_wp2_with fail
 refine (H2.out x1).mono ?_
 rintro e x2 ⟨v, rfl, hI, hb⟩
 obtain ⟨A1, c1, rfl, r1⟩ := hI.raw
 have hI0 := hI.base HBW.out.size
 have P_r0 := Hd (P_r0.out.below hb)
 have HBW := Hd (Zb HBW.out hb)
 have R_n := Hd r1
 clear hb r1
 have O_n := Hd hI0
 clear hI hI0
 go_upto_region 3 with fail
 have ha := ((Below.refl x2.heap.size x2).alloc (Nat.le_refl _) (.cells #[.bool (decide (n < 0)), .slice A1 (Za n.natAbs).length c1] 24))
 have p_n := (Zr.new x2 24 (.bool (decide (n < 0))) (.slice A1 (Za n.natAbs).length c1))
 obtain ⟨y3, E⟩ : ∃ W, W = (x2.alloc (.cells #[.bool (decide (n < 0)), .slice A1 (Za n.natAbs).length c1] 24)) := ⟨_, rfl⟩
 rw [<- E] at ha p_n ⊢
 have V_n := Hd (NV.of R_n.out ha p_n)
 have P_r0 := Hd (P_r0.out.below ha)
 have O_n := Hd (O_n.out.below ha)
 have HBW := Hd (Zb HBW.out ha)
 obtain ⟨g3, hg⟩ : ∃ g, g = x2.heap.size := ⟨_, rfl⟩
 rw [<- hg] at V_n ⊢
 clear E ha hg p_n
 rcases HC.out with rfl | ⟨rfl, rfl⟩
 all_goals (
  obtain ⟨l_n, a_n, b_n, -, -⟩ := V_n.out.pair.facts
  go_wp2_with fail
  refine (H3.out y3 A1 c1 w.heap.size V_n.out.raw O_n.out HBW.out.size).mono ?_
  rintro e x4 ⟨v, rfl, hF, hb⟩
  obtain ⟨A6, c6, A7, c7, rfl, -⟩ := hF.form
  clear l_n a_n b_n
  have V_n := Hd (V_n.out.below hb)
  have P_r0 := Hd (P_r0.out.below hb)
  have O_n := Hd (O_n.out.below hb)
  have HBW := Hd (Zb HBW.out hb)
  clear hb
  have HF := Hd hF
  clear hF
  obtain ⟨l_r0, a_r0, b_r0, f_r0, g_r0⟩ := P_r0.out.facts
  have HQ := Hd (P_r0.out.store (.bool (decide (n < 0))) (.slice A6 (Za n.natAbs).length c6) (.bool (decide (one < 0))) (.slice A7 (Za one.natAbs).length c7))
  have HB := Hd (YR HBW.out (show w.heap.size <= w.heap.size by omega) (.bool (decide (n < 0))) (.slice A6 (Za n.natAbs).length c6) (.bool (decide (one < 0))) (.slice A7 (Za one.natAbs).length c7))
  have HF9 := Hd (HF.out.quad P_r0.out (.bool (decide (n < 0))) (.slice A6 (Za n.natAbs).length c6) (.bool (decide (one < 0))) (.slice A7 (Za one.natAbs).length c7))
  go_wp2_with fail
  obtain ⟨_, k0, k1, k2, k3, _, _, _, _⟩ := HQ.out.facts
  exact bodyPost_ret (by simp [results, Tryz.results27, go_sem, k0, k1, k2, k3]) rfl ⟨_, rfl, HF9.out, HB.out⟩)

theorem ratio_ReadO_t (s a b : ByteArray) (n d : Int) (okd : Bool) (r : Option (Int × Int)) (w : World)  (C1 : ∀ V, Calls Tryz.prog 104 #[.string s, .string ⟨#[47]⟩] V fun e w' => e = .returned (.tuple #[.string a, .string b, .bool true]) /\ Below V.heap.size V w') (C2 : ∀ V, Calls Tryz.prog 105 #[.string a] V (RetZB V n true)) (C3 : ∀ V, Calls Tryz.prog 105 #[.string b] V (RetZB V d okd)) (hln : lz n <= 7282) (hld : lz d <= 7282) (ho : r = if okd = true /\ 0 < d /\ d ≠ 1 /\ ZL n d = 1 then some (n, d) else none) :
  Calls Tryz.prog 27 #[.string s] w (ZX w r) := by
 have H1 := Hd C1
 have H2 := Hd C2
 have H3 := Hd C3
 have HO := Hd ho
 clear C1 C2 C3 ho
 have b0 := ((Below.refl w.heap.size w).alloc (Nat.le_refl _) (.cells #[.bool false, .slice none 0 0, .bool false, .slice none 0 0] 26))
 have p0 := Zz.new w (.bool false) (.slice none 0 0) (.bool false) (.slice none 0 0)
 have P_r0 := Hd p0
 have HBW := Hd b0
 clear b0 p0 
 go_enter Tryz.func27, Tryz.ntmps27
 obtain ⟨W, E⟩ : ∃ W, W = (w.alloc (.cells #[.bool false, .slice none 0 0, .bool false, .slice none 0 0] 26)) := ⟨_, rfl⟩
 go_upto_region 1 with fail
 rw [<- E] at P_r0 HBW ⊢
 clear E
 go_wp2_with fail
 refine (H1.out W).mono ?_
 rintro e x1 ⟨rfl, hb⟩
 have P_r0 := Hd (P_r0.out.below hb)
 have HBW := Hd (Zb HBW.out hb)
 clear hb
 go_wp2_with fail
 refine (H2.out x1).mono ?_
 rintro e x2 ⟨v, rfl, hI, hb⟩
 obtain ⟨A1, c1, rfl, r1⟩ := hI.raw
 have hI0 := hI.base HBW.out.size
 have P_r0 := Hd (P_r0.out.below hb)
 have HBW := Hd (Zb HBW.out hb)
 have R_n := Hd r1
 clear hb r1
 have O_n := Hd hI0
 clear hI hI0
 go_upto_region 3 with fail
 have ha := ((Below.refl x2.heap.size x2).alloc (Nat.le_refl _) (.cells #[.bool (decide (n < 0)), .slice A1 (Za n.natAbs).length c1] 24))
 have p_n := (Zr.new x2 24 (.bool (decide (n < 0))) (.slice A1 (Za n.natAbs).length c1))
 obtain ⟨y3, E⟩ : ∃ W, W = (x2.alloc (.cells #[.bool (decide (n < 0)), .slice A1 (Za n.natAbs).length c1] 24)) := ⟨_, rfl⟩
 rw [<- E] at ha p_n ⊢
 have V_n := Hd (NV.of R_n.out ha p_n)
 have P_r0 := Hd (P_r0.out.below ha)
 have O_n := Hd (O_n.out.below ha)
 have HBW := Hd (Zb HBW.out ha)
 obtain ⟨g3, hg⟩ : ∃ g, g = x2.heap.size := ⟨_, rfl⟩
 rw [<- hg] at V_n ⊢
 clear E ha hg p_n
 go_wp2_with fail
 refine (H3.out y3).mono ?_
 rintro e x4 ⟨v, rfl, hI, hb⟩
 obtain ⟨A2, c2, rfl, r1⟩ := hI.raw
 have T_n := Hd (fun x hx => (O_n.out.top x hx).2)
 have HB3 := Hd HBW.out.size
 have hI0 := hI
 have V_n := Hd (V_n.out.below hb)
 have P_r0 := Hd (P_r0.out.below hb)
 have O_n := Hd (O_n.out.below hb)
 have HBW := Hd (Zb HBW.out hb)
 have R_d := Hd r1
 clear hb r1
 have O_d := Hd hI0
 clear hI hI0
 go_upto_region 6 with fail
 have ha := ((Below.refl x4.heap.size x4).alloc (Nat.le_refl _) (.cells #[.bool (decide (d < 0)), .slice A2 (Za d.natAbs).length c2] 24))
 have p_d := (Zr.new x4 24 (.bool (decide (d < 0))) (.slice A2 (Za d.natAbs).length c2))
 obtain ⟨y5, E⟩ : ∃ W, W = (x4.alloc (.cells #[.bool (decide (d < 0)), .slice A2 (Za d.natAbs).length c2] 24)) := ⟨_, rfl⟩
 rw [<- E] at ha p_d ⊢
 have V_d := Hd (NV.of R_d.out ha p_d)
 have V_n := Hd (V_n.out.below ha)
 have P_r0 := Hd (P_r0.out.below ha)
 have O_n := Hd (O_n.out.below ha)
 have O_d := Hd (O_d.out.below ha)
 have HBW := Hd (Zb HBW.out ha)
 obtain ⟨g5, hg⟩ : ∃ g, g = x4.heap.size := ⟨_, rfl⟩
 rw [<- hg] at V_d ⊢
 clear E ha hg p_d
 obtain ⟨l_n, a_n, b_n, -, -⟩ := V_n.out.pair.facts
 obtain ⟨l_d, a_d, b_d, -, -⟩ := V_d.out.pair.facts
 go_upto_region 7 with fail
 clear l_n a_n b_n l_d a_d b_d
 refine Zp (P := fun W => Code.wp _ _ _ _ W) fun y9 hq ha => ?_
 have V_n := Hd (V_n.out.below ha)
 have V_d := Hd (V_d.out.below ha)
 have P_r0 := Hd (P_r0.out.below ha)
 have O_n := Hd (O_n.out.below ha)
 have O_d := Hd (O_d.out.below ha)
 have HBW := Hd (Zb HBW.out ha)
 obtain ⟨gq, hg⟩ : ∃ g, g = y5.heap.size := ⟨_, rfl⟩
 rw [<- hg] at hq ⊢
 have V_q := Hd (Zz.mk hq)
 clear ha hg hq
 cases okd
 case false =>
  rw [if_neg (fun h => Bool.false_ne_true h.1)] at HO
  obtain rfl := HO.out
  clear HO
  go_wp2_with fail
  obtain ⟨W0, hW⟩ : ∃ W0, W0 = y9 := ⟨_, rfl⟩
  rw [<- hW] at HBW P_r0 O_n O_d V_q V_n V_d  ⊢
  clear hW
  refine Zd [.val (.bool false) [], .val (.bool true) [], .val (.bool true) [], .skip, .skip, .skip, .val (.bool true) [], .val (.bool true) [], .skip, .skip, .skip, .skip, .val (.bool true) [], .val (.bool true) [], .skip, .skip, .skip, .skip, .skip, .skip, .val (.bool true) []] W0.heap.size W0 [] (fun _ _ => False) _ Zf (Nat.le_refl _) (Below.refl _ _) (Zu.refl _ _ _) rfl ?_ ?_ ?_ ?_ ?_ ?_ ?_ ?_ rfl (by simp [ZP]) ?_ ?_ ?_ ?_
  iterate 8 kernel_rfl
  . simp only [Zy]
  . simp only [Z5]
  . simp (maxSteps := 4000000) [ZH, YD, Zg, ZF, Zn]
    repeat' (first | apply And.intro | (intro (u0 : Value)))
    all_goals first
    | (intro V hV hK
       clear hV hK
       go_simp
       first
       | exact Below.refl _ _
       | exact ⟨by first | rfl | decide | go_num, Below.refl _ _⟩)

  . simp [YH, ZK, Zg, ZF, Zn]
    intro V hV hK _ _ _
    have V_n := Hd (V_n.out.below hV)
    have V_d := Hd (V_d.out.below hV)
    have P_r0 := Hd (P_r0.out.below hV)
    have O_n := Hd (O_n.out.below hV)
    have O_d := Hd (O_d.out.below hV)
    have V_q := Hd (V_q.out.below hV)
    have HBW := Hd (Zb HBW.out hV)
    clear hV hK
    obtain ⟨v6, hV0⟩ : ∃ Y, Y = V := ⟨_, rfl⟩
    rw [<- hV0] at HBW P_r0 O_n O_d V_q V_n V_d  ⊢
    clear hV0
    obtain ⟨l_r0, a_r0, b_r0, f_r0, g_r0⟩ := P_r0.out.facts
    have HQ := Hd (P_r0.out.store (.bool false) (.slice none 0 0) (.bool false) (.slice none 0 0))
    have HB := Hd (YR HBW.out (show w.heap.size <= w.heap.size by omega) (.bool false) (.slice none 0 0) (.bool false) (.slice none 0 0))
    go_wp2_with fail
    obtain ⟨_, k0, k1, k2, k3, _, _, _, _⟩ := HQ.out.facts
    exact bodyPost_ret (by simp [results, Tryz.results27, go_sem, k0, k1, k2, k3]) rfl ⟨0, 0, _, rfl, ZE.zero _ _, HB.out, fun p hp => by cases hp⟩
 case true =>
  by_cases hd : d <= 0
  . skip
    rw [if_neg (fun h => by have := h.2.1; omega)] at HO
    obtain rfl := HO.out
    clear HO
    obtain ⟨sg, hsg⟩ : ∃ k : Int, k = d.sign := ⟨_, rfl⟩
    have HSG := Hd hsg
    have HLE := Hd (show decide (sg <= 0) = true from decide_eq_true (by rw [hsg]; exact Int.sign_nonpos_iff.2 hd))
    clear hsg hd
    go_wp2_with fail
    obtain ⟨W0, hW⟩ : ∃ W0, W0 = y9 := ⟨_, rfl⟩
    rw [<- hW] at HBW P_r0 O_n O_d V_q V_n V_d  ⊢
    clear hW
    refine Zd [.val (.bool true) [], .val (.bool false) [], .val (.bool false) [], .val (.agg #[.bool (decide (d < 0)), .slice A2 (Za d.natAbs).length c2]) [], .val (.int .i64 sg) [], .val (.bool true) [], .val (.bool true) [], .val (.bool true) [], .skip, .skip, .skip, .skip, .val (.bool true) [], .val (.bool true) [], .skip, .skip, .skip, .skip, .skip, .skip, .val (.bool true) []] W0.heap.size W0 [] (fun _ _ => False) _ Zf (Nat.le_refl _) (Below.refl _ _) (Zu.refl _ _ _) rfl ?_ ?_ ?_ ?_ ?_ ?_ ?_ ?_ rfl (by simp [ZP]) ?_ ?_ ?_ ?_
    iterate 8 kernel_rfl
    . simp only [Zy]
    . simp only [Z5]
    . simp (maxSteps := 4000000) [ZH, YD, Zg, ZF, Zn]
      repeat' (first | apply And.intro | (intro (u0 : Value)))
      all_goals first
      | (intro V hV hK
         obtain ⟨-, a_n, b_n, -, -⟩ := (V_n.out.below hV).pair.facts
         have r_n := Hd (V_n.out.below hV).raw
         obtain ⟨-, a_d, b_d, -, -⟩ := (V_d.out.below hV).pair.facts
         have r_d := Hd (V_d.out.below hV).raw
         have hle := HLE.out
         clear hV hK
         go_simp
         first
         | exact Below.refl _ _
         | exact ⟨by first | rfl | decide | go_num, Below.refl _ _⟩
         | ((with_reducible refine (esign d sg A2 c2 V r_d.out HSG.out).mono ?_); rintro e w' ⟨rfl, hb⟩; exact ⟨rfl, hb⟩))

    . simp [YH, ZK, Zg, ZF, Zn]
      intro V hV hK _ _ _
      have V_n := Hd (V_n.out.below hV)
      have V_d := Hd (V_d.out.below hV)
      have P_r0 := Hd (P_r0.out.below hV)
      have O_n := Hd (O_n.out.below hV)
      have O_d := Hd (O_d.out.below hV)
      have V_q := Hd (V_q.out.below hV)
      have HBW := Hd (Zb HBW.out hV)
      clear hV hK
      obtain ⟨v6, hV0⟩ : ∃ Y, Y = V := ⟨_, rfl⟩
      rw [<- hV0] at HBW P_r0 O_n O_d V_q V_n V_d  ⊢
      clear hV0
      obtain ⟨l_r0, a_r0, b_r0, f_r0, g_r0⟩ := P_r0.out.facts
      have HQ := Hd (P_r0.out.store (.bool false) (.slice none 0 0) (.bool false) (.slice none 0 0))
      have HB := Hd (YR HBW.out (show w.heap.size <= w.heap.size by omega) (.bool false) (.slice none 0 0) (.bool false) (.slice none 0 0))
      go_wp2_with fail
      obtain ⟨_, k0, k1, k2, k3, _, _, _, _⟩ := HQ.out.facts
      exact bodyPost_ret (by simp [results, Tryz.results27, go_sem, k0, k1, k2, k3]) rfl ⟨0, 0, _, rfl, ZE.zero _ _, HB.out, fun p hp => by cases hp⟩
  by_cases hd1 : d = 1
  . skip
    rw [if_neg (fun h => h.2.2.1 hd1)] at HO
    obtain rfl := HO.out
    clear HO
    obtain ⟨sg, hsg⟩ : ∃ k : Int, k = d.sign := ⟨_, rfl⟩
    have HSG := Hd hsg
    obtain ⟨one, hone⟩ : ∃ k : Int, k = 1 := ⟨_, rfl⟩
    have hol : lz one <= 2 := by rw [hone]; decide
    have HONE := Hd hone
    have HLE := Hd (show decide (sg <= 0) = false from decide_eq_false (by rw [hsg, Int.sign_eq_one_of_pos (by omega)]; decide))
    have HK1 := Hd (show (0 : Int) = Jt d one from by rw [hone, hd1]; decide)
    clear hsg hd hd1 hone
    go_wp2_with fail
    obtain ⟨W0, hW⟩ : ∃ W0, W0 = y9 := ⟨_, rfl⟩
    rw [<- hW] at HBW P_r0 O_n O_d V_q V_n V_d  ⊢
    clear hW
    refine Zd [.val (.bool true) [], .val (.bool false) [], .val (.bool false) [], .val (.agg #[.bool (decide (d < 0)), .slice A2 (Za d.natAbs).length c2]) [], .val (.int .i64 sg) [], .val (.bool false) [], .val (.bool false) [], .val (.bool false) [], .val (.agg #[.bool (decide (d < 0)), .slice A2 (Za d.natAbs).length c2]) [], .any false (fun u0 V => XS V u0 one) [], .val (.int .i64 0) [9], .val (.bool true) [], .val (.bool true) [], .val (.bool true) [], .skip, .skip, .skip, .skip, .skip, .skip, .val (.bool true) []] W0.heap.size W0 [] (fun _ _ => False) _ Zf (Nat.le_refl _) (Below.refl _ _) (Zu.refl _ _ _) rfl ?_ ?_ ?_ ?_ ?_ ?_ ?_ ?_ rfl (by simp [ZP]) ?_ ?_ ?_ ?_
    iterate 8 kernel_rfl
    . simp only [Zy, and_true]
      exact fun u0 V V' h k => h.keptNone k
    . simp only [Z5]
    . simp (maxSteps := 4000000) [ZH, YD, Zg, ZF, Zn]
      repeat' (first | apply And.intro | (intro (u0 : Value)))
      all_goals first
      | (intro V hV hK
         obtain ⟨-, a_n, b_n, -, -⟩ := (V_n.out.below hV).pair.facts
         have r_n := Hd (V_n.out.below hV).raw
         obtain ⟨-, a_d, b_d, -, -⟩ := (V_d.out.below hV).pair.facts
         have r_d := Hd (V_d.out.below hV).raw
         have hle := HLE.out
         clear hV hK
         go_simp
         first
         | exact Below.refl _ _
         | exact ⟨by first | rfl | decide | go_num, Below.refl _ _⟩
         | ((with_reducible refine (esign d sg A2 c2 V r_d.out HSG.out).mono ?_); rintro e w' ⟨rfl, hb⟩; exact ⟨rfl, hb⟩)
         | ((with_reducible refine (eof 1 one HONE.out (by decide) (by decide) V).mono ?_); rintro _ _ ⟨_, rfl, x, y⟩; exact ⟨x.at_, y⟩))
      | (intro V hV hK hu
         obtain ⟨A', c', rfl, hr⟩ := hu.form
         have r_d := Hd (V_d.out.below hV).raw
         have r' := Hd hr
         clear hV hK hu hr
         go_simp
         (with_reducible refine (ecmp d one 0 A2 A' c2 c' V r_d.out r'.out (by omega) (by omega) HK1.out).mono ?_)
         rintro e w' ⟨rfl, hb⟩
         exact ⟨rfl, hb⟩)
    . simp [YH, ZK, Zg, ZF, Zn]
      intro u1 V hV hK _h1 _ _ _
      have V_n := Hd (V_n.out.below hV)
      have V_d := Hd (V_d.out.below hV)
      have P_r0 := Hd (P_r0.out.below hV)
      have O_n := Hd (O_n.out.below hV)
      have O_d := Hd (O_d.out.below hV)
      have V_q := Hd (V_q.out.below hV)
      have HBW := Hd (Zb HBW.out hV)
      clear hV hK
      obtain ⟨v6, hV0⟩ : ∃ Y, Y = V := ⟨_, rfl⟩
      rw [<- hV0] at HBW P_r0 O_n O_d V_q V_n V_d  ⊢
      clear hV0
      obtain ⟨l_r0, a_r0, b_r0, f_r0, g_r0⟩ := P_r0.out.facts
      have HQ := Hd (P_r0.out.store (.bool false) (.slice none 0 0) (.bool false) (.slice none 0 0))
      have HB := Hd (YR HBW.out (show w.heap.size <= w.heap.size by omega) (.bool false) (.slice none 0 0) (.bool false) (.slice none 0 0))
      go_wp2_with fail
      obtain ⟨_, k0, k1, k2, k3, _, _, _, _⟩ := HQ.out.facts
      exact bodyPost_ret (by simp [results, Tryz.results27, go_sem, k0, k1, k2, k3]) rfl ⟨0, 0, _, rfl, ZE.zero _ _, HB.out, fun p hp => by cases hp⟩
  obtain ⟨sg, hsg⟩ : ∃ k : Int, k = d.sign := ⟨_, rfl⟩
  have HSG := Hd hsg
  obtain ⟨one, hone⟩ : ∃ k : Int, k = 1 := ⟨_, rfl⟩
  have hol : lz one <= 2 := by rw [hone]; decide
  have HONE := Hd hone
  have HLE := Hd (show decide (sg <= 0) = false from decide_eq_false (by rw [hsg, Int.sign_eq_one_of_pos (by omega)]; decide))
  obtain ⟨g, hg0⟩ : ∃ k : Int, k = ZL n d := ⟨_, rfl⟩
  have HG := Hd (show g = ((Nat.gcd n.natAbs d.natAbs : Nat) : Int) from hg0)
  have hgl := gcdZ_lz (n := n) (d := d) (by omega)
  have hgp := Km (n := n) (d := d) (by omega)
  rw [<- hg0] at hgl hgp
  have HK1 := Hd (show (1 : Int) = Jt d one from by rw [hone]; exact (cmpz_gt (by omega)).symm)
  obtain ⟨k2, hk2⟩ : ∃ k : Int, k = Jt g one := ⟨_, rfl⟩
  have HK2 := Hd hk2
  obtain ⟨bg, hbg⟩ : ∃ b : Bool, b = (k2 != 0) := ⟨_, rfl⟩
  have HBG := Hd hbg.symm
  have HBO := Hd (show (bg = true -> r = none) /\ (bg = false -> r = some (n, d)) from by
          have hk3 : (ZL n d = 1 -> bg = false) /\ (ZL n d ≠ 1 -> bg = true) := by
            rw [hbg, hk2, hone, hg0]
            refine ⟨fun h => by rw [h]; decide, fun h => ?_⟩
            rw [cmpz_gt (by omega)]
            decide
          rw [HO.out]
          refine ⟨fun h => if_neg fun h2 => ?_, fun h => if_pos ⟨rfl, by omega, hd1, Decidable.byContradiction fun h2 => ?_⟩⟩
          . rw [hk3.1 h2.2.2.2] at h; cases h
          . rw [hk3.2 h2] at h; cases h)
  clear hsg hg0 hk2 hbg hgp HO hone hd hd1
  go_wp2_with fail
  obtain ⟨W0, hW⟩ : ∃ W0, W0 = y9 := ⟨_, rfl⟩
  rw [<- hW] at HBW P_r0 O_n O_d V_q V_n V_d  ⊢
  clear hW
  refine Zd [.val (.bool true) [], .val (.bool false) [], .val (.bool false) [], .val (.agg #[.bool (decide (d < 0)), .slice A2 (Za d.natAbs).length c2]) [], .val (.int .i64 sg) [], .val (.bool false) [], .val (.bool false) [], .val (.bool false) [], .val (.agg #[.bool (decide (d < 0)), .slice A2 (Za d.natAbs).length c2]) [], .any false (fun u0 V => XS V u0 one) [], .val (.int .i64 1) [9], .val (.bool false) [], .val (.bool false) [], .val (.bool false) [], .val (.agg #[.bool (decide (n < 0)), .slice A1 (Za n.natAbs).length c1]) [], .val (.agg #[.bool (decide (d < 0)), .slice A2 (Za d.natAbs).length c2]) [], .any false (fun u0 V => XS V u0 g) [], .any false (fun u0 V => XS V u0 one) [], .val (.int .i64 k2) [16, 17], .val (.bool bg) [], .val (.bool bg) []] W0.heap.size W0 [] (fun _ _ => False) _ Zf (Nat.le_refl _) (Below.refl _ _) (Zu.refl _ _ _) rfl ?_ ?_ ?_ ?_ ?_ ?_ ?_ ?_ rfl (by simp [ZP]) ?_ ?_ ?_ ?_
  iterate 8 kernel_rfl
  . simp only [Zy, and_true]
    exact ⟨fun u0 V V' h k => h.keptNone k, fun u0 V V' h k => h.keptNone k, fun u0 V V' h k => h.keptNone k⟩
  . simp only [Z5]
  . simp (maxSteps := 4000000) [ZH, YD, Zg, ZF, Zn]
    repeat' (first | apply And.intro | (intro (u0 : Value)))
    all_goals first
    | (intro V hV hK
       obtain ⟨-, a_n, b_n, -, -⟩ := (V_n.out.below hV).pair.facts
       have r_n := Hd (V_n.out.below hV).raw
       obtain ⟨-, a_d, b_d, -, -⟩ := (V_d.out.below hV).pair.facts
       have r_d := Hd (V_d.out.below hV).raw
       have hle := HLE.out
       have hbg := HBG.out
       clear hV hK
       go_simp
       first
       | exact Below.refl _ _
       | exact ⟨by first | rfl | decide | go_num, Below.refl _ _⟩
       | ((with_reducible refine (esign d sg A2 c2 V r_d.out HSG.out).mono ?_); rintro e w' ⟨rfl, hb⟩; exact ⟨rfl, hb⟩)
       | ((with_reducible refine (eof 1 one HONE.out (by decide) (by decide) V).mono ?_); rintro _ _ ⟨_, rfl, x, y⟩; exact ⟨x.at_, y⟩)
       | ((with_reducible refine (ecommon n d g A1 A2 c1 c2 V r_n.out r_d.out (by omega) (by omega) HG.out).mono ?_); rintro _ _ ⟨_, rfl, x, y⟩; exact ⟨x.at_, y⟩))
    | (intro V hV hK hu
       obtain ⟨A', c', rfl, hr⟩ := hu.form
       have r_d := Hd (V_d.out.below hV).raw
       have r' := Hd hr
       clear hV hK hu hr
       go_simp
       (with_reducible refine (ecmp d one 1 A2 A' c2 c' V r_d.out r'.out (by omega) (by omega) HK1.out).mono ?_)
       rintro e w' ⟨rfl, hb⟩
       exact ⟨rfl, hb⟩)
    | (intro V hV hK hu1 hu2
       obtain ⟨A', c', rfl, hr⟩ := hu1.form
       obtain ⟨A'', c'', rfl, hs⟩ := hu2.form
       have r' := Hd hr
       have r'' := Hd hs
       clear hV hK hu1 hu2 hr hs
       go_simp
       (with_reducible refine (ecmp g one k2 A' A'' c' c'' V r'.out r''.out (by omega) (by omega) HK2.out).mono ?_)
       rintro e w' ⟨rfl, hb⟩
       exact ⟨rfl, hb⟩)
  . simp [YH, ZK, Zg, ZF, Zn]
    intro u1 u2 u3 V hV hK _h1 _h2 _h3 _ _ _
    have V_n := Hd (V_n.out.below hV)
    have V_d := Hd (V_d.out.below hV)
    have P_r0 := Hd (P_r0.out.below hV)
    have O_n := Hd (O_n.out.below hV)
    have O_d := Hd (O_d.out.below hV)
    have V_q := Hd (V_q.out.below hV)
    have HBW := Hd (Zb HBW.out hV)
    clear hV hK
    obtain ⟨v6, hV0⟩ : ∃ Y, Y = V := ⟨_, rfl⟩
    rw [<- hV0] at HBW P_r0 O_n O_d V_q V_n V_d  ⊢
    clear hV0
    cases bg
    case false =>
      have HR := Hd (HBO.out.2 rfl)
      clear HBO
      obtain ⟨l_q, a_q, b_q, c_q, d_q, -, -, -, -⟩ := V_q.out.facts
      have HF : Hid (Zl v6 w.heap.size (.agg #[.bool (decide (n < 0)), .slice A1 (Za n.natAbs).length c1, .bool (decide (d < 0)), .slice A2 (Za d.natAbs).length c2]) n d) := Hd (Zl.of O_n.out O_d.out HB3.out T_n.out)
      obtain ⟨l_r0, a_r0, b_r0, f_r0, g_r0⟩ := P_r0.out.facts
      have HQ := Hd (P_r0.out.store (.bool (decide (n < 0))) (.slice A1 (Za n.natAbs).length c1) (.bool (decide (d < 0))) (.slice A2 (Za d.natAbs).length c2))
      have HB := Hd (YR HBW.out (show w.heap.size <= w.heap.size by omega) (.bool (decide (n < 0))) (.slice A1 (Za n.natAbs).length c1) (.bool (decide (d < 0))) (.slice A2 (Za d.natAbs).length c2))
      have HF9 := Hd (HF.out.quad P_r0.out (.bool (decide (n < 0))) (.slice A1 (Za n.natAbs).length c1) (.bool (decide (d < 0))) (.slice A2 (Za d.natAbs).length c2))
      go_wp2_with fail
      obtain ⟨_, k0, k1, k2, k3, _, _, _, _⟩ := HQ.out.facts
      exact bodyPost_ret (by simp [results, Tryz.results27, go_sem, k0, k1, k2, k3, HR.out]) rfl ⟨n, d, _, rfl, HF9.out.in_, HB.out, fun p hp => ⟨by rw [HR.out] at hp; exact (Option.some.inj hp).symm, HF9.out⟩⟩
    case true =>
      have HR := Hd (HBO.out.1 rfl)
      clear HBO
      obtain ⟨l_r0, a_r0, b_r0, f_r0, g_r0⟩ := P_r0.out.facts
      have HQ := Hd (P_r0.out.store (.bool false) (.slice none 0 0) (.bool false) (.slice none 0 0))
      have HB := Hd (YR HBW.out (show w.heap.size <= w.heap.size by omega) (.bool false) (.slice none 0 0) (.bool false) (.slice none 0 0))
      go_wp2_with fail
      obtain ⟨_, k0, k1, k2, k3, _, _, _, _⟩ := HQ.out.facts
      exact bodyPost_ret (by simp [results, Tryz.results27, go_sem, k0, k1, k2, k3, HR.out]) rfl ⟨0, 0, _, rfl, ZE.zero _ _, HB.out, fun p hp => by rw [HR.out] at hp; cases hp⟩

theorem ZX.of_own {w : World} {n d : Int} {e : Ending} {w' : World} (h : YT w n d true e w') : ZX w (some (n, d)) e w' := by
 obtain ⟨v, h1, h2, h3⟩ := h
 exact ⟨n, d, v, h1, h2.in_, h3, fun p hp => ⟨(Option.some.inj hp).symm, h2⟩⟩
theorem ZX.of_false {w : World} {n d : Int} {e : Ending} {w' : World} (h : YT w n d false e w') : ZX w none e w' := by
 obtain ⟨v, h1, h2, h3⟩ := h
 exact ⟨n, d, v, h1, h2.in_, h3, fun p hp => by cases hp⟩
theorem ratio_ReadO (s : ByteArray) (hs : s.size <= 65536) (w : World) :
  Calls Tryz.prog 27 #[.string s] w (ZX w (Yf s.data.toList)) := by
 have C1 := fun V => strings_Cut_bar s hs V
 have hsl : s.data.toList.length <= 65536 := by rw [<- Lib.size_eq]; exact hs
 have hfl := front_le s.data.toList
 have hbl : (cutB s.data.toList).length <= 65536 := by
  unfold cutB
  split
  . exact Nat.le_trans (back_le _) hsl
  . simp
 have C2 := fun V => exact_Read ⟨(ZA s.data.toList).toArray⟩ (by simpa [ByteArray.size] using Nat.le_trans hfl hsl) V
 have C3 := fun V => exact_Read ⟨(cutB s.data.toList).toArray⟩ (by simpa [ByteArray.size] using hbl) V
 simp only at C2 C3
 cases hz : Yy (ZA s.data.toList) with
 | none =>
  have hr : Yf s.data.toList = none := by unfold Yf; rw [hz]
  rw [hz] at C2
  rw [hr]
  exact (ratio_ReadO_w s _ _ 0 _ false w (by cases decide ((47 : UInt8) ∈ s.data.toList) <;> simp) C1 C2).mono fun e w' h => ZX.of_false h
 | some n =>
  rw [hz] at C2
  have hln := lz_read hz (Nat.le_trans hfl hsl)
  by_cases hb : (47 : UInt8) ∈ s.data.toList
  . rw [decide_eq_true hb] at C1
    have ec : cutB s.data.toList = YQ s.data.toList := by unfold cutB; rw [if_pos hb]
    rw [ec] at C1 C3 hbl
    cases hy : Yy (YQ s.data.toList) with
    | none =>
     rw [hy] at C3
     exact ratio_ReadO_t s _ _ n 0 false _ w C1 C2 C3 hln (by decide) (by rw [if_neg (fun h => Bool.false_ne_true h.1)]; unfold Yf; rw [hz]; simp only; rw [if_pos hb, hy])
    | some d =>
     rw [hy] at C3
     refine ratio_ReadO_t s _ _ n d true _ w C1 C2 C3 hln (lz_read hy hbl) ?_
     unfold Yf
     rw [hz]
     simp only
     rw [if_pos hb, hy]
     simp
  . rw [decide_eq_false hb] at C1
    have hr : Yf s.data.toList = some (n, 1) := by unfold Yf; rw [hz]; simp only; rw [if_neg hb]
    rw [hr]
    exact (ratio_ReadO_w s _ _ n false true w (.inl rfl) C1 C2).mono fun e w' h => ZX.of_own h

def secT (n d : Int) : List UInt8 := if Zk n d = [49] then [105] else if Zk n d = [45, 49] then [45, 105] else Zk n d ++ [105]
def XA (n d m e : Int) : List UInt8 := if m = 0 then Zk n d else if n = 0 then secT m e else Zk n d ++ (if 0 < m then 43 :: secT m e else secT m e)
def pm (b : UInt8) : Bool := b == 43 || b == 45
def Yv : List UInt8 -> Int
 | [] => -1
 | x :: r => if 0 <= Yv r then Yv r + 1 else if pm x then 0 else -1
def J5 (s : List UInt8) : Option (Int × Int) := if s = [] then some (1, 1) else if s = [45] then some (-1, 1) else match Yf s with
 | none => none
 | some p => if p.1 ≠ 0 /\ s ≠ [49] /\ s ≠ [45, 49] then some p else none
def Kl (s : List UInt8) : Option (Int × Int) := if s = [] then some (1, 1) else if s = [45] then some (-1, 1) else Yf s

theorem XP (x : UInt8) (r : List UInt8) : Yv (x :: r) = if 0 <= Yv r then Yv r + 1 else if pm x then 0 else -1 := rfl
theorem pmAt_none : ∀ {l : List UInt8}, (∀ b ∈ l, pm b = false) -> Yv l = -1
 | [], _ => rfl
 | x :: r, h => by
  unfold Yv
  rw [pmAt_none fun b hb => h b (List.mem_cons_of_mem _ hb), if_neg (by decide), h x (List.mem_cons_self ..)]
  rfl
theorem pmAt_app : ∀ {a b : List UInt8}, 0 <= Yv b -> Yv (a ++ b) = a.length + Yv b
 | [], b, h => by simp
 | x :: r, b, h => by
  rw [List.cons_append, XP, pmAt_app (a := r) h, if_pos (by omega), List.length_cons]
  omega
theorem pmAt_here {a t : List UInt8} {x : UInt8} (hx : pm x = true) (ht : ∀ b ∈ t, pm b = false) : Yv (a ++ x :: t) = a.length := by
 have h0 : Yv (x :: t) = 0 := by
  unfold Yv
  rw [pmAt_none ht, if_neg (by decide), if_pos hx]
 rw [pmAt_app (by rw [h0]; exact Int.le_refl _), h0]
 omega
theorem pmAt_split : ∀ {l : List UInt8} {k : Nat}, Yv l = k -> ∃ x t, l = l.take k ++ x :: t /\ pm x = true /\ ∀ b ∈ t, pm b = false
 | [], k, h => by unfold Yv at h; omega
 | x :: r, k, h => by
  unfold Yv at h
  split at h
  . obtain ⟨j, rfl⟩ : ∃ j, k = j + 1 := ⟨k - 1, by omega⟩
    obtain ⟨y, t, e, hy, ht⟩ := pmAt_split (l := r) (k := j) (by omega)
    exact ⟨y, t, by rw [List.take_succ_cons, List.cons_append, <- e], hy, ht⟩
  . rename_i hr
    split at h
    . rename_i hx
      obtain rfl : k = 0 := by omega
      refine ⟨x, r, rfl, hx, fun b hb => ?_⟩
      cases hp : pm b with
      | false => rfl
      | true =>
       exfalso
       obtain ⟨u, v, e⟩ := List.append_of_mem hb
       have : 0 <= Yv (b :: v) := by
        rw [XP]
        split
        . omega
        . first | decide | (rw [if_pos hp]; decide)
       rw [e, pmAt_app this] at hr
       omega
    . omega
theorem dec_plain {n : Nat} {b : UInt8} (h : b ∈ Lib.decDigits n) : pm b = false /\ b ≠ 105 := by
 have hb := J4 n h
 constructor
 . unfold pm
   have h1 : b ≠ 43 := fun e => by subst e; exact absurd hb.1 (by decide)
   have h2 : b ≠ 45 := fun e => by subst e; exact absurd hb.1 (by decide)
   simp [h1, h2]
 . intro e
   subst e
   exact absurd hb.2 (by decide)
theorem decDigits_some (n : Nat) : Lib.decDigits n ≠ [] := fun h => by
 have := Ja (n : Int)
 have e : Lib.itoa (n : Int) = [] := by unfold Lib.itoa; rw [if_neg (by omega)]; exact h
 rw [e] at this
 rw [show Yy [] = none from rfl] at this
 cases this
theorem Jk {n d : Int} (hd : 0 < d) : ∃ x t, Zk n d = x :: t /\ (∀ b ∈ t, pm b = false /\ b ≠ 105) /\ (n < 0 -> x = 45) /\ (0 <= n -> pm x = false /\ x ≠ 105) := by
 have hb : ∀ b ∈ Lib.itoa d, pm b = false /\ b ≠ 105 := fun b h => by
   unfold Lib.itoa at h
   rw [if_neg (by omega)] at h
   exact dec_plain h
 have hbar : pm 47 = false /\ (47 : UInt8) ≠ 105 := by decide
 obtain ⟨x, t, e, h1, h2, h3⟩ : ∃ x t, Lib.itoa n = x :: t /\ (∀ b ∈ t, pm b = false /\ b ≠ 105) /\ (n < 0 -> x = 45) /\ (0 <= n -> pm x = false /\ x ≠ 105) := by
   unfold Lib.itoa
   by_cases hn : n < 0
   . rw [if_pos hn]
     exact ⟨45, _, rfl, fun b h => dec_plain h, fun _ => rfl, fun h => by omega⟩
   . rw [if_neg hn]
     cases hq : Lib.decDigits n.toNat with
     | nil => exact absurd hq (decDigits_some _)
     | cons x t =>
       refine ⟨x, t, rfl, fun b h => dec_plain (n := n.toNat) (by rw [hq]; exact List.mem_cons_of_mem _ h), fun h => by omega, fun _ => dec_plain (n := n.toNat) (by rw [hq]; exact List.mem_cons_self ..)⟩
 unfold Zk
 split
 . exact ⟨x, t, e, h1, h2, h3⟩
 . refine ⟨x, t ++ 47 :: Lib.itoa d, by rw [e]; rfl, fun b h => ?_, h2, h3⟩
   rcases List.mem_append.1 h with h | h
   . exact h1 b h
   . rcases List.mem_cons.1 h with h | h
     . rw [h]; exact hbar
     . exact hb b h
def XZ (s : List UInt8) : Option (Int × Int × Int × Int) :=
 if s.getLast? = some 105 then
  if Yv s.dropLast <= 0 then (J5 s.dropLast).map fun p => (0, 1, p.1, p.2)
  else match Yf (s.dropLast.take (Yv s.dropLast).toNat) with
   | none => none
   | some p => if p.1 = 0 then none else
    let rest := s.dropLast.drop (Yv s.dropLast).toNat
    match J5 (if rest.head? = some 43 then rest.tail else rest) with
    | none => none
    | some q => if (rest.head? = some 43 ↔ 0 < q.1) then some (p.1, p.2, q.1, q.2) else none
 else (Yf s).map fun p => (p.1, p.2, 0, 1)
def XJ (s : List UInt8) : Option (Int × Int × Int × Int) :=
 if s.getLast? = some 105 then
  if Yv s <= 0 then (Kl s.dropLast).map fun p => (0, 1, p.1, p.2)
  else match Yf (s.take (Yv s).toNat) with
   | none => none
   | some p =>
    let rest := s.drop (Yv s).toNat
    let rest := if rest.head? = some 43 then rest.tail else rest
    (Kl rest.dropLast).map fun q => (p.1, p.2, q.1, q.2)
 else (Yf s).map fun p => (p.1, p.2, 0, 1)

def Kq (n d : Int) : List UInt8 := if Zk n d = [49] then [] else if Zk n d = [45, 49] then [45] else Zk n d
theorem secT_cut (n d : Int) : secT n d = Kq n d ++ [105] := by
 unfold secT Kq
 split
 . rfl
 . split <;> rfl
theorem text_one : Zk 1 1 = [49] := (Xm (s := [49]) (n := 1) (d := 1) (by decide)).1
theorem text_minus : Zk (-1) 1 = [45, 49] := (Xm (s := [45, 49]) (n := -1) (d := 1) (by decide)).1
theorem cut_one : Kq 1 1 = [] := if_pos text_one
theorem cut_minus : Kq (-1) 1 = [45] := by unfold Kq; rw [text_minus]; rfl
theorem fracText_one {n d : Int} (hd : 0 < d) (hg : ZL n d = 1) (h : Zk n d = [49]) : n = 1 /\ d = 1 := by
 have h1 := YM hd hg
 have h2 : Yf (Zk 1 1) = some (1, 1) := YM (by decide) (by decide)
 rw [text_one, <- h, h1] at h2
 injection h2 with e
 injection e with e1 e2
 exact ⟨e1, e2⟩
theorem JK {n d : Int} (hd : 0 < d) (hg : ZL n d = 1) (h : Zk n d = [45, 49]) : n = -1 /\ d = 1 := by
 have h1 := YM hd hg
 have h2 : Yf (Zk (-1) 1) = some (-1, 1) := YM (by decide) (by decide)
 rw [text_minus, <- h, h1] at h2
 injection h2 with e
 injection e with e1 e2
 exact ⟨e1, e2⟩
theorem Jq {n d : Int} (hd : 0 < d) (hg : ZL n d = 1) : Zk n d ≠ [] /\ Zk n d ≠ [45] := by
 have h := YM hd hg
 constructor
 . intro e
   rw [e, show Yf [] = none from rfl] at h
   cases h
 . intro e
   rw [e, show Yf [45] = none from rfl] at h
   cases h
theorem coef_cut {n d : Int} (hd : 0 < d) (hg : ZL n d = 1) (hn : n ≠ 0) : J5 (Kq n d) = some (n, d) := by
 unfold J5 Kq
 obtain ⟨h1, h2⟩ := Jq hd hg
 split
 . rename_i h
   obtain ⟨rfl, rfl⟩ := fracText_one hd hg h
   rfl
 . rename_i ha
   split
   . rename_i h
     obtain ⟨rfl, rfl⟩ := JK hd hg h
     rfl
   . rename_i hb
     try rw [if_neg h1, if_neg h2]
     rw [YM hd hg]
     exact if_pos ⟨hn, ha, hb⟩
theorem imag_cut {n d : Int} (hd : 0 < d) (hg : ZL n d = 1) : Kl (Kq n d) = some (n, d) := by
 unfold Kl Kq
 obtain ⟨h1, h2⟩ := Jq hd hg
 split
 . rename_i h
   obtain ⟨rfl, rfl⟩ := fracText_one hd hg h
   rfl
 . rename_i ha
   split
   . rename_i h
     obtain ⟨rfl, rfl⟩ := JK hd hg h
     rfl
   . try rw [if_neg h1, if_neg h2]
     exact YM hd hg
theorem cut_coef {s : List UInt8} {n d : Int} (h : J5 s = some (n, d)) : Kq n d = s /\ 0 < d /\ ZL n d = 1 /\ n ≠ 0 := by
 unfold J5 at h
 split at h
 . rename_i e
   injection h with h
   injection h with h1 h2
   subst h1 h2 e
   exact ⟨cut_one, by decide⟩
 . split at h
   . rename_i e
     injection h with h
     injection h with h1 h2
     subst h1 h2 e
     exact ⟨cut_minus, by decide⟩
   . split at h
     . cases h
     . rename_i p hp
       split at h
       . rename_i hq
         injection h with h
         subst h
         obtain ⟨h1, h2, h3⟩ := Xm hp
         refine ⟨?_, h2, h3, hq.1⟩
         unfold Kq
         rw [h1, if_neg hq.2.1, if_neg hq.2.2]
       . cases h
theorem imag_low {s : List UInt8} {n d : Int} (h : Kl s = some (n, d)) : 0 < d /\ ZL n d = 1 := by
 unfold Kl at h
 split at h
 . injection h with h
   injection h with h1 h2
   subst h1 h2
   decide
 . split at h
   . injection h with h
     injection h with h1 h2
     subst h1 h2
     decide
   . exact (Xm h).2
theorem pmAt_snoc : ∀ (l : List UInt8), Yv (l ++ [105]) = Yv l
 | [] => rfl
 | x :: r => by rw [List.cons_append, XP, XP, pmAt_snoc r]
theorem pmAt_lt : ∀ (l : List UInt8), Yv l < l.length
 | [] => by decide
 | x :: r => by
  have := pmAt_lt r
  rw [XP, List.length_cons]
  split
  . omega
  . split <;> omega
theorem text_no_i {n d : Int} (hd : 0 < d) : (105 : UInt8) ∉ Zk n d := fun h => by
 obtain ⟨x, t, e, h1, h2, h3⟩ := Jk (n := n) hd
 rw [e] at h
 rcases List.mem_cons.1 h with h | h
 . by_cases hn : n < 0
   . rw [h2 hn] at h
     exact absurd h (by decide)
   . exact (h3 (by omega)).2 h.symm
 . exact (h1 _ h).2 rfl
theorem last_no_i {n d : Int} (hd : 0 < d) : ¬ (Zk n d).getLast? = some 105 := fun h => text_no_i (n := n) hd (List.mem_of_getLast? h)
theorem pmAt_text {n d : Int} (hd : 0 < d) : Yv (Zk n d) <= 0 := by
 obtain ⟨x, t, e, h1, h2, h3⟩ := Jk (n := n) hd
 rw [e, XP, pmAt_none fun b hb => (h1 b hb).1, if_neg (by decide)]
 split <;> decide
theorem pmAt_cut {n d : Int} (hd : 0 < d) : Yv (Kq n d) <= 0 := by
 unfold Kq
 split
 . decide
 . split
   . decide
   . exact pmAt_text hd
def bodyT (m e : Int) : List UInt8 := if 0 < m then 43 :: Kq m e else Kq m e
theorem gaussT_both {n d m e : Int} (hn : n ≠ 0) (hm : m ≠ 0) : XA n d m e = Zk n d ++ bodyT m e ++ [105] := by
 unfold XA bodyT
 rw [if_neg hm, if_neg hn, secT_cut, List.append_assoc]
 split <;> rfl
theorem cut_form {m e : Int} (he : 0 < e) (hg : ZL m e = 1) : (m < 0 -> ∃ t, Kq m e = 45 :: t /\ ∀ b ∈ t, pm b = false) /\ (0 < m -> ∀ b ∈ Kq m e, pm b = false) := by
 obtain ⟨x, t, h0, h1, h2, h3⟩ := Jk (n := m) he
 unfold Kq
 constructor
 . intro hm
   rw [if_neg (fun h => by have := (fracText_one he hg h).1; omega)]
   split
   . exact ⟨[], rfl, fun b hb => by cases hb⟩
   . exact ⟨t, by rw [h0, h2 hm], fun b hb => (h1 b hb).1⟩
 . intro hm
   split
   . intro b hb; cases hb
   . rw [if_neg (fun h => by have := (JK he hg h).1; omega), h0]
     intro b hb
     rcases List.mem_cons.1 hb with h | h
     . rw [h]; exact (h3 (by omega)).1
     . exact (h1 b h).1
theorem body_form {m e : Int} (he : 0 < e) (hg : ZL m e = 1) (hm : m ≠ 0) : ∃ x t, bodyT m e = x :: t /\ pm x = true /\ (∀ b ∈ t, pm b = false) /\ (x = 43 ↔ 0 < m) /\ (if x = 43 then t else x :: t) = Kq m e := by
 obtain ⟨h1, h2⟩ := cut_form (m := m) he hg
 unfold bodyT
 by_cases h : 0 < m
 . rw [if_pos h]
   exact ⟨43, _, rfl, by decide, h2 h, by simp [h], if_pos rfl⟩
 . obtain ⟨t, e1, e2⟩ := h1 (by omega)
   rw [if_neg h, e1]
   exact ⟨45, t, rfl, by decide, e2, by simp [h], if_neg (by decide)⟩
theorem low_nought {e : Int} (he : 0 < e) (hg : ZL 0 e = 1) : e = 1 := by
 have := Jk (n := 0) he
 unfold ZL at hg
 simp at hg
 omega
theorem parse_text {n d m e : Int} (hd : 0 < d) (hg : ZL n d = 1) (he : 0 < e) (hk : ZL m e = 1) : XZ (XA n d m e) = some (n, d, m, e) := by
 by_cases hm : m = 0
 . subst hm
   obtain rfl := low_nought he hk
   unfold XA XZ
   rw [if_pos rfl, if_neg (last_no_i hd), YM hd hg]
   rfl
 . by_cases hn : n = 0
   . subst hn
     obtain rfl := low_nought hd hg
     unfold XA XZ
     rw [if_neg hm, if_pos rfl, secT_cut, if_pos (by simp), List.dropLast_concat, if_pos (pmAt_cut he), coef_cut he hk hm]
     rfl
   . rw [gaussT_both hn hm]
     obtain ⟨x, t, e1, e2, e3, e4, e5⟩ := body_form he hk hm
     obtain ⟨h1, h2⟩ := Jq hd hg
     have hl : 0 < (Zk n d).length := List.length_pos_iff.2 h1
     unfold XZ
     rw [if_pos (by simp), List.dropLast_concat, e1, pmAt_here e2 e3, if_neg (by omega)]
     simp only [e4] at e5
     simp only [Int.toNat_natCast, List.take_left, List.drop_left, YM hd hg, if_neg hn, List.head?_cons, List.tail_cons, Option.some.injEq, e5, coef_cut he hk hm, e4, if_true]
theorem read_text {n d m e : Int} (hd : 0 < d) (hg : ZL n d = 1) (he : 0 < e) (hk : ZL m e = 1) : XJ (XA n d m e) = some (n, d, m, e) := by
 by_cases hm : m = 0
 . subst hm
   obtain rfl := low_nought he hk
   unfold XA XJ
   rw [if_pos rfl, if_neg (last_no_i hd), YM hd hg]
   rfl
 . by_cases hn : n = 0
   . subst hn
     obtain rfl := low_nought hd hg
     unfold XA XJ
     rw [if_neg hm, if_pos rfl, secT_cut, if_pos (by simp), List.dropLast_concat, pmAt_snoc, if_pos (pmAt_cut he), imag_cut he hk]
     rfl
   . rw [gaussT_both hn hm]
     obtain ⟨x, t, e1, e2, e3, e4, e5⟩ := body_form he hk hm
     obtain ⟨h1, h2⟩ := Jq hd hg
     have hl : 0 < (Zk n d).length := List.length_pos_iff.2 h1
     unfold XJ
     rw [if_pos (by simp), pmAt_snoc, e1, pmAt_here e2 e3, if_neg (by omega), List.append_assoc]
     simp only [Int.toNat_natCast, List.take_left, List.drop_left, YM hd hg, List.cons_append, List.head?_cons, List.tail_cons, Option.some.injEq]
     have e6 : (if x = 43 then t ++ [105] else x :: (t ++ [105])) = Kq m e ++ [105] := by
      rw [<- e5]
      split <;> rfl
     rw [e6, List.dropLast_concat, imag_cut he hk]
     rfl
theorem text_parse {s : List UInt8} {n d m e : Int} (h : XZ s = some (n, d, m, e)) : XA n d m e = s /\ 0 < d /\ ZL n d = 1 /\ 0 < e /\ ZL m e = 1 := by
 unfold XZ at h
 split at h
 . rename_i hl
   have es : s.dropLast ++ [105] = s := by
     obtain ⟨l, rfl⟩ := List.getLast?_eq_some_iff.1 hl
     rw [List.dropLast_concat]
   obtain ⟨f, hf⟩ : ∃ f, f = s.dropLast := ⟨_, rfl⟩
   rw [<- hf] at h es
   clear hf hl
   subst es
   split at h
   . obtain ⟨p, hp, e1⟩ := Option.map_eq_some_iff.1 h
     injection e1 with a1 e1; injection e1 with a2 e1; injection e1 with a3 a4
     subst a1 a2 a3 a4
     obtain ⟨h1, h2, h3, h4⟩ := cut_coef (n := p.1) (d := p.2) hp
     refine ⟨?_, by decide, by decide, h2, h3⟩
     unfold XA
     rw [if_neg h4, if_pos rfl, secT_cut, h1]
   . rename_i hk
     obtain ⟨k, hk2⟩ : ∃ k : Nat, Yv f = k := ⟨(Yv f).toNat, by omega⟩
     rw [hk2, Int.toNat_natCast] at h
     split at h
     . cases h
     . rename_i p hp
       split at h
       . cases h
       . rename_i hn
         dsimp only at h
         split at h
         . cases h
         . rename_i q hq
           split at h
           . rename_i hs
             injection h with e1
             injection e1 with a1 e1; injection e1 with a2 e1; injection e1 with a3 a4
             subst a1 a2 a3 a4
             obtain ⟨b1, b2, b3⟩ := Xm (n := p.1) (d := p.2) hp
             obtain ⟨h1, h2, h3, h4⟩ := cut_coef (n := q.1) (d := q.2) hq
             refine ⟨?_, b2, b3, h2, h3⟩
             rw [gaussT_both hn h4, b1]
             have hb : bodyT q.1 q.2 = f.drop k := by
              unfold bodyT
              rw [h1]
              by_cases hq0 : 0 < q.1
              . rw [if_pos hq0, if_pos (hs.2 hq0)]
                have h43 := hs.2 hq0
                cases hr : f.drop k with
                | nil => rw [hr] at h43; cases h43
                | cons y r => rw [hr] at h43; injection h43 with h43; rw [h43]; rfl
              . rw [if_neg hq0, if_neg fun h => hq0 (hs.1 h)]
             rw [hb, List.take_append_drop]
           . cases h
 . obtain ⟨p, hp, e1⟩ := Option.map_eq_some_iff.1 h
   injection e1 with a1 e1; injection e1 with a2 e1; injection e1 with a3 a4
   subst a1 a2 a3 a4
   obtain ⟨b1, b2, b3⟩ := Xm (n := p.1) (d := p.2) hp
   exact ⟨by unfold XA; rw [if_pos rfl, b1], b2, b3, by decide, by decide⟩
theorem read_low {s : List UInt8} {n d m e : Int} (h : XJ s = some (n, d, m, e)) : 0 < d /\ ZL n d = 1 /\ 0 < e /\ ZL m e = 1 := by
 unfold XJ at h
 split at h
 . split at h
   . obtain ⟨p, hp, e1⟩ := Option.map_eq_some_iff.1 h
     injection e1 with a1 e1; injection e1 with a2 e1; injection e1 with a3 a4
     subst a1 a2 a3 a4
     exact ⟨by decide, by decide, imag_low (n := p.1) (d := p.2) hp⟩
   . split at h
     . cases h
     . rename_i p hp
       obtain ⟨q, hq, e1⟩ := Option.map_eq_some_iff.1 h
       injection e1 with a1 e1; injection e1 with a2 e1; injection e1 with a3 a4
       subst a1 a2 a3 a4
       have := Xm (n := p.1) (d := p.2) hp
       exact ⟨this.2.1, this.2.2, imag_low (n := q.1) (d := q.2) hq⟩
 . obtain ⟨p, hp, e1⟩ := Option.map_eq_some_iff.1 h
   injection e1 with a1 e1; injection e1 with a2 e1; injection e1 with a3 a4
   subst a1 a2 a3 a4
   have := Xm (n := p.1) (d := p.2) hp
   exact ⟨this.2.1, this.2.2, by decide, by decide⟩
theorem parse_iff {s : List UInt8} {n d m e : Int} : XZ s = some (n, d, m, e) ↔ XJ s = some (n, d, m, e) /\ XA n d m e = s := by
 constructor
 . intro h
   obtain ⟨h1, h2, h3, h4, h5⟩ := text_parse h
   have := read_text h2 h3 h4 h5
   rw [h1] at this
   exact ⟨this, h1⟩
 . rintro ⟨h, h1⟩
   obtain ⟨h2, h3, h4, h5⟩ := read_low h
   rw [<- h1]
   exact parse_text h2 h3 h4 h5

theorem ref03_Digits_A {n d m f s1 : Int} {t1 u : ByteArray} (C1 : XE 111 m f s1) (C3 : Jh 112 n d t1) (z1 : (s1 == 0) = true) (hu : u = t1) (w : World) (v_x : Value) (g_x : Zq w v_x n d m f) (htab : ZM w) :
  Calls Tryz.prog 32 #[v_x] w (fun e w' => e = .returned (.string u) /\ Below w.heap.size w w') := by
 obtain ⟨Ax1, cx1, Ax2, cx2, Ax3, cx3, Ax4, cx4, rfl, -⟩ := g_x.form
 have HT := Hd htab
 clear htab
 have HU := Hd hu
 clear hu
 have H1 := Hd C1
 have H3 := Hd C3
 clear C1 C3
 have G_x := Hd g_x
 clear g_x
 go_enter Tryz.func32, Tryz.ntmps32
 go_upto_region 1 with fail
 refine Zp (P := fun W => Code.wp _ _ _ _ W) fun W p0 b0 => ?_
 have P_x := Hd (Yl.mk p0)
 have HB := Hd b0
 clear b0 p0
 obtain ⟨-, x0, x1, x2, x3, x4, x5, x6, x7⟩ := P_x.out.facts
 go_wp2_with fail
 refine (H1.out W _ (G_x.out.below HB.out).im).mono ?_
 rintro e wx1 ⟨rfl, hb⟩
 clear x0 x1 x2 x3 x4 x5 x6 x7
 have P_x := Hd (P_x.out.below hb)
 have HB := Hd (Zb HB.out hb)
 clear hb
 obtain ⟨-, x0, x1, x2, x3, x4, x5, x6, x7⟩ := P_x.out.facts
 go_wp2_with fail
 refine (H3.out wx1 _ (HT.out.below2 HB.out) (G_x.out.below HB.out).re).mono ?_
 rintro e wx2 ⟨rfl, hb⟩
 clear x0 x1 x2 x3 x4 x5 x6 x7
 have P_x := Hd (P_x.out.below hb)
 have HB := Hd (Zb HB.out hb)
 clear hb
 go_wp2_with fail
 go_ret
 exact ⟨by rw [HU.out]; rfl, HB.out⟩

theorem ref03_Digits_C {n d m f s0 s1 : Int} {t2 u : ByteArray} (C1 : XE 111 m f s1) (C2 : XE 111 n d s0) (C4 : Jh 113 m f t2) (z1 : (s1 == 0) = false) (z0 : (s0 == 0) = true) (hu : u = t2) (w : World) (v_x : Value) (g_x : Zq w v_x n d m f) (htab : ZM w) :
  Calls Tryz.prog 32 #[v_x] w (fun e w' => e = .returned (.string u) /\ Below w.heap.size w w') := by
 obtain ⟨Ax1, cx1, Ax2, cx2, Ax3, cx3, Ax4, cx4, rfl, -⟩ := g_x.form
 have HT := Hd htab
 clear htab
 have HU := Hd hu
 clear hu
 have H1 := Hd C1
 have H2 := Hd C2
 have H4 := Hd C4
 clear C1 C2 C4
 have G_x := Hd g_x
 clear g_x
 go_enter Tryz.func32, Tryz.ntmps32
 go_upto_region 1 with fail
 refine Zp (P := fun W => Code.wp _ _ _ _ W) fun W p0 b0 => ?_
 have P_x := Hd (Yl.mk p0)
 have HB := Hd b0
 clear b0 p0
 obtain ⟨-, x0, x1, x2, x3, x4, x5, x6, x7⟩ := P_x.out.facts
 go_wp2_with fail
 refine (H1.out W _ (G_x.out.below HB.out).im).mono ?_
 rintro e wx1 ⟨rfl, hb⟩
 clear x0 x1 x2 x3 x4 x5 x6 x7
 have P_x := Hd (P_x.out.below hb)
 have HB := Hd (Zb HB.out hb)
 clear hb
 obtain ⟨-, x0, x1, x2, x3, x4, x5, x6, x7⟩ := P_x.out.facts
 go_wp2_with fail
 refine (H2.out wx1 _ (G_x.out.below HB.out).re).mono ?_
 rintro e wx2 ⟨rfl, hb⟩
 clear x0 x1 x2 x3 x4 x5 x6 x7
 have P_x := Hd (P_x.out.below hb)
 have HB := Hd (Zb HB.out hb)
 clear hb
 obtain ⟨-, x0, x1, x2, x3, x4, x5, x6, x7⟩ := P_x.out.facts
 go_wp2_with fail
 refine (H4.out wx2 _ (HT.out.below2 HB.out) (G_x.out.below HB.out).im).mono ?_
 rintro e wx3 ⟨rfl, hb⟩
 clear x0 x1 x2 x3 x4 x5 x6 x7
 have P_x := Hd (P_x.out.below hb)
 have HB := Hd (Zb HB.out hb)
 clear hb
 go_wp2_with fail
 go_ret
 exact ⟨by rw [HU.out]; rfl, HB.out⟩

theorem ref03_Digits_Bp {n d m f s0 s1 : Int} {t1 t2 u : ByteArray} (C1 : XE 111 m f s1) (C2 : XE 111 n d s0) (C3 : Jh 112 n d t1) (C4 : Jh 113 m f t2) (z1 : (s1 == 0) = false) (z0 : (s0 == 0) = false) (z2 : 0 < s1) (hu : u = t1 ++ ⟨#[43]⟩ ++ t2) (q1 : t1.size <= 1000000) (q2 : t2.size <= 1000000) (w : World) (v_x : Value) (g_x : Zq w v_x n d m f) (htab : ZM w) :
  Calls Tryz.prog 32 #[v_x] w (fun e w' => e = .returned (.string u) /\ Below w.heap.size w w') := by
 obtain ⟨Ax1, cx1, Ax2, cx2, Ax3, cx3, Ax4, cx4, rfl, -⟩ := g_x.form
 have HT := Hd htab
 clear htab
 have HU := Hd hu
 clear hu
 have w1 : ¬ 9223372036854775807 < t1.size + 1 := by omega
 have w2 : ¬ 9223372036854775807 < t1.size + 1 + t2.size := by omega
 clear q1 q2
 have H1 := Hd C1
 have H2 := Hd C2
 have H3 := Hd C3
 have H4 := Hd C4
 clear C1 C2 C3 C4
 have G_x := Hd g_x
 clear g_x
 go_enter Tryz.func32, Tryz.ntmps32
 go_upto_region 1 with fail
 refine Zp (P := fun W => Code.wp _ _ _ _ W) fun W p0 b0 => ?_
 have P_x := Hd (Yl.mk p0)
 have HB := Hd b0
 clear b0 p0
 obtain ⟨-, x0, x1, x2, x3, x4, x5, x6, x7⟩ := P_x.out.facts
 go_wp2_with fail
 refine (H1.out W _ (G_x.out.below HB.out).im).mono ?_
 rintro e wx1 ⟨rfl, hb⟩
 clear x0 x1 x2 x3 x4 x5 x6 x7
 have P_x := Hd (P_x.out.below hb)
 have HB := Hd (Zb HB.out hb)
 clear hb
 obtain ⟨-, x0, x1, x2, x3, x4, x5, x6, x7⟩ := P_x.out.facts
 go_wp2_with fail
 refine (H2.out wx1 _ (G_x.out.below HB.out).re).mono ?_
 rintro e wx2 ⟨rfl, hb⟩
 clear x0 x1 x2 x3 x4 x5 x6 x7
 have P_x := Hd (P_x.out.below hb)
 have HB := Hd (Zb HB.out hb)
 clear hb
 obtain ⟨-, x0, x1, x2, x3, x4, x5, x6, x7⟩ := P_x.out.facts
 go_wp2_with fail
 refine (H3.out wx2 _ (HT.out.below2 HB.out) (G_x.out.below HB.out).re).mono ?_
 rintro e wx3 ⟨rfl, hb⟩
 clear x0 x1 x2 x3 x4 x5 x6 x7
 have P_x := Hd (P_x.out.below hb)
 have HB := Hd (Zb HB.out hb)
 clear hb
 obtain ⟨-, x0, x1, x2, x3, x4, x5, x6, x7⟩ := P_x.out.facts
 go_wp2_with fail
 refine (H1.out wx3 _ (G_x.out.below HB.out).im).mono ?_
 rintro e wx4 ⟨rfl, hb⟩
 clear x0 x1 x2 x3 x4 x5 x6 x7
 have P_x := Hd (P_x.out.below hb)
 have HB := Hd (Zb HB.out hb)
 clear hb
 obtain ⟨-, x0, x1, x2, x3, x4, x5, x6, x7⟩ := P_x.out.facts
 go_wp2_with fail
 refine (H4.out wx4 _ (HT.out.below2 HB.out) (G_x.out.below HB.out).im).mono ?_
 rintro e wx5 ⟨rfl, hb⟩
 clear x0 x1 x2 x3 x4 x5 x6 x7
 have P_x := Hd (P_x.out.below hb)
 have HB := Hd (Zb HB.out hb)
 clear hb
 go_wp2_with fail
 go_ret
 exact ⟨by rw [HU.out]; rfl, HB.out⟩

theorem ref03_Digits_Bm {n d m f s0 s1 : Int} {t1 t2 u : ByteArray} (C1 : XE 111 m f s1) (C2 : XE 111 n d s0) (C3 : Jh 112 n d t1) (C4 : Jh 113 m f t2) (z1 : (s1 == 0) = false) (z0 : (s0 == 0) = false) (z2 : s1 <= 0) (hu : u = t1 ++ t2) (q1 : t1.size <= 1000000) (q2 : t2.size <= 1000000) (w : World) (v_x : Value) (g_x : Zq w v_x n d m f) (htab : ZM w) :
  Calls Tryz.prog 32 #[v_x] w (fun e w' => e = .returned (.string u) /\ Below w.heap.size w w') := by
 obtain ⟨Ax1, cx1, Ax2, cx2, Ax3, cx3, Ax4, cx4, rfl, -⟩ := g_x.form
 have HT := Hd htab
 clear htab
 have HU := Hd hu
 clear hu
 have w1 : ¬ 9223372036854775807 < t1.size + t2.size := by omega
 clear q1 q2
 have H1 := Hd C1
 have H2 := Hd C2
 have H3 := Hd C3
 have H4 := Hd C4
 clear C1 C2 C3 C4
 have G_x := Hd g_x
 clear g_x
 go_enter Tryz.func32, Tryz.ntmps32
 go_upto_region 1 with fail
 refine Zp (P := fun W => Code.wp _ _ _ _ W) fun W p0 b0 => ?_
 have P_x := Hd (Yl.mk p0)
 have HB := Hd b0
 clear b0 p0
 obtain ⟨-, x0, x1, x2, x3, x4, x5, x6, x7⟩ := P_x.out.facts
 go_wp2_with fail
 refine (H1.out W _ (G_x.out.below HB.out).im).mono ?_
 rintro e wx1 ⟨rfl, hb⟩
 clear x0 x1 x2 x3 x4 x5 x6 x7
 have P_x := Hd (P_x.out.below hb)
 have HB := Hd (Zb HB.out hb)
 clear hb
 obtain ⟨-, x0, x1, x2, x3, x4, x5, x6, x7⟩ := P_x.out.facts
 go_wp2_with fail
 refine (H2.out wx1 _ (G_x.out.below HB.out).re).mono ?_
 rintro e wx2 ⟨rfl, hb⟩
 clear x0 x1 x2 x3 x4 x5 x6 x7
 have P_x := Hd (P_x.out.below hb)
 have HB := Hd (Zb HB.out hb)
 clear hb
 obtain ⟨-, x0, x1, x2, x3, x4, x5, x6, x7⟩ := P_x.out.facts
 go_wp2_with fail
 refine (H3.out wx2 _ (HT.out.below2 HB.out) (G_x.out.below HB.out).re).mono ?_
 rintro e wx3 ⟨rfl, hb⟩
 clear x0 x1 x2 x3 x4 x5 x6 x7
 have P_x := Hd (P_x.out.below hb)
 have HB := Hd (Zb HB.out hb)
 clear hb
 obtain ⟨-, x0, x1, x2, x3, x4, x5, x6, x7⟩ := P_x.out.facts
 go_wp2_with fail
 refine (H1.out wx3 _ (G_x.out.below HB.out).im).mono ?_
 rintro e wx4 ⟨rfl, hb⟩
 clear x0 x1 x2 x3 x4 x5 x6 x7
 have P_x := Hd (P_x.out.below hb)
 have HB := Hd (Zb HB.out hb)
 clear hb
 obtain ⟨-, x0, x1, x2, x3, x4, x5, x6, x7⟩ := P_x.out.facts
 go_wp2_with fail
 refine (H4.out wx4 _ (HT.out.below2 HB.out) (G_x.out.below HB.out).im).mono ?_
 rintro e wx5 ⟨rfl, hb⟩
 clear x0 x1 x2 x3 x4 x5 x6 x7
 have P_x := Hd (P_x.out.below hb)
 have HB := Hd (Zb HB.out hb)
 clear hb
 go_wp2_with fail
 go_ret
 exact ⟨by rw [HU.out]; rfl, HB.out⟩

theorem gauss_Text_bad {n1 n2 n3 n4 : Bool} {xs ys us vs : List Nat} (C1 : MayG 20 n1 n2 n3 n4 xs ys us vs false) (w : World) (v_x : Value) (g_x : ZR w v_x n1 n2 n3 n4 xs ys us vs)  :
  Calls Tryz.prog 8 #[v_x] w (fun e w' => e = .returned (.tuple #[.string ⟨#[]⟩, .int .i64 1]) /\ Below w.heap.size w w') := by
 obtain ⟨Ax1, cx1, Ax2, cx2, Ax3, cx3, Ax4, cx4, rfl, -⟩ := g_x.form
 have H1 := Hd C1
 clear C1
 have G_x := Hd g_x
 clear g_x
 go_enter Tryz.func8, Tryz.ntmps8
 go_upto_region 1 with fail
 refine Zp (P := fun W => Code.wp _ _ _ _ W) fun W p0 b0 => ?_
 have P_x := Hd (Yl.mk p0)
 have HB := Hd b0
 clear b0 p0
 obtain ⟨-, x0, x1, x2, x3, x4, x5, x6, x7⟩ := P_x.out.facts
 go_wp2_with fail
 refine (H1.out W _ (G_x.out.below HB.out)).mono ?_
 rintro e wx1 ⟨rfl, hb⟩
 clear x0 x1 x2 x3 x4 x5 x6 x7
 have P_x := Hd (P_x.out.below hb)
 have HB := Hd (Zb HB.out hb)
 clear hb
 go_wp2_with fail
 go_ret2
 exact ⟨rfl, HB.out⟩

theorem ref03_Text_bad {n1 n2 n3 n4 : Bool} {xs ys us vs : List Nat} (C1 : MayG 31 n1 n2 n3 n4 xs ys us vs false) (w : World) (v_x : Value) (g_x : ZR w v_x n1 n2 n3 n4 xs ys us vs)  :
  Calls Tryz.prog 10 #[v_x] w (fun e w' => e = .returned (.tuple #[.string ⟨#[]⟩, .int .i64 1]) /\ Below w.heap.size w w') := by
 obtain ⟨Ax1, cx1, Ax2, cx2, Ax3, cx3, Ax4, cx4, rfl, -⟩ := g_x.form
 have H1 := Hd C1
 clear C1
 have G_x := Hd g_x
 clear g_x
 go_enter Tryz.func10, Tryz.ntmps10
 go_upto_region 1 with fail
 refine Zp (P := fun W => Code.wp _ _ _ _ W) fun W p0 b0 => ?_
 have P_x := Hd (Yl.mk p0)
 have HB := Hd b0
 clear b0 p0
 obtain ⟨-, x0, x1, x2, x3, x4, x5, x6, x7⟩ := P_x.out.facts
 go_wp2_with fail
 refine (H1.out W _ (G_x.out.below HB.out)).mono ?_
 rintro e wx1 ⟨rfl, hb⟩
 clear x0 x1 x2 x3 x4 x5 x6 x7
 have P_x := Hd (P_x.out.below hb)
 have HB := Hd (Zb HB.out hb)
 clear hb
 go_wp2_with fail
 go_ret2
 exact ⟨rfl, HB.out⟩

theorem ref03_Text_fits {n d m f : Int} {u : ByteArray} (C1 : MayG 31 (decide (n < 0)) (decide (d < 0)) (decide (m < 0)) (decide (f < 0)) (Za n.natAbs) (Za d.natAbs) (Za m.natAbs) (Za f.natAbs) true) (C2 : ∀ (V : World) (v : Value), ZM V -> Zq V v n d m f -> Calls Tryz.prog 32 #[v] V fun e w' => e = .returned (.string u) /\ Below V.heap.size V w') (hl : u.size <= 65536) (w : World) (v_x : Value) (g_x : Zq w v_x n d m f) (htab : ZM w) :
  Calls Tryz.prog 10 #[v_x] w (fun e w' => e = .returned (.tuple #[.string u, .int .i64 0]) /\ Below w.heap.size w w') := by
 obtain ⟨Ax1, cx1, Ax2, cx2, Ax3, cx3, Ax4, cx4, rfl, -⟩ := g_x.form
 have HT := Hd htab
 clear htab
 have hl2 : (u.size : Int) <= 65536 := by omega
 clear hl
 have H1 := Hd C1
 have H2 := Hd C2
 clear C1 C2
 have G_x := Hd g_x
 clear g_x
 go_enter Tryz.func10, Tryz.ntmps10
 go_upto_region 1 with fail
 refine Zp (P := fun W => Code.wp _ _ _ _ W) fun W p0 b0 => ?_
 have P_x := Hd (Yl.mk p0)
 have HB := Hd b0
 clear b0 p0
 obtain ⟨-, x0, x1, x2, x3, x4, x5, x6, x7⟩ := P_x.out.facts
 go_wp2_with fail
 refine (H1.out W _ (G_x.out.below HB.out).raw).mono ?_
 rintro e wx1 ⟨rfl, hb⟩
 clear x0 x1 x2 x3 x4 x5 x6 x7
 have P_x := Hd (P_x.out.below hb)
 have HB := Hd (Zb HB.out hb)
 clear hb
 obtain ⟨-, x0, x1, x2, x3, x4, x5, x6, x7⟩ := P_x.out.facts
 go_wp2_with fail
 refine (H2.out wx1 _ (HT.out.below2 HB.out) (G_x.out.below HB.out)).mono ?_
 rintro e wx2 ⟨rfl, hb⟩
 clear x0 x1 x2 x3 x4 x5 x6 x7
 have P_x := Hd (P_x.out.below hb)
 have HB := Hd (Zb HB.out hb)
 clear hb
 go_wp2_with fail
 go_ret2
 exact ⟨rfl, HB.out⟩

theorem ref03_Text_long {n d m f : Int} {u : ByteArray} (C1 : MayG 31 (decide (n < 0)) (decide (d < 0)) (decide (m < 0)) (decide (f < 0)) (Za n.natAbs) (Za d.natAbs) (Za m.natAbs) (Za f.natAbs) true) (C2 : ∀ (V : World) (v : Value), ZM V -> Zq V v n d m f -> Calls Tryz.prog 32 #[v] V fun e w' => e = .returned (.string u) /\ Below V.heap.size V w') (hl : 65536 < u.size) (w : World) (v_x : Value) (g_x : Zq w v_x n d m f) (htab : ZM w) :
  Calls Tryz.prog 10 #[v_x] w (fun e w' => e = .returned (.tuple #[.string ⟨#[]⟩, .int .i64 4]) /\ Below w.heap.size w w') := by
 obtain ⟨Ax1, cx1, Ax2, cx2, Ax3, cx3, Ax4, cx4, rfl, -⟩ := g_x.form
 have HT := Hd htab
 clear htab
 have hl2 : 65536 < (u.size : Int) := by omega
 clear hl
 have H1 := Hd C1
 have H2 := Hd C2
 clear C1 C2
 have G_x := Hd g_x
 clear g_x
 go_enter Tryz.func10, Tryz.ntmps10
 go_upto_region 1 with fail
 refine Zp (P := fun W => Code.wp _ _ _ _ W) fun W p0 b0 => ?_
 have P_x := Hd (Yl.mk p0)
 have HB := Hd b0
 clear b0 p0
 obtain ⟨-, x0, x1, x2, x3, x4, x5, x6, x7⟩ := P_x.out.facts
 go_wp2_with fail
 refine (H1.out W _ (G_x.out.below HB.out).raw).mono ?_
 rintro e wx1 ⟨rfl, hb⟩
 clear x0 x1 x2 x3 x4 x5 x6 x7
 have P_x := Hd (P_x.out.below hb)
 have HB := Hd (Zb HB.out hb)
 clear hb
 obtain ⟨-, x0, x1, x2, x3, x4, x5, x6, x7⟩ := P_x.out.facts
 go_wp2_with fail
 refine (H2.out wx1 _ (HT.out.below2 HB.out) (G_x.out.below HB.out)).mono ?_
 rintro e wx2 ⟨rfl, hb⟩
 clear x0 x1 x2 x3 x4 x5 x6 x7
 have P_x := Hd (P_x.out.below hb)
 have HB := Hd (Zb HB.out hb)
 clear hb
 go_wp2_with fail
 go_ret2
 exact ⟨rfl, HB.out⟩

def Jd (n d m f : Int) : ByteArray := ⟨(XA n d m f).toArray⟩
theorem ba_app (a b : List UInt8) : (⟨a.toArray⟩ : ByteArray) ++ ⟨b.toArray⟩ = ⟨(a ++ b).toArray⟩ := by
 apply ByteArray.ext
 rw [ByteArray.data_append]
 simp
theorem Xx (a : List UInt8) : (⟨a.toArray⟩ : ByteArray).size = a.length := by simp [ByteArray.size]
theorem Xy (a : List UInt8) : (⟨a.toArray⟩ : ByteArray).data.toList = a := by simp
theorem dig_i {n d : Int} (hn : lz n <= 1000000) (hd : lz d <= 1000000) : Jh 112 n d ⟨(Zk n d).toArray⟩ := by
 intro V v _ g
 obtain ⟨A, c, B, e0, rfl, h1, h2⟩ := g.form
 exact ref02_Digits n d A B c e0 V h1 h2 hn hd
theorem sec_r {n d : Int} (C : Jh 22 n d ⟨(Zk n d).toArray⟩) (hs : (Zk n d).length <= 900000) : Jh 23 n d ⟨(secT n d).toArray⟩ := by
 intro V v ht g
 unfold secT
 by_cases h1 : Zk n d = [49]
 . rw [if_pos h1]
   rw [h1] at C
   exact gauss_second_one C V v g ht
 . rw [if_neg h1]
   by_cases h2 : Zk n d = [45, 49]
   . rw [if_pos h2]
     rw [h2] at C
     exact gauss_second_minus C V v g ht
   . rw [if_neg h2]
     exact J2 _ _ C (by rw [Xy]; exact h1) (by rw [Xy]; exact h2) (by rw [Xx]; omega) (by rw [show (⟨#[105]⟩ : ByteArray) = ⟨[105].toArray⟩ from rfl, ba_app]) V v g ht
theorem sec_i {n d : Int} (C : Jh 112 n d ⟨(Zk n d).toArray⟩) (hs : (Zk n d).length <= 900000) : Jh 113 n d ⟨(secT n d).toArray⟩ := by
 intro V v ht g
 unfold secT
 by_cases h1 : Zk n d = [49]
 . rw [if_pos h1]
   rw [h1] at C
   exact ref03_second_one C V v g ht
 . rw [if_neg h1]
   by_cases h2 : Zk n d = [45, 49]
   . rw [if_pos h2]
     rw [h2] at C
     exact ref03_second_minus C V v g ht
   . rw [if_neg h2]
     exact ref03_second_more _ _ C (by rw [Xy]; exact h1) (by rw [Xy]; exact h2) (by rw [Xx]; omega) (by rw [show (⟨#[105]⟩ : ByteArray) = ⟨[105].toArray⟩ from rfl, ba_app]) V v g ht

theorem itoa_len {k : Nat} (hk : 0 < k) {x : Int} (h : lz x <= k) : (Lib.itoa x).length <= 32 * k + 1 := by
 have := dec_fit_any k hk (x := x.natAbs) h
 unfold Lib.itoa
 split
 . rw [List.length_cons]
   exact Nat.succ_le_succ (by first | exact this | (rw [show (-x).toNat = x.natAbs by omega]; exact this))
 . rw [show x.toNat = x.natAbs by omega]
   omega
theorem X3 {k : Nat} (hk : 0 < k) {n d : Int} (hn : lz n <= k) (hd : lz d <= k) : (Zk n d).length <= 64 * k + 3 := by
 have h1 := itoa_len hk hn
 have h2 := itoa_len hk hd
 unfold Zk
 split
 . omega
 . rw [List.length_append, List.length_cons]
   omega
theorem secT_len {k : Nat} (hk : 0 < k) {n d : Int} (hn : lz n <= k) (hd : lz d <= k) : (secT n d).length <= 64 * k + 4 := by
 have h1 := X3 hk hn hd
 unfold secT
 split
 . simp
 . split
   . simp
   . rw [List.length_append, List.length_singleton]
     omega
theorem XL (n d : Int) : XE 21 n d n.sign := by
 intro V v1 g1
 obtain ⟨A, c, B, e0, rfl, a1, -⟩ := g1.form
 exact ratio_Sign n n.sign d A B c e0 V a1 rfl
theorem sgn_i0 (n d : Int) : XE 111 n d n.sign := by
 intro V v1 g1
 obtain ⟨A, c, B, e0, rfl, a1, -⟩ := g1.form
 exact ref02_Sign n n.sign d A B c e0 V a1 rfl
theorem sgn_up {n : Int} (h : 0 < n) : 0 < n.sign := by rw [Int.sign_eq_one_of_pos h]; decide
theorem Kg {n : Int} (h : ¬ 0 < n) : n.sign <= 0 := Int.sign_nonpos_iff.2 (by omega)
theorem gdig_i {n d m f : Int} (h1 : lz n <= 7282) (h2 : lz d <= 7282) (h3 : lz m <= 7282) (h4 : lz f <= 7282) (V : World) (v : Value) (ht : ZM V) (g : Zq V v n d m f) :
   Calls Tryz.prog 32 #[v] V fun e w' => e = .returned (.string (Jd n d m f)) /\ Below V.heap.size V w' := by
 have l1 := X3 (k := 7282) (by decide) h1 h2
 have l2 := X3 (k := 7282) (by decide) h3 h4
 have l3 := secT_len (k := 7282) (by decide) h3 h4
 have d1 := dig_i (n := n) (d := d) (by omega) (by omega)
 have d2 := sec_i (dig_i (n := m) (d := f) (by omega) (by omega)) (by omega)
 unfold Jd XA
 by_cases hm : m = 0
 . rw [if_pos hm]
   exact ref03_Digits_A (sgn_i0 m f) d1 (Ys m true (decide_eq_true hm)) rfl V v g ht
 . rw [if_neg hm]
   by_cases hn : n = 0
   . rw [if_pos hn]
     exact ref03_Digits_C (sgn_i0 m f) (sgn_i0 n d) d2 (Ys m false (decide_eq_false hm)) (Ys n true (decide_eq_true hn)) rfl V v g ht
   . rw [if_neg hn]
     by_cases hp : 0 < m
     . rw [if_pos hp]
       exact ref03_Digits_Bp (sgn_i0 m f) (sgn_i0 n d) d1 d2 (Ys m false (decide_eq_false hm)) (Ys n false (decide_eq_false hn)) (sgn_up hp) (by rw [show (⟨#[43]⟩ : ByteArray) = ⟨[43].toArray⟩ from rfl, ba_app, ba_app, List.append_assoc]; rfl) (by rw [Xx]; omega) (by rw [Xx]; omega) V v g ht
     . rw [if_neg hp]
       exact ref03_Digits_Bm (sgn_i0 m f) (sgn_i0 n d) d1 d2 (Ys m false (decide_eq_false hm)) (Ys n false (decide_eq_false hn)) (Kg hp) (by rw [ba_app]) (by rw [Xx]; omega) (by rw [Xx]; omega) V v g ht
theorem gtext_r {n d m f : Int} (f1 : Fine n d) (f2 : Fine m f) (V : World) (v : Value) (ht : ZM V) (g : Zq V v n d m f) :
   Calls Tryz.prog 8 #[v] V fun e w' => e = .returned (.tuple #[.string (txtT true (Jd n d m f)), .int .i64 (txtK true (Jd n d m f))]) /\ Below V.heap.size V w' := by
 have l1 := X3 (k := 2048) (by decide) f1.num f1.den
 have l2 := X3 (k := 2048) (by decide) f2.num f2.den
 have l3 := secT_len (k := 2048) (by decide) f2.num f2.den
 have d1 := dig_r (n := n) (d := d) f1.num f1.den
 have d2 := sec_r (dig_r (n := m) (d := f) f2.num f2.den) (by omega)
 have hM := (GIs.of f1 f2).may
 have hne : ¬ (⟨(Zk n d).toArray⟩ : ByteArray).data.toList = [] := by rw [Xy]; exact (Jq f1.pos f1.low).1
 have e0 : ∀ t : ByteArray, (⟨#[]⟩ : ByteArray) ++ t = t := fun t => by apply ByteArray.ext; rw [ByteArray.data_append]; simp
 obtain ⟨u, hu⟩ : ∃ u, u = Jd n d m f := ⟨_, rfl⟩
 rw [<- hu]
 unfold Jd XA at hu
 have q1 : (⟨(Zk n d).toArray⟩ : ByteArray).size <= 1000000 := by rw [Xx]; omega
 have q2 : (⟨(secT m f).toArray⟩ : ByteArray).size <= 1000000 := by rw [Xx]; omega
 by_cases hm : m = 0
 . rw [if_pos hm] at hu
   have z1 := Ys m true (decide_eq_true hm)
   by_cases hn : n = 0
   . exact gauss_Text_A0 hM (XL n d) (XL m f) (Ys n true (decide_eq_true hn)) z1 (Kg (by omega)) d1 hu V v g ht
   . exact gauss_Text_A hM (XL n d) (XL m f) (Ys n false (decide_eq_false hn)) z1 (Kg (by omega)) d1 hu V v g ht
 . rw [if_neg hm] at hu
   have z1 := Ys m false (decide_eq_false hm)
   by_cases hn : n = 0
   . rw [if_pos hn] at hu
     have z0 := Ys n true (decide_eq_true hn)
     by_cases hp : 0 < m
     . exact gauss_Text_Cp hM (XL n d) (XL m f) z0 z1 (sgn_up hp) d2 (by rw [e0]; exact hu) q2 V v g ht
     . exact gauss_Text_Cm hM (XL n d) (XL m f) z0 z1 (Kg hp) d2 (by rw [e0]; exact hu) q2 V v g ht
   . rw [if_neg hn] at hu
     have z0 := Ys n false (decide_eq_false hn)
     by_cases hp : 0 < m
     . rw [if_pos hp] at hu
       exact gauss_Text_Bp hM (XL n d) (XL m f) z0 z1 (sgn_up hp) d1 d2 (by rw [hu, show (⟨#[43]⟩ : ByteArray) = ⟨[43].toArray⟩ from rfl, ba_app, ba_app, List.append_assoc]; rfl) q1 q2 hne V v g ht
     . rw [if_neg hp] at hu
       exact gauss_Text_Bm hM (XL n d) (XL m f) z0 z1 (Kg hp) d1 d2 (by rw [hu, ba_app]) q1 q2 hne V v g ht
theorem gtext_spec (n1 n2 n3 n4 : Bool) (xs ys us vs : List Nat) (h1 : Zj xs) (h2 : Zj ys) (h3 : Zj us) (h4 : Zj vs) : ∃ (t : ByteArray) (k : Int),
   (∀ (V : World) (v : Value), ZR V v n1 n2 n3 n4 xs ys us vs -> ZM V -> Calls Tryz.prog 8 #[v] V fun e w' => e = .returned (.tuple #[.string t, .int .i64 k]) /\ Below V.heap.size V w') /\
   (∀ (V : World) (v : Value), ZR V v n1 n2 n3 n4 xs ys us vs -> ZM V -> Calls Tryz.prog 10 #[v] V fun e w' => e = .returned (.tuple #[.string t, .int .i64 k]) /\ Below V.heap.size V w') /\
   (k = 0 -> ∃ n d m f, Fine n d /\ Fine m f /\ n1 = decide (n < 0) /\ n2 = decide (d < 0) /\ xs = Za n.natAbs /\ ys = Za d.natAbs /\ n3 = decide (m < 0) /\ n4 = decide (f < 0) /\ us = Za m.natAbs /\ vs = Za f.natAbs /\ t = Jd n d m f /\ t.size <= 65536) := by
 rcases may_cases (n1 := n1) (n2 := n2) (n3 := n3) (n4 := n4) h1 h2 h3 h4 with hc | ⟨n, d, m, f, f1, f2, rfl, rfl, rfl, rfl, rfl, rfl, rfl, rfl⟩
 . have a := may_raw n1 n2 n3 n4 xs ys us vs
   have b := ref03_May n1 n2 n3 n4 xs ys us vs
   rw [hc] at a b
   exact ⟨⟨#[]⟩, 1, fun V v g _ => gauss_Text_bad a V v g, fun V v g _ => ref03_Text_bad b V v g, fun h => by cases h⟩
 . have hR : ∀ (V : World) (v : Value), ZR V v (decide (n < 0)) (decide (d < 0)) (decide (m < 0)) (decide (f < 0)) (Za n.natAbs) (Za d.natAbs) (Za m.natAbs) (Za f.natAbs) -> Zq V v n d m f := fun V v g => ⟨g.form⟩
   have b := ref03_May (decide (n < 0)) (decide (d < 0)) (decide (m < 0)) (decide (f < 0)) (Za n.natAbs) (Za d.natAbs) (Za m.natAbs) (Za f.natAbs)
   rw [may_true f1 f2] at b
   have D := fun (V : World) (v : Value) (ht : ZM V) (g : Zq V v n d m f) => gdig_i (Nat.le_trans f1.num (by decide)) (Nat.le_trans f1.den (by decide)) (Nat.le_trans f2.num (by decide)) (Nat.le_trans f2.den (by decide)) V v ht g
   refine ⟨_, _, fun V v g ht => gtext_r f1 f2 V v ht (hR V v g), fun V v g ht => ?_, fun h => ?_⟩
   . by_cases hl : (Jd n d m f).size <= 65536
     . rw [(XV hl).1, (XV hl).2]
       exact ref03_Text_fits b D hl V v (hR V v g) ht
     . rw [(XU hl).1, (XU hl).2]
       exact ref03_Text_long b D (by omega) V v (hR V v g) ht
   . by_cases hl : (Jd n d m f).size <= 65536
     . rw [(XV hl).1]
       exact ⟨n, d, m, f, f1, f2, rfl, rfl, rfl, rfl, rfl, rfl, rfl, rfl, rfl, hl⟩
     . rw [(XU hl).2] at h
       cases h
end Go.Proofs.YtdonecnhdkjniaaGreatDoor
