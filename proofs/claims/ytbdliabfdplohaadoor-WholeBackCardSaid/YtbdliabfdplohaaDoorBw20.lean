/- Several texts in one: IntFree, KeptAt, WText. -/
import Derived.Test.YtbdliabfdplohaaDoorBw16
import Derived.Test.YtbdliabfdplohaaDoorBw19
import Derived.Test.YtbdliabfdplohaaDoorBw15
import Derived.Test.YtbdliabfdplohaaDoorBw12
import Derived.Test.YtbdliabfdplohaaDoorBwHd
set_option maxRecDepth 100000
set_option maxHeartbeats 8000000
/- Whole numbers in regions that draw their order: what is told of them stays. -/
namespace Go.Proofs.YtbdliabfdplohaaDoor
open Go.RowKit

theorem IntOwn.kept {B : Nat} {Ts : List TypeId} {w w' : World} {base : Nat} {v : Value} {x : Int} (h : IntOwn w base v x) (k : KeptV B Ts w w') (hT : 40 ∉ Ts) : IntOwn w' base v x := by
  obtain ⟨A, c, h1, h2, h3, h4⟩ := h.form
  exact ⟨A, c, h1, h2, h3, k.own h4 hT⟩
theorem OwnN.kept {B : Nat} {Ts : List TypeId} {w w' : World} {base n : Nat} {v : Value} (h : OwnN w base v n) (k : KeptV B Ts w w') (hT : 40 ∉ Ts) : OwnN w' base v n := by
  obtain ⟨A, c, h1, h2, h3, h4⟩ := h.form
  exact ⟨A, c, h1, h2, h3, k.own h4 hT⟩
theorem OwnX.kept {B : Nat} {Ts : List TypeId} {w w' : World} {base : Nat} {v : Value} {zs : List Nat} (h : OwnX w base v zs) (k : KeptV B Ts w w') (hT : 40 ∉ Ts) : OwnX w' base v zs := by
  obtain ⟨A, c, h1, h2, h3, h4⟩ := h.form
  exact ⟨h.limbs, A, c, h1, h2, h3, k.own h4 hT⟩
theorem OwnX.raw {w : World} {base c : Nat} {A : Option Addr} {zs : List Nat} (h : OwnX w base (.slice A zs.length c) zs) : Raw w A c zs := by
  obtain ⟨A', c', h1, h2, h3, h4⟩ := h.form
  injection h1 with a1 a2 a3
  subst a1 a3
  exact ⟨h.limbs, h2, h3, Reads.of_own h4⟩
theorem IntOwn.cells {w : World} {base : Nat} {v : Value} {x : Int} (h : IntOwn w base v x) : CellsN v 2 := by
  obtain ⟨A, c, rfl, -⟩ := h.form
  exact ⟨rfl, by simp [Value.cells, Value.oneCell']⟩
def blkInt (v : Value) (g : Nat) : Prop := blkOf v = some g
def RetBoth (base : Nat) (w : World) (z1 z2 : Int) (e : Ending) (w' : World) : Prop := ∃ v1 v2, e = .returned (.tuple #[v1, v2]) ∧ IntOwn w' base v1 z1 ∧ IntOwn w' base v2 z2 ∧ Below w.heap.size w w'
theorem OwnN.int {w : World} {base n c : Nat} {A : Option Addr} (h : OwnN w base (.slice A (natL n).length c) n) : IntOwn w base (.agg #[.bool false, .slice A (natL n).length c]) (n : Int) := by
  obtain ⟨A', c', h1, h2, h3, h4⟩ := h.form
  injection h1 with a1 a2 a3
  subst a1 a3
  have e : decide ((n : Int) < 0) = false := by simp
  exact ⟨A, c, by rw [e]; rfl, h2, h3, h4⟩
theorem Pair.size {w : World} {g : Nat} {t : TypeId} {a b : Value} (h : Pair w g t a b) : g < w.heap.size := h.blk.lt
theorem IntOwn.shape {w : World} {base : Nat} {v : Value} {x : Int} (h : IntOwn w base v x) : ∃ b A k c, v = .agg #[.bool b, .slice A k c] := by
  obtain ⟨A, c, h1, -⟩ := h.form
  exact ⟨_, _, _, _, h1⟩
theorem OwnN.pair {w : World} {base n g : Nat} {v a b : Value} (h : OwnN w base v n) (p : Pair w g 24 a b) (x y : Value) : OwnN ((w.setCell ⟨g, 0, none⟩ x).setCell ⟨g, 1, none⟩ y) base v n := by
  obtain ⟨A, c, h1, h2, h3, h4⟩ := h.form
  exact ⟨A, c, h1, h2, h3, own_pair h4 (own_blk_ne h4 p.blk (by decide))⟩
/- Numbers at hand where memory only grows; stores that change nothing. -/

theorem KeptV.cells {B : Nat} {w w' : World} (k : KeptV B [] w w') : ∀ p : Addr, p.block < w.heap.size → w'.cell? p = w.cell? p := fun p hp => by
  rcases k.block p.block hp with e | ⟨-, T, hT, -⟩
  · unfold World.cell?; rw [e]
  · cases hT
theorem IntAt.keptNone {B : Nat} {w w' : World} {v : Value} {x : Int} (h : IntAt w v x) (k : KeptV B [] w w') : IntAt w' v x := by
  obtain ⟨A, c, h1, h2⟩ := h.form
  exact ⟨A, c, h1, h2.limbs, h2.cap, h2.most, (h2.reads.keep k.cells).more k.size⟩

theorem IntOwn.rawAt {w : World} {base c : Nat} {A : Option Addr} {x : Int} (h : IntOwn w base (.agg #[.bool (decide (x < 0)), .slice A (natL x.natAbs).length c]) x) : Raw w A c (natL x.natAbs) := by
  obtain ⟨A', c', h1, h2⟩ := h.raw
  injection h1 with h1
  simp at h1
  obtain ⟨rfl, rfl⟩ := h1
  exact h2
/- Text and Parse of package whole and of the references. (Written by wip/whole/gentexts.py.) -/

theorem powTab.below3 {w w' : World} (h : powTab w) (hb : Below w.heap.size w w') : powTab w' := Lib.tabBelow_of_tabIs h w' hb
def txtL (n1 : Bool) (xs : List Nat) : List UInt8 := if okI n1 xs then Lib.itoa (ival n1 xs) else []
def prsV (s : List UInt8) : Int := if 65536 < s.length then 0 else match readZ s with
  | none => 0
  | some z => toldV z
def prsE (s : List UInt8) : Int := if 65536 < s.length then 4 else match readZ s with
  | none => 5
  | some z => toldE z

theorem whole_Text_good (n1 : Bool) (A : Option Addr) (c : Nat) (xs : List Nat) (w : World) (h_x : Raw w A c xs) (htab : powTab w) (ho : okI n1 xs = true) :
    Calls Tryd.prog 8 #[.agg #[.bool n1, .slice A xs.length c]] w fun e w' => e = .returned (.tuple #[.string ⟨(txtL n1 xs).toArray⟩, .int .i64 0]) ∧ Below w.heap.size w w' := by
  have C1 := fun (V : World) (a : Raw V A c xs) => exact_Check_any n1 A c xs V a
  unfold errI at C1
  rw [ho] at C1
  have H1 := Hd C1
  have hok := okI_true.1 ho
  have C2 := fun (V : World) (a : Raw V A c xs) (t : powTab V) => exact_Digits n1 A c xs hok.2.1 (by omega) V a t
  obtain ⟨T, hT⟩ : ∃ T : ByteArray, T = ⟨(Lib.itoa (ival n1 xs)).toArray⟩ := ⟨_, rfl⟩
  rw [← hT] at C2
  have H2 := Hd C2
  have HTX := Hd (show (⟨(txtL n1 xs).toArray⟩ : ByteArray) = T by rw [hT]; unfold txtL; rw [ho]; rfl)
  clear C1 C2 hT ho
  have HTAB := Hd htab
  clear htab
  have b0 := ((Below.refl w.heap.size w).alloc (Nat.le_refl _) (.cells #[.bool n1, .slice A xs.length c] 24))
  have p0 := Pair.new w 24 (.bool n1) (.slice A xs.length c)
  have V_x := Hd (NR.of h_x b0 p0)
  have RW_x := Hd h_x
  have HBW := Hd b0
  clear b0 p0 h_x
  go_enter Tryd.func8, Tryd.ntmps8
  obtain ⟨W, E⟩ : ∃ W, W = (w.alloc (.cells #[.bool n1, .slice A xs.length c] 24)) := ⟨_, rfl⟩
  go_upto_region 1 with fail
  rw [← E] at V_x HBW ⊢
  clear E
  obtain ⟨l_x, a_x, b_x, -, -⟩ := V_x.out.pair.facts
  go_wp2_with fail
  refine (H1.out W V_x.out.raw).mono ?_
  rintro e x1 ⟨rfl, hb⟩
  clear l_x a_x b_x
  have V_x := Hd (V_x.out.below hb)
  have HBW := Hd (belowTo HBW.out hb)
  clear hb
  obtain ⟨l_x, a_x, b_x, -, -⟩ := V_x.out.pair.facts
  go_wp2_with fail
  refine (H2.out x1 V_x.out.raw (HTAB.out.below3 HBW.out)).mono ?_
  rintro e x2 ⟨rfl, hb⟩
  clear l_x a_x b_x
  have V_x := Hd (V_x.out.below hb)
  have HBW := Hd (belowTo HBW.out hb)
  clear hb
  go_wp2_with fail
  go_ret2
  exact ⟨by rw [HTX.out]; rfl, HBW.out⟩

theorem whole_Text_bad (n1 : Bool) (A : Option Addr) (c : Nat) (xs : List Nat) (w : World) (h_x : Raw w A c xs) (htab : powTab w) (ho : okI n1 xs = false) :
    Calls Tryd.prog 8 #[.agg #[.bool n1, .slice A xs.length c]] w fun e w' => e = .returned (.tuple #[.string ⟨(txtL n1 xs).toArray⟩, .int .i64 1]) ∧ Below w.heap.size w w' := by
  have C1 := fun (V : World) (a : Raw V A c xs) => exact_Check_any n1 A c xs V a
  unfold errI at C1
  rw [ho] at C1
  have H1 := Hd C1
  have HTX := Hd (show (⟨(txtL n1 xs).toArray⟩ : ByteArray) = ⟨#[]⟩ by unfold txtL; rw [ho]; rfl)
  clear C1 ho
  have HTAB := Hd htab
  clear htab
  have b0 := ((Below.refl w.heap.size w).alloc (Nat.le_refl _) (.cells #[.bool n1, .slice A xs.length c] 24))
  have p0 := Pair.new w 24 (.bool n1) (.slice A xs.length c)
  have V_x := Hd (NR.of h_x b0 p0)
  have RW_x := Hd h_x
  have HBW := Hd b0
  clear b0 p0 h_x
  go_enter Tryd.func8, Tryd.ntmps8
  obtain ⟨W, E⟩ : ∃ W, W = (w.alloc (.cells #[.bool n1, .slice A xs.length c] 24)) := ⟨_, rfl⟩
  go_upto_region 1 with fail
  rw [← E] at V_x HBW ⊢
  clear E
  obtain ⟨l_x, a_x, b_x, -, -⟩ := V_x.out.pair.facts
  go_wp2_with fail
  refine (H1.out W V_x.out.raw).mono ?_
  rintro e x1 ⟨rfl, hb⟩
  clear l_x a_x b_x
  have V_x := Hd (V_x.out.below hb)
  have HBW := Hd (belowTo HBW.out hb)
  clear hb
  go_wp2_with fail
  go_ret2
  exact ⟨by rw [HTX.out]; rfl, HBW.out⟩

theorem whole_Text (n1 : Bool) (A : Option Addr) (c : Nat) (xs : List Nat) (w : World) (h : Raw w A c xs) (htab : powTab w) :
    Calls Tryd.prog 8 #[.agg #[.bool n1, .slice A xs.length c]] w fun e w' => e = .returned (.tuple #[.string ⟨(txtL n1 xs).toArray⟩, .int .i64 (errI n1 xs)]) ∧ Below w.heap.size w w' := by
  unfold errI
  cases ho : okI n1 xs with
  | true => exact whole_Text_good n1 A c xs w h htab ho
  | false => exact whole_Text_bad n1 A c xs w h htab ho

theorem whole_Parse_long (s : ByteArray) (w : World)  (hl : 65536 < s.size) :
    Calls Tryd.prog 9 #[.string s] w (RetInt2 w.heap.size w 0 4) := by
  have hl2 : (65536 : Int) < (s.size : Int) := by omega
  clear hl
  have b0 := ((Below.refl w.heap.size w).alloc (Nat.le_refl _) (.cells #[.bool false, .slice none 0 0] 24))
  have p0 := Pair.new w 24 (.bool false) (.slice none 0 0)
  have P_r0 := Hd p0
  have HBW := Hd b0
  clear b0 p0 
  go_enter Tryd.func9, Tryd.ntmps9
  obtain ⟨W, E⟩ : ∃ W, W = (w.alloc (.cells #[.bool false, .slice none 0 0] 24)) := ⟨_, rfl⟩
  go_upto_region 1 with fail
  rw [← E] at P_r0 HBW ⊢
  clear E
  obtain ⟨l_r0, a_r0, b_r0, f_r0, g_r0⟩ := P_r0.out.facts
  have HQ := Hd (P_r0.out.store (.bool false) (.slice none 0 0))
  have HB := Hd (below2 HBW.out (show w.heap.size ≤ w.heap.size by omega) (.bool false) (.slice none 0 0))
  have hq0 := HQ.out.facts
  go_wp2_with fail
  obtain ⟨_, k0, k1, _, _⟩ := HQ.out.facts
  exact bodyPost_ret (by simp [results, Tryd.results9, go_sem, k0, k1]) rfl ⟨_, rfl, IntOwn.nought _ _, HB.out⟩

theorem whole_Parse_none (s : ByteArray) (w : World)  (hl : s.size ≤ 65536) (hz : readZ s.data.toList = none) :
    Calls Tryd.prog 9 #[.string s] w (RetInt2 w.heap.size w 0 5) := by
  have hl2 : ¬ (65536 : Int) < (s.size : Int) := by omega
  have C1 := exact_Read s hl
  simp only [hz] at C1
  have H1 := Hd C1
  clear hl hz C1
  have b0 := ((Below.refl w.heap.size w).alloc (Nat.le_refl _) (.cells #[.bool false, .slice none 0 0] 24))
  have p0 := Pair.new w 24 (.bool false) (.slice none 0 0)
  have P_r0 := Hd p0
  have HBW := Hd b0
  clear b0 p0 
  go_enter Tryd.func9, Tryd.ntmps9
  obtain ⟨W, E⟩ : ∃ W, W = (w.alloc (.cells #[.bool false, .slice none 0 0] 24)) := ⟨_, rfl⟩
  go_upto_region 1 with fail
  rw [← E] at P_r0 HBW ⊢
  clear E
  have hw0 := P_r0.out.blk.lt
  go_wp2_with fail
  refine (H1.out W).mono ?_
  rintro e x1 ⟨v, rfl, hI, hb⟩
  obtain ⟨b5, A5, k5, c5, rfl⟩ := hI.shape
  have P_r0 := Hd (P_r0.out.below hb)
  have HBW := Hd (belowTo HBW.out hb)
  have ha := (Below.refl x1.heap.size x1).alloc (Nat.le_refl _) (.cells #[.bool b5, .slice A5 k5 c5] 24)
  have pp := Pair.new x1 24 (.bool b5) (.slice A5 k5 c5)
  go_upto_region 4 with fail
  obtain ⟨y1, E⟩ : ∃ Y, Y = x1.alloc (.cells #[.bool b5, .slice A5 k5 c5] 24) := ⟨_, rfl⟩
  rw [← E] at ha pp ⊢
  have P_r0 := Hd (P_r0.out.below ha)
  have HBW := Hd (belowTo HBW.out ha)
  clear E ha pp hb hI
  obtain ⟨l_r0, a_r0, b_r0, f_r0, g_r0⟩ := P_r0.out.facts
  have HQ := Hd (P_r0.out.store (.bool false) (.slice none 0 0))
  have HB := Hd (below2 HBW.out (show w.heap.size ≤ w.heap.size by omega) (.bool false) (.slice none 0 0))
  have hq0 := HQ.out.facts
  go_wp2_with fail
  obtain ⟨_, k0, k1, _, _⟩ := HQ.out.facts
  exact bodyPost_ret (by simp [results, Tryd.results9, go_sem, k0, k1]) rfl ⟨_, rfl, IntOwn.nought _ _, HB.out⟩

theorem whole_Parse_some (s : ByteArray) (z : Int) (w : World)  (hl : s.size ≤ 65536) (hz : readZ s.data.toList = some z) :
    Calls Tryd.prog 9 #[.string s] w (RetInt2 w.heap.size w (toldV z) (toldE z)) := by
  have hl2 : ¬ (65536 : Int) < (s.size : Int) := by omega
  have C1 := exact_Read s hl
  simp only [hz] at C1
  have H1 := Hd C1
  clear hl hz C1
  have b0 := ((Below.refl w.heap.size w).alloc (Nat.le_refl _) (.cells #[.bool false, .slice none 0 0] 24))
  have p0 := Pair.new w 24 (.bool false) (.slice none 0 0)
  have P_r0 := Hd p0
  have HBW := Hd b0
  clear b0 p0 
  go_enter Tryd.func9, Tryd.ntmps9
  obtain ⟨W, E⟩ : ∃ W, W = (w.alloc (.cells #[.bool false, .slice none 0 0] 24)) := ⟨_, rfl⟩
  go_upto_region 1 with fail
  rw [← E] at P_r0 HBW ⊢
  clear E
  have hw0 := P_r0.out.blk.lt
  go_wp2_with fail
  refine (H1.out W).mono ?_
  rintro e x1 ⟨v, rfl, hI, hb⟩
  change IntOwn x1 _ v z at hI
  obtain ⟨A5, c5, rfl, -⟩ := hI.value
  have P_r0 := Hd (P_r0.out.below hb)
  have HBW := Hd (belowTo HBW.out hb)
  have ha := (Below.refl x1.heap.size x1).alloc (Nat.le_refl _) (.cells #[.bool (decide (z < 0)), .slice A5 (natL z.natAbs).length c5] 24)
  have pp := Pair.new x1 24 (.bool (decide (z < 0))) (.slice A5 (natL z.natAbs).length c5)
  go_upto_region 4 with fail
  obtain ⟨y1, E⟩ : ∃ Y, Y = x1.alloc (.cells #[.bool (decide (z < 0)), .slice A5 (natL z.natAbs).length c5] 24) := ⟨_, rfl⟩
  rw [← E] at ha pp ⊢
  have P_r0 := Hd (P_r0.out.below ha)
  have HBW := Hd (belowTo HBW.out ha)
  have O_x := Hd (hI.below ha)
  have V_x := Hd (NV.of hI.rawAt ha pp)
  obtain ⟨gx, hg⟩ : ∃ q, q = x1.heap.size := ⟨_, rfl⟩
  rw [← hg] at V_x ⊢
  clear E ha pp hb hI hg
  obtain ⟨l_x, a_x, b_x, -, -⟩ := V_x.out.pair.facts
  go_wp2_with fail
  refine (whole_told _ _ z y1 O_x.out).mono ?_
  rintro e w9 ⟨v, rfl, hI, hb⟩
  clear l_x a_x b_x
  have hsz := P_r0.out.blk.lt
  obtain ⟨b9, A9, k9, c9, rfl⟩ := hI.shape
  have pr := P_r0.out.below hb
  obtain ⟨q1, q2, q3, q4, q5⟩ := pr.facts
  have HI := Hd (hI.pair (g := w.heap.size) (a := .bool b9) (b := .slice A9 k9 c9) (by omega))
  have HB := Hd (below2 (belowTo HBW.out hb) (show w.heap.size ≤ w.heap.size by omega) (.bool b9) (.slice A9 k9 c9))
  have HQ := Hd (pr.store (.bool b9) (.slice A9 k9 c9))
  clear hI hb pr
  go_wp2_with fail
  obtain ⟨_, k0, k1, _, _⟩ := HQ.out.facts
  exact bodyPost_ret (by simp [results, Tryd.results9, go_sem, k0, k1]) rfl ⟨_, rfl, HI.out.base (by omega), HB.out⟩

theorem whole_Parse (s : ByteArray) (w : World) :
    Calls Tryd.prog 9 #[.string s] w (RetInt2 w.heap.size w (prsV s.data.toList) (prsE s.data.toList)) := by
  unfold prsV prsE
  by_cases hl : 65536 < s.size
  · rw [if_pos (by rw [← Lib.size_eq]; exact hl), if_pos (by rw [← Lib.size_eq]; exact hl)]
    exact whole_Parse_long s w hl
  · rw [if_neg (by rw [← Lib.size_eq]; exact hl), if_neg (by rw [← Lib.size_eq]; exact hl)]
    cases hz : readZ s.data.toList with
    | none => exact whole_Parse_none s w (by omega) hz
    | some z => exact whole_Parse_some s z w (by omega) hz

end Go.Proofs.YtbdliabfdplohaaDoor
