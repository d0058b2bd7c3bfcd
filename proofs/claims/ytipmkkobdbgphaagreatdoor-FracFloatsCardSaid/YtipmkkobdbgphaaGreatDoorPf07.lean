/- Several texts in one: RefBits, Same, Beyond, Twin. -/
import Derived.Test.YtipmkkobdbgphaaGreatDoorPf04
import Derived.Test.YtipmkkobdbgphaaGreatDoorPfHd
import Derived.Test.YtipmkkobdbgphaaGreatDoorPf01
import Derived.Test.YtipmkkobdbgphaaGreatDoorProg
import Derived.WalkKit
import Derived.WalkSpells
import Derived.WalkLawsBesides
import Derived.Lib.Hide
set_option maxRecDepth 100000
set_option maxHeartbeats 8000000
/- Bits of the references: a loop. -/
namespace Go.Proofs.YtipmkkobdbgphaaGreatDoor
open Go.RowKit

theorem bitLen_step (y : Nat) (h0 : y ≠ 0) (h : y < 4294967296) : Lib.bitLen y = Lib.bitLen (y / 2) + 1 := by
 rw [Lib.bitLen_half y h0 (by omega)]; omega

theorem ref_Bits_more (neg : Bool) (A : Option Addr) (c : Nat) (xs : List Nat) (w : World) (h : Zh w A c xs) (k : Nat) (hk : xs.length = k + 1) (hl : xs.length ≤ 268435456) :
   Calls Tryz.prog 242 #[.agg #[.bool neg, .slice A xs.length c]] w fun e w' => e = .returned (.int .i64 (32 * (k : Int) + (Lib.bitLen (xs[k]) : Nat))) ∧ Below w.heap.size w w' := by
 have h1 := h.cap
 have h2 := h.most
 have hlim := Zt h.limbs (k := k) (by omega)
 obtain ⟨ad, rfl, hbl, hcell⟩ := h.reads.get (k := k) (by omega)
 have hbk : (ad.add k).block < w.heap.size := by rw [ZT]; exact hbl
 generalize xs[k] = y at hcell hlim ⊢
 rw [hk] at h1 hl ⊢
 clear h hk
 have hy := bitLen_le64 y
 go_enter Tryz.func242, Tryz.ntmps242
 go_wp2_with fail
 go_loop [3, 4] (fun n t => ∃ z : Nat, t = .int .u32 z ∧ z ≤ y ∧ Lib.bitLen z ≤ Lib.bitLen y ∧ n = .int .i64 (32 * (k : Int) + ((Lib.bitLen y - Lib.bitLen z : Nat) : Int))) (fun _ t => (intOf t).toNat)
 case atStart => exact ⟨y, rfl, Nat.le_refl _, Nat.le_refl _, by rw [Nat.sub_self]; simp⟩
 case round =>
   obtain ⟨z, rfl, hz, hle, rfl⟩ := hrel
   by_cases h0 : z = 0
   · subst h0
     go_wp2_with fail
     go_ret
     exact ⟨rfl, by repeat (first | exact Below.refl _ _ | refine Below.alloc ?_ (by simp; try omega) _)⟩
   · have hpos : 0 < z := by omega
     have hs := bitLen_step z h0 (by omega)
     have HS := Hd hs
     have e : 32 * (k : Int) + ((Lib.bitLen y - Lib.bitLen z : Nat) : Int) + 1 = 32 * (k : Int) + ((Lib.bitLen y - Lib.bitLen (z / 2) : Nat) : Int) := by omega
     have HE := Hd e
     have hl2 : Lib.bitLen (z / 2) ≤ Lib.bitLen y := by omega
     have hlz : Lib.bitLen y - Lib.bitLen z ≤ 64 := by omega
     clear hs e h0
     generalize Lib.bitLen y - Lib.bitLen z = d at *
     go_wp2_with fail
     go_round
     case rel => exact ⟨z / 2, by go_num, by omega, hl2, by rw [HE.out]⟩
     case measure => simp [intOf]; omega

theorem ref_Bits_any (neg : Bool) (A : Option Addr) (c : Nat) (xs : List Nat) (w : World) (h : Zh w A c xs) (hl : xs.length ≤ 268435456) :
   Calls Tryz.prog 242 #[.agg #[.bool neg, .slice A xs.length c]] w fun e w' => e = .returned (.int .i64 (ZS xs)) ∧ Below w.heap.size w w' := by
 rcases Nat.eq_zero_or_pos xs.length with h0 | h0
 · have e : (ZS xs : Int) = 0 := by simp [ZS, h0]
   rw [e, h0]
   clear h h0 hl e
   go_enter Tryz.func242, Tryz.ntmps242
   go_wp2
   go_ret
   exact ⟨rfl, by repeat (first | exact Below.refl _ _ | apply ZO | refine Below.alloc ?_ (by simp; try omega) _)⟩
 · obtain ⟨k, hk⟩ : ∃ k, xs.length = k + 1 := ⟨xs.length - 1, by omega⟩
   have e : (ZS xs : Int) = 32 * (k : Int) + (Lib.bitLen (xs[k]) : Nat) := by
     simp [ZS, hk, YK hk]
   rw [e]
   exact ref_Bits_more neg A c xs w h k hk hl
/- SameInt: the same sign, the same limbs. -/

theorem take_more_eq {xs ys : List Nat} {k : Nat} (hx : k < xs.length) (hy : k < ys.length) (h : xs.take k = ys.take k) (e : xs[k] = ys[k]) : xs.take (k + 1) = ys.take (k + 1) := by
 rw [List.take_succ_eq_append_getElem hx, List.take_succ_eq_append_getElem hy, h, e]

theorem same_loop (neg : Bool) (A B : Option Addr) (c d : Nat) (xs ys : List Nat) (hlen : xs.length = ys.length) (w : World) (h : Zh w A c xs) (g : Zh w B d ys) :
   Calls Tryz.prog 51 #[.agg #[.bool neg, .slice A xs.length c], .agg #[.bool neg, .slice B ys.length d]] w fun e w' => e = .returned (.bool (decide (xs = ys))) ∧ Below w.heap.size w w' := by
 have HX := Hd h
 have HY := Hd g
 have hm := h.most
 have hc := h.cap
 have HE := Hd hlen
 rw [← hlen]
 clear h g hlen
 go_enter Tryz.func51, Tryz.ntmps51
 go_wp2_with fail
 go_loopw [5] (fun i wr => ∃ k m : Nat, i = .int .i64 k ∧ k ≤ xs.length ∧ xs.take k = ys.take k ∧ wr = ((w.alloc (.cells #[.bool neg, .slice A xs.length c] 25)).alloc (.cells #[.bool neg, .slice B xs.length d] 25)).drewN m) (fun i _ => xs.length - (intOf i).toNat)
 case atStart => exact ⟨0, 0, rfl, Nat.zero_le _, rfl, rfl⟩
 case round =>
   obtain ⟨k, m, rfl, hk, htake, rfl⟩ := hrel
   have HT := Hd htake
   clear htake
   by_cases hlt : k < xs.length
   · have hlt2 : k < ys.length := by rw [← HE.out]; exact hlt
     obtain ⟨ad, rfl, hbl, hcell⟩ := HX.out.reads.get hlt
     obtain ⟨bd, rfl, hbl2, hcell2⟩ := HY.out.reads.get hlt2
     have hbk : (ad.add k).block < w.heap.size := by rw [ZT]; exact hbl
     have hbk2 : (bd.add k).block < w.heap.size := by rw [ZT]; exact hbl2
     have a0 : (0 : Int) ≤ (k : Int) := by omega
     have a1 : (k : Int) < (xs.length : Int) := by omega
     by_cases he : xs[k] = ys[k]
     · have HQ := Hd he
       rw [← he] at hcell2
       generalize hz : xs[k] = z at hcell hcell2
       clear he hz
       go_wp2_with fail
       go_quiet (fail)
       go_wp2_with fail
       go_roundw
       case rel => exact ⟨k + 1, _, by go_num, hlt, take_more_eq hlt hlt2 HT.out HQ.out, rfl⟩
       case measure => simp [intOf]; omega
     · have hne : ((xs[k] : Int) == (ys[k] : Int)) = false := by simp; omega
       have hne2 : ((xs[k] : Int) != (ys[k] : Int)) = true := by simp; omega
       have hd : decide (xs = ys) = false := by simp; rintro rfl; exact he rfl
       have HD := Hd hd
       clear hd
       have HQ := Hd he
       clear he
       generalize xs[k] = y at *
       generalize ys[k] = z at *
       go_wp2_with fail
       go_quiet (fail)
       go_wp2
       go_ret
       exact ⟨by rw [HD.out]; rfl, by repeat (first | exact Below.refl _ _ | apply ZO | refine Below.alloc ?_ (by simp; try omega) _)⟩
   · have hd : decide (xs = ys) = true := by
       have e := HT.out
       rw [List.take_of_length_le (by omega), List.take_of_length_le (by rw [← HE.out]; omega)] at e
       simp [e]
     have HD := Hd hd
     clear hd
     go_wp2
     go_ret
     exact ⟨by rw [HD.out]; rfl, by repeat (first | exact Below.refl _ _ | apply ZO | refine Below.alloc ?_ (by simp; try omega) _)⟩

theorem same_sign (n1 n2 : Bool) (hn : n1 ≠ n2) (A B : Option Addr) (c d n m : Nat) (w : World) :
   Calls Tryz.prog 51 #[.agg #[.bool n1, .slice A n c], .agg #[.bool n2, .slice B m d]] w fun e w' => e = .returned (.bool false) ∧ Below w.heap.size w w' := by
 cases n1 <;> cases n2
 · exact absurd rfl hn
 · clear hn
   go_enter Tryz.func51, Tryz.ntmps51
   go_wp2
   go_ret
   exact ⟨rfl, by repeat (first | exact Below.refl _ _ | apply ZO | refine Below.alloc ?_ (by simp; try omega) _)⟩
 · clear hn
   go_enter Tryz.func51, Tryz.ntmps51
   go_wp2
   go_ret
   exact ⟨rfl, by repeat (first | exact Below.refl _ _ | apply ZO | refine Below.alloc ?_ (by simp; try omega) _)⟩
 · exact absurd rfl hn

theorem same_length (neg : Bool) (A B : Option Addr) (c d n m : Nat) (hn : n ≠ m) (w : World) :
   Calls Tryz.prog 51 #[.agg #[.bool neg, .slice A n c], .agg #[.bool neg, .slice B m d]] w fun e w' => e = .returned (.bool false) ∧ Below w.heap.size w w' := by
 have h1 : ((n : Int) == (m : Int)) = false := by simp; omega
 have h2 : ((n : Int) != (m : Int)) = true := by simp; omega
 clear hn
 go_enter Tryz.func51, Tryz.ntmps51
 go_wp2
 go_ret
 exact ⟨rfl, by repeat (first | exact Below.refl _ _ | apply ZO | refine Below.alloc ?_ (by simp; try omega) _)⟩

theorem same_any (n1 n2 : Bool) (A B : Option Addr) (c d : Nat) (xs ys : List Nat) (w : World) (h : Zh w A c xs) (g : Zh w B d ys) :
   Calls Tryz.prog 51 #[.agg #[.bool n1, .slice A xs.length c], .agg #[.bool n2, .slice B ys.length d]] w fun e w' => e = .returned (.bool (decide (n1 = n2 ∧ xs = ys))) ∧ Below w.heap.size w w' := by
 by_cases hn : n1 = n2
 · subst hn
   by_cases hl : xs.length = ys.length
   · have e : decide (n1 = n1 ∧ xs = ys) = decide (xs = ys) := by simp
     rw [e]
     exact same_loop n1 A B c d xs ys hl w h g
   · have e : decide (n1 = n1 ∧ xs = ys) = false := by simp; rintro rfl; exact hl rfl
     rw [e]
     exact same_length n1 A B c d _ _ hl w
 · have e : decide (n1 = n2 ∧ xs = ys) = false := by simp [hn]
   rw [e]
   exact same_sign n1 n2 hn A B c d _ _ w
/- Beyond: whether sizes, taken together, are too much to be copied. -/

def cellsI (zs : List Nat) : List Value := zs.map fun x : Nat => .int .i64 (x : Int)
theorem cellsI_length (zs : List Nat) : (cellsI zs).length = zs.length := by simp [cellsI]
theorem cellsI_get {zs : List Nat} {k : Nat} (h : k < zs.length) : (cellsI zs)[k]? = some (.int .i64 zs[k]) := by simp [cellsI, h]
theorem sum_take_le (zs : List Nat) (k : Nat) : (zs.take k).sum ≤ zs.sum := by
 have h := List.take_append_drop k zs
 have : zs.sum = (zs.take k).sum + (zs.drop k).sum := by rw [← List.sum_append, h]
 omega
theorem sum_take_more (zs : List Nat) (k : Nat) (h : k < zs.length) : (zs.take (k + 1)).sum = (zs.take k).sum + zs[k] := by
 rw [List.take_succ_eq_append_getElem h, List.sum_append]; simp

/- Beyond, IntSize, TwinInt, LeftInt: what the statements copy, and whether a copy is still what it was made of. -/

theorem intSize_any (neg : Bool) (A : Option Addr) (c n : Nat) (hn : n ≤ 1152921504606846975) (w : World) :
   Calls Tryz.prog 125 #[.agg #[.bool neg, .slice A n c]] w fun e w' => e = .returned (.int .i64 ((1 + n : Nat) : Int)) ∧ Below w.heap.size w w' := by
 go_enter Tryz.func125, Tryz.ntmps125
 go_wp2
 go_ret
 exact ⟨by go_num, by repeat (first | exact Below.refl _ _ | refine Below.alloc ?_ (by simp; try omega) _)⟩

structure Yr (w : World) (g : Nat) (xs : List Nat) : Prop where
 blk : ZM w g 104 (Zk (xs ++ [7777])).toArray
theorem Yr.below {w w' : World} {g : Nat} {xs : List Nat} (h : Yr w g xs) (hb : Below w.heap.size w w') : Yr w' g xs := ⟨h.blk.below hb h.blk.lt⟩
theorem Yr.alloc {w : World} {g : Nat} {xs : List Nat} (h : Yr w g xs) (o : Obj) : Yr (w.alloc o) g xs := ⟨h.blk.alloc o⟩
theorem Yr.cell {w : World} {g : Nat} {xs : List Nat} (h : Yr w g xs) {k : Nat} (hk : k < xs.length) : w.cell? ⟨g, k, none⟩ = some (.int .u32 xs[k]) := by
 rw [h.blk.cell, List.getElem?_toArray, YY (by simp; omega), List.getElem_append_left hk]
theorem Yr.mark {w : World} {g : Nat} {xs : List Nat} (h : Yr w g xs) : w.cell? ⟨g, xs.length, none⟩ = some (.int .u32 7777) := by
 rw [h.blk.cell]
 simp [Zk]
theorem Yr.raw {w : World} {g : Nat} {xs : List Nat} (hx : Zm xs) (hl : xs.length < 9223372036854775807) (h : Yr w g xs) : Zh w (some ⟨g, 0, none⟩) (xs.length + 1) xs := by
 refine ⟨hx, Nat.le_succ _, by omega, by rw [ZH, Nat.mul_one], fun _ => ⟨⟨g, 0, none⟩, rfl, h.blk.lt, fun j u hu => ?_⟩⟩
 have hj : j < xs.length := by
   have := (List.getElem?_eq_some_iff.1 hu).1
   rwa [ZH] at this
 rw [YY hj] at hu
 have e : (⟨g, 0, none⟩ : Addr).add j = ⟨g, j, none⟩ := by unfold Addr.add; split <;> simp_all
 rw [e, ← hu]
 exact h.cell hj

theorem cellsU_one (xs : List Nat) : ∀ u ∈ Zk xs, u.oneCell' = true := by
 intro u hu
 simp [Zk] at hu
 obtain ⟨a, _, rfl⟩ := hu
 rfl

theorem Yr.of_own {w : World} {base g : Nat} {xs : List Nat} (h : w.ownsRow base 104 1 (.slice (some ⟨g, 0, none⟩) (xs.length + 1) (xs.length + 1)) (xs.length + 1) (Zk xs ++ [.int .u32 7777])) : Yr w g xs := by
 rcases h.2 with ⟨h1, h2⟩ | ⟨g', cap, cur, h1, h2, h3, h4, h5, h6, h7⟩
 · omega
 · injection h1 with a1 a2 a3
   injection a1 with a1
   injection a1 with a1
   subst a1 a3
   refine ⟨?_⟩
   unfold ZM
   rw [h3]
   have e : cur.toList = Zk (xs ++ [7777]) := by
     rw [List.take_of_length_le (by rw [Array.length_toList]; omega)] at h7
     rw [h7]; simp [Zk]
   rw [← e]

theorem twin_any (neg : Bool) (A : Option Addr) (c : Nat) (xs : List Nat) (w : World) (h : Zh w A c xs) (hl : xs.length ≤ 1048576) :
   Calls Tryz.prog 43 #[.agg #[.bool neg, .slice A xs.length c]] w fun e w' => ∃ g, e = .returned (.agg #[.bool neg, .slice (some ⟨g, 0, none⟩) xs.length (xs.length + 1)]) ∧ Yr w' g xs ∧ w.heap.size ≤ g ∧ Below w.heap.size w w' := by
 have HR := Hd h
 have hcap := h.cap
 have hmost := h.most
 clear h
 obtain ⟨i0, hi, hz0, hz1, hz2⟩ := info_parts YE
 have hmk : ∀ W : World, (Instr.makeSlice 23 (.int .i64 0) (.int .i64 ((xs.length : Int) + 1))).run Tryz.prog W = .ok (.slice (some ⟨W.heap.size, 0, none⟩) 0 (xs.length + 1)) (W.alloc (.cells (madeCells #[.int .u32 0] (xs.length + 1)) 104)) := fun W => by
   have h := Z7 (P := Tryz.prog) 23 104 i0 _ Tryz.underlying23 hi hz0 .i64 .i64 0 (xs.length + 1) (by omega) (by rw [hz2]; omega) (by omega) W
   rw [show ((xs.length + 1 : Nat) : Int) = (xs.length : Int) + 1 by omega, hz1, Nat.mul_one] at h
   exact h
 have hW := (((Below.refl w.heap.size w).alloc (Nat.le_refl _) (.cells #[.bool neg, .slice A xs.length c] 25)).alloc (by simp) (.cells #[.bool false, .slice none 0 0] 25))
 have hbel0 := hW.alloc (by simp; omega) (.cells (madeCells #[.int .u32 0] (xs.length + 1)) 104)
 have hreads := (HR.out.reads).below hbel0
 have hbox := ((Zi.new w 25 (.bool neg) (.slice A xs.length c)).alloc (.cells #[.bool false, .slice none 0 0] 25)).alloc (.cells (madeCells #[.int .u32 0] (xs.length + 1)) 104)
 have hres := (Zi.new (w.alloc (.cells #[.bool neg, .slice A xs.length c] 25)) 25 (.bool false) (.slice none 0 0)).alloc (.cells (madeCells #[.int .u32 0] (xs.length + 1)) 104)
 have hmade := World.ownsRow_made (base := w.heap.size + 2) (size := 1) (e := 104) ((w.alloc (.cells #[.bool neg, .slice A xs.length c] 25)).alloc (.cells #[.bool false, .slice none 0 0] 25)) (madeCells #[.int .u32 0] (xs.length + 1)) (xs.length + 1) (by simp) (by unfold maxLen; omega) (by rw [size_madeCells, Nat.mul_one])
 simp only [World.size_alloc] at hres hmade
 clear hW
 go_enter Tryz.func43, Tryz.ntmps43
 go_wp2_with (at_builtin
              refine JD _ rfl (.tmp 9) (.tmp 11) _ rfl (w.heap.size + 2) 104 i0 1 Tryz.underlying23 hi hz1 (w.heap.size + 1 + 1) 0 (xs.length + 1) [] rfl hmade w.heap.size A xs.length c (Zk xs) rfl hreads (cellsU_one xs) (by omega) ?_
              intro w5 hown5 hgrow5)
 have hbx := hbox.grown hgrow5 (by simp; omega)
 have hrx := hres.grown hgrow5 (by simp)
 have hb5 := below_grown hbel0 (by simp; omega) (by omega) hgrow5
 have hz5 := hgrow5.size
 simp only [World.size_alloc] at hz5
 obtain ⟨l1, c0, c1, f0, f1⟩ := hbx.facts
 obtain ⟨l2, d0, d1, g0, g1⟩ := hrx.facts
 rw [Nat.zero_add, List.nil_append] at hown5
 have a1 : (0 : Int) ≤ (xs.length : Int) := by omega
 have a2 : (xs.length : Int) ≤ (xs.length : Int) + 1 := by omega
 clear hgrow5 hbox hres hmade hreads hbel0 hmk
 clear d0 d1 g0 g1
 go_region_held3 (fun w' => w'.cell? ⟨w.heap.size, 0, none⟩ = some (.bool neg) ∧ w'.cell? ⟨w.heap.size, 1, none⟩ = some (.slice A xs.length c))
   (first
     | go_keep
     | (go_split_ands
        refine ⟨?_, ?_⟩
        · (rw [hgrow6.cell_far _ (by simp; omega) (by simp; omega)]; assumption)
        · (rw [hgrow6.cell_far _ (by simp; omega) (by simp; omega)]; assumption)))
   ((refine step_append_fits _ (by rfl) (.tmp 15) (.tmp 16) _ (by rfl) (w.heap.size + 2) 104 i0 1 Tryz.underlying23 hi hz1 (w.heap.size + 1 + 1) xs.length (xs.length + 1) (Zk xs) (by rfl) ((hown5.alloc _).drew) ⟨w5.heap.size, 0, none⟩ 1 1 [.int .u32 7777] (by rfl) (by rfl) (World.news_of_block (cs := #[.int .u32 7777]) (t := 104) (fr := (0, 0)) (heap_alloc_new w5 _)) (by simp [Value.oneCell']) (by omega) ?_; intro w6 hown6 hgrow6; have hrx6 := ((hrx.alloc _).drew).grown hgrow6 (by simp); have hb6 := below_grown ((hb5.alloc hb5.size (.cells #[.int .u32 7777] 104)).drew) (by simp; omega) (by omega) hgrow6; obtain ⟨m2, d0, d1, g0, g1⟩ := hrx6.facts))
 go_wp2
 have ht := Yr.of_own hown6
 have ht2 : Yr ((w6.setCell ⟨w.heap.size + 1, 0, none⟩ (.bool neg)).setCell ⟨w.heap.size + 1, 1, none⟩ (.slice (some ⟨w.heap.size + 1 + 1, 0, none⟩) xs.length (xs.length + 1))) (w.heap.size + 1 + 1) xs := ⟨ht.blk.far2 (by omega) _ _⟩
 have hq := hrx6.store (.bool neg) (.slice (some ⟨w.heap.size + 1 + 1, 0, none⟩) xs.length (xs.length + 1))
 obtain ⟨_, k0, k1, _, _⟩ := hq.facts
 exact bodyPost_ret (by simp [results, Tryz.results43, go_sem, k0, k1]) rfl ⟨_, rfl, ht2, by omega, ZE hb6 (by omega) _ _⟩

theorem left_any (neg : Bool) (A : Option Addr) (c g : Nat) (xs : List Nat) (w : World) (h : Zh w A c xs) (ht : Yr w g xs) (hl : xs.length ≤ 1048576) :
   Calls Tryz.prog 101 #[.agg #[.bool neg, .slice (some ⟨g, 0, none⟩) xs.length (xs.length + 1)], .agg #[.bool neg, .slice A xs.length c]] w fun e w' => e = .returned (.bool true) ∧ Below w.heap.size w w' := by
 have h0 := (h.alloc (.cells #[.bool neg, .slice (some ⟨g, 0, none⟩) xs.length (xs.length + 1)] 25)).alloc (.cells #[.bool neg, .slice A xs.length c] 25)
 have t0 := (ht.alloc (.cells #[.bool neg, .slice (some ⟨g, 0, none⟩) xs.length (xs.length + 1)] 25)).alloc (.cells #[.bool neg, .slice A xs.length c] 25)
 have p0 := (Zi.new w 25 (.bool neg) (.slice (some ⟨g, 0, none⟩) xs.length (xs.length + 1))).alloc (.cells #[.bool neg, .slice A xs.length c] 25)
 have q0 := Zi.new (w.alloc (.cells #[.bool neg, .slice (some ⟨g, 0, none⟩) xs.length (xs.length + 1)] 25)) 25 (.bool neg) (.slice A xs.length c)
 have b0 := ((Below.refl w.heap.size w).alloc (Nat.le_refl _) (.cells #[.bool neg, .slice (some ⟨g, 0, none⟩) xs.length (xs.length + 1)] 25)).alloc (by simp) (.cells #[.bool neg, .slice A xs.length c] 25)
 simp only [World.size_alloc] at q0
 go_enter Tryz.func101, Tryz.ntmps101
 go_wp2_with fail
 obtain ⟨W, E⟩ : ∃ W, W = (w.alloc (.cells #[.bool neg, .slice (some ⟨g, 0, none⟩) xs.length (xs.length + 1)] 25)).alloc (.cells #[.bool neg, .slice A xs.length c] 25) := ⟨_, rfl⟩
 rw [← E] at h0 t0 p0 q0 b0 ⊢
 clear E h ht
 have hraw := t0.raw h0.limbs (by omega)
 have D1 := fun (V : World) (hV : Below W.heap.size W V) => same_any neg neg (some ⟨g, 0, none⟩) A (xs.length + 1) c xs xs V (hraw.below hV) (h0.below hV)
 rw [show decide (neg = neg ∧ xs = xs) = true by simp] at D1
 have H1 := Hd D1
 have hm := t0.mark
 have hg := t0.blk.lt
 obtain ⟨l1, c0, c1, -, -⟩ := p0.facts
 obtain ⟨l2, d0, d1, -, -⟩ := q0.facts
 have a1 : (0 : Int) ≤ (xs.length : Int) := by omega
 have a2 : (xs.length : Int) < (xs.length : Int) + 1 := by omega
 have a3 : (xs.length : Int) + 1 ≤ (xs.length : Int) + 1 := by omega
 have a4 : IntKind.i64.wrap ((xs.length : Int) + 1) = (xs.length : Int) + 1 := IntWalk.i64_in _ (by omega)
 have a5 : (0 : Int) ≤ (xs.length : Int) + 1 := by omega
 clear D1 h0 t0 hraw p0 q0
 generalize xs.length = n at *
 go_region_held3 (fun w' => Below W.heap.size W w' ∧ ∀ b o, b < W.heap.size → w'.cell? ⟨b, o, none⟩ = W.cell? ⟨b, o, none⟩)
   (first
     | exact ⟨(Below.refl _ _).drew, fun _ _ _ => rfl⟩
     | (obtain ⟨q, _⟩ := ‹Below W.heap.size W _ ∧ _›; have q' := Zb q hbx; exact ⟨q', fun b o h => q'.cell (p := ⟨b, o, none⟩) h⟩))
   (first
     | (go_at_call 51; with_reducible refine (H1.out _ ?_).mono ?_; exact (‹Below W.heap.size W _ ∧ _›).1; rintro e wx ⟨rfl, hbx⟩))
 obtain ⟨q, _⟩ := ‹Below W.heap.size W _ ∧ _›
 go_wp2
 go_ret
 exact ⟨rfl, b0.trans (q.mono b0.size)⟩
end Go.Proofs.YtipmkkobdbgphaaGreatDoor
