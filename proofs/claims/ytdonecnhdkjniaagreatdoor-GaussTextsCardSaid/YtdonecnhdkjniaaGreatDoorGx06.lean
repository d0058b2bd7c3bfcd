/- Several texts in one: Same, Beyond, Twin, Cmp, Cmp2. -/
import Derived.Test.YtdonecnhdkjniaaGreatDoorGx05
set_option maxRecDepth 100000
set_option maxHeartbeats 8000000
namespace Go.Proofs.YtdonecnhdkjniaaGreatDoor
open Go.RowKit

theorem take_more_eq {xs ys : List Nat} {k : Nat} (hx : k < xs.length) (hy : k < ys.length) (h : xs.take k = ys.take k) (e : xs[k] = ys[k]) : xs.take (k + 1) = ys.take (k + 1) := by
 rw [List.take_succ_eq_append_getElem hx, List.take_succ_eq_append_getElem hy, h, e]

theorem same_loop (neg : Bool) (A B : Option Addr) (c d : Nat) (xs ys : List Nat) (hlen : xs.length = ys.length) (w : World) (h : Zm w A c xs) (g : Zm w B d ys) :
  Calls Tryz.prog 119 #[.agg #[.bool neg, .slice A xs.length c], .agg #[.bool neg, .slice B ys.length d]] w fun e w' => e = .returned (.bool (decide (xs = ys))) /\ Below w.heap.size w w' := by
 have HX := Hd h
 have HY := Hd g
 have hm := h.most
 have hc := h.cap
 have HE := Hd hlen
 rw [<- hlen]
 clear h g hlen
 go_enter Tryz.func119, Tryz.ntmps119
 go_wp2_with fail
 go_loopw [5] (fun i wr => ∃ k m : Nat, i = .int .i64 k /\ k <= xs.length /\ xs.take k = ys.take k /\ wr = ((w.alloc (.cells #[.bool neg, .slice A xs.length c] 24)).alloc (.cells #[.bool neg, .slice B xs.length d] 24)).drewN m) (fun i _ => xs.length - (intOf i).toNat)
 case atStart => exact ⟨0, 0, rfl, Nat.zero_le _, rfl, rfl⟩
 case round =>
  obtain ⟨k, m, rfl, hk, htake, rfl⟩ := hrel
  have HT := Hd htake
  clear htake
  by_cases hlt : k < xs.length
  . have hlt2 : k < ys.length := by rw [<- HE.out]; exact hlt
    obtain ⟨ad, rfl, hbl, hcell⟩ := HX.out.reads.get hlt
    obtain ⟨bd, rfl, hbl2, hcell2⟩ := HY.out.reads.get hlt2
    have hbk : (ad.add k).block < w.heap.size := by rw [Z9]; exact hbl
    have hbk2 : (bd.add k).block < w.heap.size := by rw [Z9]; exact hbl2
    have a0 : (0 : Int) <= (k : Int) := by omega
    have a1 : (k : Int) < (xs.length : Int) := by omega
    by_cases he : xs[k] = ys[k]
    . have HQ := Hd he
      rw [<- he] at hcell2
      generalize hz : xs[k] = z at hcell hcell2
      clear he hz
      go_wp2_with fail
      go_quiet (fail)
      go_wp2_with fail
      go_roundw
      case rel => exact ⟨k + 1, _, by go_num, hlt, take_more_eq hlt hlt2 HT.out HQ.out, rfl⟩
      case measure => simp [intOf]; omega
    . have hne : ((xs[k] : Int) == (ys[k] : Int)) = false := by simp; omega
      have hne2 : ((xs[k] : Int) != (ys[k] : Int)) = true := by simp; omega
      have hd : decide (xs = ys) = false := by simp; rintro rfl; exact he rfl
      have HD := Hd hd
      clear hd
      have HQ := Hd he
      clear he
      generalize xs[k] = y at *
      generalize ys[k] = z at *
      go_wp2_with fail
      go_quiet (fail)
      go_wp2
      go_ret
      exact ⟨by rw [HD.out]; rfl, by repeat (first | exact Below.refl _ _ | apply ZT | refine Below.alloc ?_ (by simp; try omega) _)⟩
  . have hd : decide (xs = ys) = true := by
      have e := HT.out
      rw [List.take_of_length_le (by omega), List.take_of_length_le (by rw [<- HE.out]; omega)] at e
      simp [e]
    have HD := Hd hd
    clear hd
    go_wp2
    go_ret
    exact ⟨by rw [HD.out]; rfl, by repeat (first | exact Below.refl _ _ | apply ZT | refine Below.alloc ?_ (by simp; try omega) _)⟩

theorem same_sign (n1 n2 : Bool) (hn : n1 ≠ n2) (A B : Option Addr) (c d n m : Nat) (w : World) :
   Calls Tryz.prog 119 #[.agg #[.bool n1, .slice A n c], .agg #[.bool n2, .slice B m d]] w fun e w' => e = .returned (.bool false) /\ Below w.heap.size w w' := by
 cases n1 <;> cases n2
 . exact absurd rfl hn
 . clear hn
   go_enter Tryz.func119, Tryz.ntmps119
   go_wp2
   go_ret
   exact ⟨rfl, by repeat (first | exact Below.refl _ _ | apply ZT | refine Below.alloc ?_ (by simp; try omega) _)⟩
 . clear hn
   go_enter Tryz.func119, Tryz.ntmps119
   go_wp2
   go_ret
   exact ⟨rfl, by repeat (first | exact Below.refl _ _ | apply ZT | refine Below.alloc ?_ (by simp; try omega) _)⟩
 . exact absurd rfl hn

theorem same_length (neg : Bool) (A B : Option Addr) (c d n m : Nat) (hn : n ≠ m) (w : World) :
  Calls Tryz.prog 119 #[.agg #[.bool neg, .slice A n c], .agg #[.bool neg, .slice B m d]] w fun e w' => e = .returned (.bool false) /\ Below w.heap.size w w' := by
 have h1 : ((n : Int) == (m : Int)) = false := by simp; omega
 have h2 : ((n : Int) != (m : Int)) = true := by simp; omega
 clear hn
 go_enter Tryz.func119, Tryz.ntmps119
 go_wp2
 go_ret
 exact ⟨rfl, by repeat (first | exact Below.refl _ _ | apply ZT | refine Below.alloc ?_ (by simp; try omega) _)⟩

theorem same_any (n1 n2 : Bool) (A B : Option Addr) (c d : Nat) (xs ys : List Nat) (w : World) (h : Zm w A c xs) (g : Zm w B d ys) :
   Calls Tryz.prog 119 #[.agg #[.bool n1, .slice A xs.length c], .agg #[.bool n2, .slice B ys.length d]] w fun e w' => e = .returned (.bool (decide (n1 = n2 /\ xs = ys))) /\ Below w.heap.size w w' := by
 by_cases hn : n1 = n2
 . subst hn
   by_cases hl : xs.length = ys.length
   . have e : decide (n1 = n1 /\ xs = ys) = decide (xs = ys) := by simp
     rw [e]
     exact same_loop n1 A B c d xs ys hl w h g
   . have e : decide (n1 = n1 /\ xs = ys) = false := by simp; rintro rfl; exact hl rfl
     rw [e]
     exact same_length n1 A B c d _ _ hl w
 . have e : decide (n1 = n2 /\ xs = ys) = false := by simp [hn]
   rw [e]
   exact same_sign n1 n2 hn A B c d _ _ w

def cellsI (zs : List Nat) : List Value := zs.map fun x : Nat => .int .i64 (x : Int)
theorem cellsI_length (zs : List Nat) : (cellsI zs).length = zs.length := by simp [cellsI]
theorem cellsI_get {zs : List Nat} {k : Nat} (h : k < zs.length) : (cellsI zs)[k]? = some (.int .i64 zs[k]) := by simp [cellsI, h]
theorem sum_take_le (zs : List Nat) (k : Nat) : (zs.take k).sum <= zs.sum := by
 have h := List.take_append_drop k zs
 have : zs.sum = (zs.take k).sum + (zs.drop k).sum := by rw [<- List.sum_append, h]
 omega
theorem sum_take_more (zs : List Nat) (k : Nat) (h : k < zs.length) : (zs.take (k + 1)).sum = (zs.take k).sum + zs[k] := by
 rw [List.take_succ_eq_append_getElem h, List.sum_append]; simp


theorem intSize_any (neg : Bool) (A : Option Addr) (c n : Nat) (hn : n <= 1152921504606846975) (w : World) :
  Calls Tryz.prog 158 #[.agg #[.bool neg, .slice A n c]] w fun e w' => e = .returned (.int .i64 ((1 + n : Nat) : Int)) /\ Below w.heap.size w w' := by
 go_enter Tryz.func158, Tryz.ntmps158
 go_wp2
 go_ret
 exact ⟨by go_num, by repeat (first | exact Below.refl _ _ | refine Below.alloc ?_ (by simp; try omega) _)⟩

structure Z0 (w : World) (g : Nat) (xs : List Nat) : Prop where
 blk : ZJ w g 109 (Zh (xs ++ [7777])).toArray
theorem Z0.below {w w' : World} {g : Nat} {xs : List Nat} (h : Z0 w g xs) (hb : Below w.heap.size w w') : Z0 w' g xs := ⟨h.blk.below hb h.blk.lt⟩
theorem Z0.alloc {w : World} {g : Nat} {xs : List Nat} (h : Z0 w g xs) (o : Obj) : Z0 (w.alloc o) g xs := ⟨h.blk.alloc o⟩
theorem Z0.cell {w : World} {g : Nat} {xs : List Nat} (h : Z0 w g xs) {k : Nat} (hk : k < xs.length) : w.cell? ⟨g, k, none⟩ = some (.int .u32 xs[k]) := by
 rw [h.blk.cell, List.getElem?_toArray, YY (by simp; omega), List.getElem_append_left hk]
theorem Z0.mark {w : World} {g : Nat} {xs : List Nat} (h : Z0 w g xs) : w.cell? ⟨g, xs.length, none⟩ = some (.int .u32 7777) := by
 rw [h.blk.cell]
 simp [Zh]
theorem Z0.raw {w : World} {g : Nat} {xs : List Nat} (hx : Zj xs) (hl : xs.length < 9223372036854775807) (h : Z0 w g xs) : Zm w (some ⟨g, 0, none⟩) (xs.length + 1) xs := by
 refine ⟨hx, Nat.le_succ _, by omega, by rw [ZI, Nat.mul_one], fun _ => ⟨⟨g, 0, none⟩, rfl, h.blk.lt, fun j u hu => ?_⟩⟩
 have hj : j < xs.length := by
  have := (List.getElem?_eq_some_iff.1 hu).1
  rwa [ZI] at this
 rw [YY hj] at hu
 have e : (⟨g, 0, none⟩ : Addr).add j = ⟨g, j, none⟩ := by unfold Addr.add; split <;> simp_all
 rw [e, <- hu]
 exact h.cell hj

theorem cellsU_one (xs : List Nat) : ∀ u ∈ Zh xs, u.oneCell' = true := by
 intro u hu
 simp [Zh] at hu
 obtain ⟨a, _, rfl⟩ := hu
 rfl

theorem Z0.of_own {w : World} {base g : Nat} {xs : List Nat} (h : w.ownsRow base 109 1 (.slice (some ⟨g, 0, none⟩) (xs.length + 1) (xs.length + 1)) (xs.length + 1) (Zh xs ++ [.int .u32 7777])) : Z0 w g xs := by
 rcases h.2 with ⟨h1, h2⟩ | ⟨g', cap, cur, h1, h2, h3, h4, h5, h6, h7⟩
 . omega
 . injection h1 with a1 a2 a3
   injection a1 with a1
   injection a1 with a1
   subst a1 a3
   refine ⟨?_⟩
   unfold ZJ
   rw [h3]
   have e : cur.toList = Zh (xs ++ [7777]) := by
    rw [List.take_of_length_le (by rw [Array.length_toList]; omega)] at h7
    rw [h7]; simp [Zh]
   rw [<- e]

theorem twin_any (neg : Bool) (A : Option Addr) (c : Nat) (xs : List Nat) (w : World) (h : Zm w A c xs) (hl : xs.length <= 1048576) :
   Calls Tryz.prog 91 #[.agg #[.bool neg, .slice A xs.length c]] w fun e w' => ∃ g, e = .returned (.agg #[.bool neg, .slice (some ⟨g, 0, none⟩) xs.length (xs.length + 1)]) /\ Z0 w' g xs /\ w.heap.size <= g /\ Below w.heap.size w w' := by
 have HR := Hd h
 have hcap := h.cap
 have hmost := h.most
 clear h
 obtain ⟨i0, hi, hz0, hz1, hz2⟩ := info_parts YC
 have hmk : ∀ W : World, (Instr.makeSlice 22 (.int .i64 0) (.int .i64 ((xs.length : Int) + 1))).run Tryz.prog W = .ok (.slice (some ⟨W.heap.size, 0, none⟩) 0 (xs.length + 1)) (W.alloc (.cells (madeCells #[.int .u32 0] (xs.length + 1)) 109)) := fun W => by
   have h := Ye (P := Tryz.prog) 22 109 i0 _ Tryz.underlying22 hi hz0 .i64 .i64 0 (xs.length + 1) (by omega) (by rw [hz2]; omega) (by omega) W
   rw [show ((xs.length + 1 : Nat) : Int) = (xs.length : Int) + 1 by omega, hz1, Nat.mul_one] at h
   exact h
 have hW := (((Below.refl w.heap.size w).alloc (Nat.le_refl _) (.cells #[.bool neg, .slice A xs.length c] 24)).alloc (by simp) (.cells #[.bool false, .slice none 0 0] 24))
 have hbel0 := hW.alloc (by simp; omega) (.cells (madeCells #[.int .u32 0] (xs.length + 1)) 109)
 have hreads := (HR.out.reads).below hbel0
 have hbox := ((Zr.new w 24 (.bool neg) (.slice A xs.length c)).alloc (.cells #[.bool false, .slice none 0 0] 24)).alloc (.cells (madeCells #[.int .u32 0] (xs.length + 1)) 109)
 have hres := (Zr.new (w.alloc (.cells #[.bool neg, .slice A xs.length c] 24)) 24 (.bool false) (.slice none 0 0)).alloc (.cells (madeCells #[.int .u32 0] (xs.length + 1)) 109)
 have hmade := World.ownsRow_made (base := w.heap.size + 2) (size := 1) (e := 109) ((w.alloc (.cells #[.bool neg, .slice A xs.length c] 24)).alloc (.cells #[.bool false, .slice none 0 0] 24)) (madeCells #[.int .u32 0] (xs.length + 1)) (xs.length + 1) (by simp) (by unfold maxLen; omega) (by rw [size_madeCells, Nat.mul_one])
 simp only [World.size_alloc] at hres hmade
 clear hW
 go_enter Tryz.func91, Tryz.ntmps91
 go_wp2_with (at_builtin
              refine J7 _ rfl (.tmp 9) (.tmp 11) _ rfl (w.heap.size + 2) 109 i0 1 Tryz.underlying22 hi hz1 (w.heap.size + 1 + 1) 0 (xs.length + 1) [] rfl hmade w.heap.size A xs.length c (Zh xs) rfl hreads (cellsU_one xs) (by omega) ?_
              intro w5 hown5 hgrow5)
 have hbx := hbox.grown hgrow5 (by simp; omega)
 have hrx := hres.grown hgrow5 (by simp)
 have hb5 := below_grown hbel0 (by simp; omega) (by omega) hgrow5
 have hz5 := hgrow5.size
 simp only [World.size_alloc] at hz5
 obtain ⟨l1, c0, c1, f0, f1⟩ := hbx.facts
 obtain ⟨l2, d0, d1, g0, g1⟩ := hrx.facts
 rw [Nat.zero_add, List.nil_append] at hown5
 have a1 : (0 : Int) <= (xs.length : Int) := by omega
 have a2 : (xs.length : Int) <= (xs.length : Int) + 1 := by omega
 clear hgrow5 hbox hres hmade hreads hbel0 hmk
 clear d0 d1 g0 g1
 go_region_held3 (fun w' => w'.cell? ⟨w.heap.size, 0, none⟩ = some (.bool neg) /\ w'.cell? ⟨w.heap.size, 1, none⟩ = some (.slice A xs.length c))
   (first
     | go_keep
     | (go_split_ands
        refine ⟨?_, ?_⟩
        . (rw [hgrow6.cell_far _ (by simp; omega) (by simp; omega)]; assumption)
        . (rw [hgrow6.cell_far _ (by simp; omega) (by simp; omega)]; assumption)))
   ((refine step_append_fits _ (by rfl) (.tmp 15) (.tmp 16) _ (by rfl) (w.heap.size + 2) 109 i0 1 Tryz.underlying22 hi hz1 (w.heap.size + 1 + 1) xs.length (xs.length + 1) (Zh xs) (by rfl) ((hown5.alloc _).drew) ⟨w5.heap.size, 0, none⟩ 1 1 [.int .u32 7777] (by rfl) (by rfl) (World.news_of_block (cs := #[.int .u32 7777]) (t := 109) (fr := (0, 0)) (heap_alloc_new w5 _)) (by simp [Value.oneCell']) (by omega) ?_; intro w6 hown6 hgrow6; have hrx6 := ((hrx.alloc _).drew).grown hgrow6 (by simp); have hb6 := below_grown ((hb5.alloc hb5.size (.cells #[.int .u32 7777] 109)).drew) (by simp; omega) (by omega) hgrow6; obtain ⟨m2, d0, d1, g0, g1⟩ := hrx6.facts))
 go_wp2
 have ht := Z0.of_own hown6
 have ht2 : Z0 ((w6.setCell ⟨w.heap.size + 1, 0, none⟩ (.bool neg)).setCell ⟨w.heap.size + 1, 1, none⟩ (.slice (some ⟨w.heap.size + 1 + 1, 0, none⟩) xs.length (xs.length + 1))) (w.heap.size + 1 + 1) xs := ⟨ht.blk.far2 (by omega) _ _⟩
 have hq := hrx6.store (.bool neg) (.slice (some ⟨w.heap.size + 1 + 1, 0, none⟩) xs.length (xs.length + 1))
 obtain ⟨_, k0, k1, _, _⟩ := hq.facts
 exact bodyPost_ret (by simp [results, Tryz.results91, go_sem, k0, k1]) rfl ⟨_, rfl, ht2, by omega, ZW hb6 (by omega) _ _⟩

theorem left_any (neg : Bool) (A : Option Addr) (c g : Nat) (xs : List Nat) (w : World) (h : Zm w A c xs) (ht : Z0 w g xs) (hl : xs.length <= 1048576) :
  Calls Tryz.prog 120 #[.agg #[.bool neg, .slice (some ⟨g, 0, none⟩) xs.length (xs.length + 1)], .agg #[.bool neg, .slice A xs.length c]] w fun e w' => e = .returned (.bool true) /\ Below w.heap.size w w' := by
 have h0 := (h.alloc (.cells #[.bool neg, .slice (some ⟨g, 0, none⟩) xs.length (xs.length + 1)] 24)).alloc (.cells #[.bool neg, .slice A xs.length c] 24)
 have t0 := (ht.alloc (.cells #[.bool neg, .slice (some ⟨g, 0, none⟩) xs.length (xs.length + 1)] 24)).alloc (.cells #[.bool neg, .slice A xs.length c] 24)
 have p0 := (Zr.new w 24 (.bool neg) (.slice (some ⟨g, 0, none⟩) xs.length (xs.length + 1))).alloc (.cells #[.bool neg, .slice A xs.length c] 24)
 have q0 := Zr.new (w.alloc (.cells #[.bool neg, .slice (some ⟨g, 0, none⟩) xs.length (xs.length + 1)] 24)) 24 (.bool neg) (.slice A xs.length c)
 have b0 := ((Below.refl w.heap.size w).alloc (Nat.le_refl _) (.cells #[.bool neg, .slice (some ⟨g, 0, none⟩) xs.length (xs.length + 1)] 24)).alloc (by simp) (.cells #[.bool neg, .slice A xs.length c] 24)
 simp only [World.size_alloc] at q0
 go_enter Tryz.func120, Tryz.ntmps120
 go_wp2_with fail
 obtain ⟨W, E⟩ : ∃ W, W = (w.alloc (.cells #[.bool neg, .slice (some ⟨g, 0, none⟩) xs.length (xs.length + 1)] 24)).alloc (.cells #[.bool neg, .slice A xs.length c] 24) := ⟨_, rfl⟩
 rw [<- E] at h0 t0 p0 q0 b0 ⊢
 clear E h ht
 have hraw := t0.raw h0.limbs (by omega)
 have D1 := fun (V : World) (hV : Below W.heap.size W V) => same_any neg neg (some ⟨g, 0, none⟩) A (xs.length + 1) c xs xs V (hraw.below hV) (h0.below hV)
 rw [show decide (neg = neg /\ xs = xs) = true by simp] at D1
 have H1 := Hd D1
 have hm := t0.mark
 have hg := t0.blk.lt
 obtain ⟨l1, c0, c1, -, -⟩ := p0.facts
 obtain ⟨l2, d0, d1, -, -⟩ := q0.facts
 have a1 : (0 : Int) <= (xs.length : Int) := by omega
 have a2 : (xs.length : Int) < (xs.length : Int) + 1 := by omega
 have a3 : (xs.length : Int) + 1 <= (xs.length : Int) + 1 := by omega
 have a4 : IntKind.i64.wrap ((xs.length : Int) + 1) = (xs.length : Int) + 1 := IntWalk.i64_in _ (by omega)
 have a5 : (0 : Int) <= (xs.length : Int) + 1 := by omega
 clear D1 h0 t0 hraw p0 q0
 generalize xs.length = n at *
 go_region_held3 (fun w' => Below W.heap.size W w' /\ ∀ b o, b < W.heap.size -> w'.cell? ⟨b, o, none⟩ = W.cell? ⟨b, o, none⟩)
  (first
   | exact ⟨(Below.refl _ _).drew, fun _ _ _ => rfl⟩
   | (obtain ⟨q, _⟩ := ‹Below W.heap.size W _ /\ _›; have q' := Zb q hbx; exact ⟨q', fun b o h => q'.cell (p := ⟨b, o, none⟩) h⟩))
  (first
   | (go_at_call 119; with_reducible refine (H1.out _ ?_).mono ?_; exact (‹Below W.heap.size W _ /\ _›).1; rintro e wx ⟨rfl, hbx⟩))
 obtain ⟨q, _⟩ := ‹Below W.heap.size W _ /\ _›
 go_wp2
 go_ret
 exact ⟨rfl, b0.trans (q.mono b0.size)⟩

def YE (a b : Nat) : Int := if a < b then -1 else if b < a then 1 else 0
theorem cmpv_lt {a b : Nat} (h : a < b) : YE a b = -1 := by simp [YE, h]
theorem cmpv_gt {a b : Nat} (h : b < a) : YE a b = 1 := by simp [YE, h]; omega
theorem cmpv_eq (a : Nat) : YE a a = 0 := by simp [YE]
theorem val_split {xs : List Nat} {k : Nat} (h : k < xs.length) : val xs = val (xs.take k) + 4294967296 ^ k * (xs[k] + 4294967296 * val (xs.drop (k + 1))) := by
 conv => lhs; rw [<- List.take_append_drop k xs, YK, List.drop_eq_getElem_cons h]
 rw [List.length_take, Nat.min_eq_left (by omega)]
 rfl
theorem val_top {xs ys : List Nat} (hx : Zj xs) {k : Nat} (h1 : k < xs.length) (h2 : k < ys.length) (hd : xs.drop (k + 1) = ys.drop (k + 1)) (hlt : xs[k] < ys[k]) : val xs < val ys := by
 rw [val_split h1, val_split h2, hd]
 have ht := Y7 (YG hx k)
 rw [List.length_take, Nat.min_eq_left (by omega)] at ht
 have hm : 4294967296 ^ k * (xs[k] + 4294967296 * val (ys.drop (k + 1)) + 1) <= 4294967296 ^ k * (ys[k] + 4294967296 * val (ys.drop (k + 1))) := Nat.mul_le_mul_left _ (by omega)
 rw [Nat.mul_add, Nat.mul_one] at hm
 omega
theorem drop_same {xs ys : List Nat} {k : Nat} (h1 : k < xs.length) (h2 : k < ys.length) (hd : xs.drop (k + 1) = ys.drop (k + 1)) (he : xs[k] = ys[k]) : xs.drop k = ys.drop k := by
 rw [List.drop_eq_getElem_cons h1, List.drop_eq_getElem_cons h2, hd, he]
theorem JD {xs ys : List Nat} (hx : Zj xs) (hy : Zj ys) (hc : ZU ys) (hl : xs.length < ys.length) : val xs < val ys := by
 have h1 := Y7 hx
 rcases Nat.lt_or_ge (val ys) (4294967296 ^ (ys.length - 1)) with h | h
 . have := ZN.2 h
   rw [YU hy hc] at this
   omega
 . have : 4294967296 ^ xs.length <= 4294967296 ^ (ys.length - 1) := Nat.pow_le_pow_right (by omega) (by omega)
   omega

theorem exact_size_same (A B : Option Addr) (c d : Nat) (xs ys : List Nat) (hlen : xs.length = ys.length) (w : World) (h : Zm w A c xs) (g : Zm w B d ys) :
  Calls Tryz.prog 160 #[.slice A xs.length c, .slice B ys.length d] w fun e w' => e = .returned (.int .i64 (YE (val xs) (val ys))) /\ Below w.heap.size w w' := by
 have HX := Hd h
 have HY := Hd g
 have hm := h.most
 have hc := h.cap
 have HE := Hd hlen
 rw [<- hlen]
 clear h g hlen
 go_enter Tryz.func160, Tryz.ntmps160
 go_wp2_with fail
 go_loopw [5] (fun i wr => ∃ k m : Nat, i = .int .i64 ((k : Int) - 1) /\ k <= xs.length /\ xs.drop k = ys.drop k /\ wr = w.drewN m) (fun i _ => (intOf i + 1).toNat)
 case atStart => exact ⟨xs.length, 0, rfl, Nat.le_refl _, by rw [List.drop_length, HE.out, List.drop_length], rfl⟩
 case round =>
  obtain ⟨k, m, rfl, hk, hdrop, rfl⟩ := hrel
  have HD := Hd hdrop
  clear hdrop
  cases k with
  | zero =>
   have fin : YE (val xs) (val ys) = 0 := by
     have e : xs = ys := by simpa using HD.out
     rw [e]; exact cmpv_eq _
   have HF := Hd fin
   clear fin
   go_wp2
   go_ret
   exact ⟨by rw [HF.out]; rfl, ZT (Below.refl _ _) _⟩
  | succ k =>
   have h2 : k < ys.length := by rw [<- HE.out]; omega
   obtain ⟨ad, rfl, hbl, hcell⟩ := HX.out.reads.get (k := k) (by omega)
   obtain ⟨bd, rfl, hbl2, hcell2⟩ := HY.out.reads.get h2
   have a0 : (0 : Int) <= (k : Int) := by omega
   have a1 : (k : Int) < (xs.length : Int) := by omega
   have ae : ((k + 1 : Nat) : Int) - 1 = (k : Int) := by omega
   rw [ae]
   have hcase : xs[k] = ys[k] ∨ xs[k] < ys[k] ∨ ys[k] < xs[k] := by omega
   rcases hcase with he | he | he
   . have HQ := Hd he
     rw [<- he] at hcell2
     clear he ae
     generalize hz : xs[k] = z at hcell hcell2
     clear hz
     go_wp2_with fail
     go_quiet (fail)
     go_wp2_with fail
     go_roundw
     case rel => exact ⟨k, _, by go_num, by omega, drop_same (by omega) h2 HD.out HQ.out, rfl⟩
     case measure => simp [intOf]
   . have fin : YE (val xs) (val ys) = -1 := cmpv_lt (val_top HX.out.limbs (by omega) h2 HD.out he)
     have HF := Hd fin
     have hlt : (xs[k] : Int) < (ys[k] : Int) := by omega
     have hne : ((xs[k] : Int) == (ys[k] : Int)) = false := by simp; omega
     have hne2 : ((xs[k] : Int) != (ys[k] : Int)) = true := by simp; omega
     clear fin he ae
     generalize xs[k] = y at *
     generalize ys[k] = z at *
     go_wp2_with fail
     go_quiet (fail)
     go_wp2_with fail
     go_quiet (fail)
     go_wp2
     go_ret
     exact ⟨by rw [HF.out]; rfl, by repeat (first | exact Below.refl _ _ | apply ZT)⟩
   . have fin : YE (val xs) (val ys) = 1 := cmpv_gt (val_top HY.out.limbs h2 (by omega) HD.out.symm he)
     have HF := Hd fin
     have hlt : (ys[k] : Int) < (xs[k] : Int) := by omega
     have hne : ((xs[k] : Int) == (ys[k] : Int)) = false := by simp; omega
     have hne2 : ((xs[k] : Int) != (ys[k] : Int)) = true := by simp; omega
     clear fin he ae
     generalize xs[k] = y at *
     generalize ys[k] = z at *
     go_wp2_with fail
     go_quiet (fail)
     go_wp2_with fail
     go_quiet (fail)
     go_wp2
     go_ret
     exact ⟨by rw [HF.out]; rfl, by repeat (first | exact Below.refl _ _ | apply ZT)⟩
theorem ref_cmp_same (A B : Option Addr) (c d : Nat) (xs ys : List Nat) (hlen : xs.length = ys.length) (w : World) (h : Zm w A c xs) (g : Zm w B d ys) :
  Calls Tryz.prog 278 #[.slice A xs.length c, .slice B ys.length d] w fun e w' => e = .returned (.int .i64 (YE (val xs) (val ys))) /\ Below w.heap.size w w' := by
 have HX := Hd h
 have HY := Hd g
 have hm := h.most
 have hc := h.cap
 have HE := Hd hlen
 rw [<- hlen]
 clear h g hlen
 go_enter Tryz.func278, Tryz.ntmps278
 go_wp2_with fail
 go_loopw [5] (fun i wr => ∃ k m : Nat, i = .int .i64 ((k : Int) - 1) /\ k <= xs.length /\ xs.drop k = ys.drop k /\ wr = w.drewN m) (fun i _ => (intOf i + 1).toNat)
 case atStart => exact ⟨xs.length, 0, rfl, Nat.le_refl _, by rw [List.drop_length, HE.out, List.drop_length], rfl⟩
 case round =>
  obtain ⟨k, m, rfl, hk, hdrop, rfl⟩ := hrel
  have HD := Hd hdrop
  clear hdrop
  cases k with
  | zero =>
   have fin : YE (val xs) (val ys) = 0 := by
     have e : xs = ys := by simpa using HD.out
     rw [e]; exact cmpv_eq _
   have HF := Hd fin
   clear fin
   go_wp2
   go_ret
   exact ⟨by rw [HF.out]; rfl, ZT (Below.refl _ _) _⟩
  | succ k =>
   have h2 : k < ys.length := by rw [<- HE.out]; omega
   obtain ⟨ad, rfl, hbl, hcell⟩ := HX.out.reads.get (k := k) (by omega)
   obtain ⟨bd, rfl, hbl2, hcell2⟩ := HY.out.reads.get h2
   have a0 : (0 : Int) <= (k : Int) := by omega
   have a1 : (k : Int) < (xs.length : Int) := by omega
   have ae : ((k + 1 : Nat) : Int) - 1 = (k : Int) := by omega
   rw [ae]
   have hcase : xs[k] = ys[k] ∨ xs[k] < ys[k] ∨ ys[k] < xs[k] := by omega
   rcases hcase with he | he | he
   . have HQ := Hd he
     rw [<- he] at hcell2
     clear he ae
     generalize hz : xs[k] = z at hcell hcell2
     clear hz
     go_wp2_with fail
     go_quiet (fail)
     go_wp2_with fail
     go_quiet (fail)
     go_wp2_with fail
     go_roundw
     case rel => exact ⟨k, _, by go_num, by omega, drop_same (by omega) h2 HD.out HQ.out, rfl⟩
     case measure => simp [intOf]
   . have fin : YE (val xs) (val ys) = -1 := cmpv_lt (val_top HX.out.limbs (by omega) h2 HD.out he)
     have HF := Hd fin
     have hlt : (xs[k] : Int) < (ys[k] : Int) := by omega
     have hne : ((xs[k] : Int) == (ys[k] : Int)) = false := by simp; omega
     have hne2 : ((xs[k] : Int) != (ys[k] : Int)) = true := by simp; omega
     clear fin he ae
     generalize xs[k] = y at *
     generalize ys[k] = z at *
     go_wp2_with fail
     go_quiet (fail)
     go_wp2_with fail
     go_wp2
     go_ret
     exact ⟨by rw [HF.out]; rfl, by repeat (first | exact Below.refl _ _ | apply ZT)⟩
   . have fin : YE (val xs) (val ys) = 1 := cmpv_gt (val_top HY.out.limbs h2 (by omega) HD.out.symm he)
     have HF := Hd fin
     have hlt : (ys[k] : Int) < (xs[k] : Int) := by omega
     have hne : ((xs[k] : Int) == (ys[k] : Int)) = false := by simp; omega
     have hne2 : ((xs[k] : Int) != (ys[k] : Int)) = true := by simp; omega
     clear fin he ae
     generalize xs[k] = y at *
     generalize ys[k] = z at *
     go_wp2_with fail
     go_quiet (fail)
     go_wp2_with fail
     go_quiet (fail)
     go_wp2
     go_ret
     exact ⟨by rw [HF.out]; rfl, by repeat (first | exact Below.refl _ _ | apply ZT)⟩

theorem exact_size_apart (A B : Option Addr) (c d n m : Nat) (hne : n ≠ m) (hn : n <= 4611686018427387904) (hm : m <= 4611686018427387904) (w : World) :
  Calls Tryz.prog 160 #[.slice A n c, .slice B m d] w fun e w' => e = .returned (.int .i64 ((n : Int) - (m : Int))) /\ w = w' := by
 have h1 : ((n : Int) == (m : Int)) = false := by simp; omega
 have h2 : ((n : Int) != (m : Int)) = true := by simp; omega
 clear hne
 go_enter Tryz.func160, Tryz.ntmps160
 go_wp2
 go_ret
 exact ⟨rfl, rfl⟩
theorem ref_cmp_short (A B : Option Addr) (c d n m : Nat) (hlt : n < m) (w : World) :
  Calls Tryz.prog 278 #[.slice A n c, .slice B m d] w fun e w' => e = .returned (.int .i64 (-1)) /\ w = w' := by
 have h1 : ((n : Int) == (m : Int)) = false := by simp; omega
 have h2 : ((n : Int) != (m : Int)) = true := by simp; omega
 have h3 : (n : Int) < (m : Int) := by omega
 clear hlt
 go_enter Tryz.func278, Tryz.ntmps278
 go_wp2
 go_ret
 exact ⟨rfl, rfl⟩
theorem ref_cmp_longer (A B : Option Addr) (c d n m : Nat) (hlt : m < n) (w : World) :
  Calls Tryz.prog 278 #[.slice A n c, .slice B m d] w fun e w' => e = .returned (.int .i64 1) /\ w = w' := by
 have h1 : ((n : Int) == (m : Int)) = false := by simp; omega
 have h2 : ((n : Int) != (m : Int)) = true := by simp; omega
 have h3 : ¬ (n : Int) < (m : Int) := by omega
 clear hlt
 go_enter Tryz.func278, Tryz.ntmps278
 go_wp2
 go_ret
 exact ⟨rfl, rfl⟩

def SizeTold (xs ys : List Nat) (w : World) (e : Ending) (w' : World) : Prop :=
 ∃ z : Int, e = .returned (.int .i64 z) /\ -4611686018427387904 <= z /\ z <= 4611686018427387904 /\ (val xs < val ys -> z < 0) /\ (val xs = val ys -> z = 0) /\ (val ys < val xs -> 0 < z) /\ Below w.heap.size w w'

theorem exact_size_any (A B : Option Addr) (c d : Nat) (xs ys : List Nat) (hcx : ZU xs) (hcy : ZU ys) (hn : xs.length <= 4611686018427387904) (hm : ys.length <= 4611686018427387904) (w : World) (h : Zm w A c xs) (g : Zm w B d ys) :
   Calls Tryz.prog 160 #[.slice A xs.length c, .slice B ys.length d] w (SizeTold xs ys w) := by
 by_cases hl : xs.length = ys.length
 . refine (exact_size_same A B c d xs ys hl w h g).mono fun e w' ⟨he, hb⟩ => ⟨_, he, ?_, ?_, ?_, ?_, ?_, hb⟩
   . unfold YE; split <;> (try split) <;> omega
   . unfold YE; split <;> (try split) <;> omega
   . intro h1; rw [cmpv_lt h1]; omega
   . intro h1; rw [h1, cmpv_eq]
   . intro h1; rw [cmpv_gt h1]; omega
 . refine (exact_size_apart A B c d _ _ hl hn hm w).mono fun e w' ⟨he, hw⟩ => ⟨_, he, by omega, by omega, ?_, ?_, ?_, hw ▸ Below.refl _ _⟩
   . intro h1
     rcases Nat.lt_or_ge xs.length ys.length with h2 | h2
     . omega
     . have := JD g.limbs h.limbs hcx (show ys.length < xs.length by omega); omega
   . intro h1
     rcases Nat.lt_or_ge xs.length ys.length with h2 | h2
     . have := JD h.limbs g.limbs hcy h2; omega
     . have := JD g.limbs h.limbs hcx (show ys.length < xs.length by omega); omega
   . intro h1
     rcases Nat.lt_or_ge xs.length ys.length with h2 | h2
     . have := JD h.limbs g.limbs hcy h2; omega
     . omega

theorem Jn (A B : Option Addr) (c d : Nat) (xs ys : List Nat) (hcx : ZU xs) (hcy : ZU ys) (w : World) (h : Zm w A c xs) (g : Zm w B d ys) :
   Calls Tryz.prog 278 #[.slice A xs.length c, .slice B ys.length d] w fun e w' => e = .returned (.int .i64 (YE (val xs) (val ys))) /\ Below w.heap.size w w' := by
 by_cases hl : xs.length = ys.length
 . exact ref_cmp_same A B c d xs ys hl w h g
 . rcases Nat.lt_or_ge xs.length ys.length with h2 | h2
   . rw [cmpv_lt (JD h.limbs g.limbs hcy h2)]
     exact (ref_cmp_short A B c d _ _ h2 w).mono fun e w' ⟨he, hw⟩ => ⟨he, hw ▸ Below.refl _ _⟩
   . rw [cmpv_gt (JD g.limbs h.limbs hcx (show ys.length < xs.length by omega))]
     exact (ref_cmp_longer A B c d _ _ (by omega) w).mono fun e w' ⟨he, hw⟩ => ⟨he, hw ▸ Below.refl _ _⟩

theorem exact_Cmp_less (n1 n2 : Bool) (A B : Option Addr) (c d : Nat) (xs ys : List Nat) (a b : Int) (hab : a < b) (hs1 : sgnI n1 xs = a) (hs2 : sgnI n2 ys = b) (w : World) (h : Zm w A c xs) (g : Zm w B d ys) :
  Calls Tryz.prog 94 #[.agg #[.bool n1, .slice A xs.length c], .agg #[.bool n2, .slice B ys.length d]] w fun e w' => e = .returned (.int .i64 (-1)) /\ Below w.heap.size w w' := by
 have HS1 := Hd hs1
 have HS2 := Hd hs2
 have e1 : (a == b) = false := by simp; omega
 have e2 : (a != b) = true := by simp; omega
 clear hs1 hs2
 have p0 := (Zr.new w 24 (.bool n1) (.slice A xs.length c)).alloc (.cells #[.bool n2, .slice B ys.length d] 24)
 have q0 := Zr.new (w.alloc (.cells #[.bool n1, .slice A xs.length c] 24)) 24 (.bool n2) (.slice B ys.length d)
 have b0 := ((Below.refl w.heap.size w).alloc (Nat.le_refl _) (.cells #[.bool n1, .slice A xs.length c] 24)).alloc (by simp) (.cells #[.bool n2, .slice B ys.length d] 24)
 have hx := (h.alloc (.cells #[.bool n1, .slice A xs.length c] 24)).alloc (.cells #[.bool n2, .slice B ys.length d] 24)
 have hy := (g.alloc (.cells #[.bool n1, .slice A xs.length c] 24)).alloc (.cells #[.bool n2, .slice B ys.length d] 24)
 simp only [World.size_alloc] at q0
 go_enter Tryz.func94, Tryz.ntmps94
 go_wp2_with fail
 obtain ⟨W, E⟩ : ∃ W, W = (w.alloc (.cells #[.bool n1, .slice A xs.length c] 24)).alloc (.cells #[.bool n2, .slice B ys.length d] 24) := ⟨_, rfl⟩
 rw [<- E] at p0 q0 b0 hx hy ⊢
 clear E
 have D1 := fun (V : World) (hV : Below W.heap.size W V) => YO n1 A c xs V (hx.below hV)
 have D2 := fun (V : World) (hV : Below W.heap.size W V) => YO n2 B d ys V (hy.below hV)
 rw [HS1.out] at D1
 rw [HS2.out] at D2
 have H1 := Hd D1
 have H2 := Hd D2
 have HX := Hd hx
 have HY := Hd hy
 obtain ⟨l1, c0, c1, -, -⟩ := p0.facts
 obtain ⟨l2, d0, d1, -, -⟩ := q0.facts
 clear D1 D2 hx hy h g
 go_region_held3 (fun w' => Below W.heap.size W w' /\ ∀ b o, b < W.heap.size -> w'.cell? ⟨b, o, none⟩ = W.cell? ⟨b, o, none⟩)
  (first
   | exact ⟨(Below.refl _ _).drew, fun _ _ _ => rfl⟩
   | (obtain ⟨q, _⟩ := ‹Below W.heap.size W _ /\ _›; have q' := Zb q hbx; exact ⟨q', fun b o h => q'.cell (p := ⟨b, o, none⟩) h⟩))
  (first
   | (go_at_call 93; with_reducible refine (H1.out _ ?_).mono ?_; exact (‹Below W.heap.size W _ /\ _›).1; rintro e wx ⟨rfl, hbx⟩)
   | (go_at_call 93; with_reducible refine (H2.out _ ?_).mono ?_; exact (‹Below W.heap.size W _ /\ _›).1; rintro e wx ⟨rfl, hbx⟩))
 obtain ⟨q, _⟩ := ‹Below W.heap.size W _ /\ _›
 obtain ⟨w2, E⟩ : ∃ V, V = wx := ⟨_, rfl⟩
 rw [<- E] at q ⊢
 clear E hbx
 clear c0 c1 d0 d1
 go_wp2
 go_ret
 exact ⟨rfl, b0.trans (q.mono b0.size)⟩

theorem exact_Cmp_more (n1 n2 : Bool) (A B : Option Addr) (c d : Nat) (xs ys : List Nat) (a b : Int) (hab : b < a) (hs1 : sgnI n1 xs = a) (hs2 : sgnI n2 ys = b) (w : World) (h : Zm w A c xs) (g : Zm w B d ys) :
  Calls Tryz.prog 94 #[.agg #[.bool n1, .slice A xs.length c], .agg #[.bool n2, .slice B ys.length d]] w fun e w' => e = .returned (.int .i64 1) /\ Below w.heap.size w w' := by
 have HS1 := Hd hs1
 have HS2 := Hd hs2
 have e1 : (a == b) = false := by simp; omega
 have e2 : (a != b) = true := by simp; omega
 clear hs1 hs2
 have p0 := (Zr.new w 24 (.bool n1) (.slice A xs.length c)).alloc (.cells #[.bool n2, .slice B ys.length d] 24)
 have q0 := Zr.new (w.alloc (.cells #[.bool n1, .slice A xs.length c] 24)) 24 (.bool n2) (.slice B ys.length d)
 have b0 := ((Below.refl w.heap.size w).alloc (Nat.le_refl _) (.cells #[.bool n1, .slice A xs.length c] 24)).alloc (by simp) (.cells #[.bool n2, .slice B ys.length d] 24)
 have hx := (h.alloc (.cells #[.bool n1, .slice A xs.length c] 24)).alloc (.cells #[.bool n2, .slice B ys.length d] 24)
 have hy := (g.alloc (.cells #[.bool n1, .slice A xs.length c] 24)).alloc (.cells #[.bool n2, .slice B ys.length d] 24)
 simp only [World.size_alloc] at q0
 go_enter Tryz.func94, Tryz.ntmps94
 go_wp2_with fail
 obtain ⟨W, E⟩ : ∃ W, W = (w.alloc (.cells #[.bool n1, .slice A xs.length c] 24)).alloc (.cells #[.bool n2, .slice B ys.length d] 24) := ⟨_, rfl⟩
 rw [<- E] at p0 q0 b0 hx hy ⊢
 clear E
 have D1 := fun (V : World) (hV : Below W.heap.size W V) => YO n1 A c xs V (hx.below hV)
 have D2 := fun (V : World) (hV : Below W.heap.size W V) => YO n2 B d ys V (hy.below hV)
 rw [HS1.out] at D1
 rw [HS2.out] at D2
 have H1 := Hd D1
 have H2 := Hd D2
 have HX := Hd hx
 have HY := Hd hy
 obtain ⟨l1, c0, c1, -, -⟩ := p0.facts
 obtain ⟨l2, d0, d1, -, -⟩ := q0.facts
 clear D1 D2 hx hy h g
 go_region_held3 (fun w' => Below W.heap.size W w' /\ ∀ b o, b < W.heap.size -> w'.cell? ⟨b, o, none⟩ = W.cell? ⟨b, o, none⟩)
  (first
   | exact ⟨(Below.refl _ _).drew, fun _ _ _ => rfl⟩
   | (obtain ⟨q, _⟩ := ‹Below W.heap.size W _ /\ _›; have q' := Zb q hbx; exact ⟨q', fun b o h => q'.cell (p := ⟨b, o, none⟩) h⟩))
  (first
   | (go_at_call 93; with_reducible refine (H1.out _ ?_).mono ?_; exact (‹Below W.heap.size W _ /\ _›).1; rintro e wx ⟨rfl, hbx⟩)
   | (go_at_call 93; with_reducible refine (H2.out _ ?_).mono ?_; exact (‹Below W.heap.size W _ /\ _›).1; rintro e wx ⟨rfl, hbx⟩))
 obtain ⟨q, _⟩ := ‹Below W.heap.size W _ /\ _›
 obtain ⟨w2, E⟩ : ∃ V, V = wx := ⟨_, rfl⟩
 rw [<- E] at q ⊢
 clear E hbx
 clear c0 c1 d0 d1
 go_wp2
 go_ret
 exact ⟨rfl, b0.trans (q.mono b0.size)⟩

theorem exact_Cmp_same (n1 n2 : Bool) (A B : Option Addr) (c d : Nat) (xs ys : List Nat) (a : Int) (ha : a = -1 /\ n1 = true ∨ 0 <= a /\ n1 = false) (hs1 : sgnI n1 xs = a) (hs2 : sgnI n2 ys = a) (hcx : ZU xs) (hcy : ZU ys) (hn : xs.length <= 4611686018427387904) (hm : ys.length <= 4611686018427387904) (w : World) (h : Zm w A c xs) (g : Zm w B d ys) :
   Calls Tryz.prog 94 #[.agg #[.bool n1, .slice A xs.length c], .agg #[.bool n2, .slice B ys.length d]] w fun e w' => e = .returned (.int .i64 (if n1 then YE (val ys) (val xs) else YE (val xs) (val ys))) /\ Below w.heap.size w w' := by
 have HS1 := Hd hs1
 have HS2 := Hd hs2
 have e1 : (a == a) = true := by simp
 have e2 : (a != a) = false := by simp
 have HA := Hd ha
 clear hs1 hs2 ha
 have p0 := (Zr.new w 24 (.bool n1) (.slice A xs.length c)).alloc (.cells #[.bool n2, .slice B ys.length d] 24)
 have q0 := Zr.new (w.alloc (.cells #[.bool n1, .slice A xs.length c] 24)) 24 (.bool n2) (.slice B ys.length d)
 have b0 := ((Below.refl w.heap.size w).alloc (Nat.le_refl _) (.cells #[.bool n1, .slice A xs.length c] 24)).alloc (by simp) (.cells #[.bool n2, .slice B ys.length d] 24)
 have hx := (h.alloc (.cells #[.bool n1, .slice A xs.length c] 24)).alloc (.cells #[.bool n2, .slice B ys.length d] 24)
 have hy := (g.alloc (.cells #[.bool n1, .slice A xs.length c] 24)).alloc (.cells #[.bool n2, .slice B ys.length d] 24)
 simp only [World.size_alloc] at q0
 go_enter Tryz.func94, Tryz.ntmps94
 go_wp2_with fail
 obtain ⟨W, E⟩ : ∃ W, W = (w.alloc (.cells #[.bool n1, .slice A xs.length c] 24)).alloc (.cells #[.bool n2, .slice B ys.length d] 24) := ⟨_, rfl⟩
 rw [<- E] at p0 q0 b0 hx hy ⊢
 clear E
 have D1 := fun (V : World) (hV : Below W.heap.size W V) => YO n1 A c xs V (hx.below hV)
 have D2 := fun (V : World) (hV : Below W.heap.size W V) => YO n2 B d ys V (hy.below hV)
 rw [HS1.out] at D1
 rw [HS2.out] at D2
 have H1 := Hd D1
 have H2 := Hd D2
 have HX := Hd hx
 have HY := Hd hy
 obtain ⟨l1, c0, c1, -, -⟩ := p0.facts
 obtain ⟨l2, d0, d1, -, -⟩ := q0.facts
 clear D1 D2 hx hy h g
 go_region_held3 (fun w' => Below W.heap.size W w' /\ ∀ b o, b < W.heap.size -> w'.cell? ⟨b, o, none⟩ = W.cell? ⟨b, o, none⟩)
   (first
    | exact ⟨(Below.refl _ _).drew, fun _ _ _ => rfl⟩
    | (obtain ⟨q, _⟩ := ‹Below W.heap.size W _ /\ _›; have q' := Zb q hbx; exact ⟨q', fun b o h => q'.cell (p := ⟨b, o, none⟩) h⟩))
   (first
    | (go_at_call 93; with_reducible refine (H1.out _ ?_).mono ?_; exact (‹Below W.heap.size W _ /\ _›).1; rintro e wx ⟨rfl, hbx⟩)
    | (go_at_call 93; with_reducible refine (H2.out _ ?_).mono ?_; exact (‹Below W.heap.size W _ /\ _›).1; rintro e wx ⟨rfl, hbx⟩))
 obtain ⟨q, _⟩ := ‹Below W.heap.size W _ /\ _›
 obtain ⟨w2, E⟩ : ∃ V, V = wx := ⟨_, rfl⟩
 rw [<- E] at q ⊢
 clear E hbx
 clear c0 c1 d0 d1
 have hx2 := HX.out.below q
 have hy2 := HY.out.below q
 have p2 := p0.below q
 have q2 := q0.below q
 obtain ⟨k1, c0, c1, -, -⟩ := p2.facts
 obtain ⟨k2, d0, d1, -, -⟩ := q2.facts
 have b2 := b0.trans (q.mono b0.size)
 clear p0 q0 b0 q l1 l2 p2 q2 HX HY H1 H2
 go_wp2_with fail
 refine (exact_size_any A B c d xs ys hcx hcy hn hm _ hx2 hy2).mono ?_
 rintro e w3 ⟨z, rfl, hz1, hz2, t1, t2, t3, hb⟩
 have b3 := Zb b2 hb
 have c0' : w3.cell? ⟨w.heap.size, 0, none⟩ = some (.bool n1) := by rw [hb.cell k1]; exact c0
 clear hx2 hy2 c0 c1 d0 d1 hb b2
 have hcase : val xs < val ys ∨ val xs = val ys ∨ val ys < val xs := by omega
 cases n1 <;> rcases hcase with hc | hc | hc
 . have fin : YE (val xs) (val ys) = -1 := cmpv_lt hc
   have HF := Hd fin
   have hz := t1 hc
   clear fin t1 t2 t3 hc HA
   have hmx : max (-1) (min 1 z) = -1 := by omega
   have HM := Hd hmx
   clear hmx
   go_wp2
   go_ret
   exact ⟨by show _ = Ending.returned (.int .i64 (YE (val xs) (val ys))); rw [HF.out]; show Ending.returned (.int .i64 (max (-1) (min 1 z))) = _; rw [HM.out], b3⟩
 . have fin : YE (val xs) (val ys) = 0 := by rw [hc]; exact cmpv_eq _
   have HF := Hd fin
   have hz := t2 hc
   clear fin t1 t2 t3 hc HA
   subst hz
   go_wp2
   go_ret
   exact ⟨by show _ = Ending.returned (.int .i64 (YE (val xs) (val ys))); rw [HF.out]; rfl, b3⟩
 . have fin : YE (val xs) (val ys) = 1 := cmpv_gt hc
   have HF := Hd fin
   have hz := t3 hc
   clear fin t1 t2 t3 hc HA
   have hmx : max (-1) (min 1 z) = 1 := by omega
   have HM := Hd hmx
   clear hmx
   go_wp2
   go_ret
   exact ⟨by show _ = Ending.returned (.int .i64 (YE (val xs) (val ys))); rw [HF.out]; show Ending.returned (.int .i64 (max (-1) (min 1 z))) = _; rw [HM.out], b3⟩
 . have fin : YE (val ys) (val xs) = 1 := cmpv_gt hc
   have HF := Hd fin
   have hz := t1 hc
   clear fin t1 t2 t3 hc HA
   have hmx : max (-1) (min 1 (-z)) = 1 := by omega
   have HM := Hd hmx
   clear hmx
   go_wp2
   go_ret
   exact ⟨by show _ = Ending.returned (.int .i64 (YE (val ys) (val xs))); rw [HF.out]; show Ending.returned (.int .i64 (max (-1) (min 1 (-z)))) = _; rw [HM.out], b3⟩
 . have fin : YE (val ys) (val xs) = 0 := by rw [hc]; exact cmpv_eq _
   have HF := Hd fin
   have hz := t2 hc
   clear fin t1 t2 t3 hc HA
   subst hz
   go_wp2
   go_ret
   exact ⟨by show _ = Ending.returned (.int .i64 (YE (val ys) (val xs))); rw [HF.out]; rfl, b3⟩
 . have fin : YE (val ys) (val xs) = -1 := cmpv_lt hc
   have HF := Hd fin
   have hz := t3 hc
   clear fin t1 t2 t3 hc HA
   have hmx : max (-1) (min 1 (-z)) = -1 := by omega
   have HM := Hd hmx
   clear hmx
   go_wp2
   go_ret
   exact ⟨by show _ = Ending.returned (.int .i64 (YE (val ys) (val xs))); rw [HF.out]; show Ending.returned (.int .i64 (max (-1) (min 1 (-z)))) = _; rw [HM.out], b3⟩

theorem ref_Cmp_less (n1 n2 : Bool) (A B : Option Addr) (c d : Nat) (xs ys : List Nat) (a b : Int) (hab : a < b) (hs1 : sgnI n1 xs = a) (hs2 : sgnI n2 ys = b) (w : World) (h : Zm w A c xs) (g : Zm w B d ys) :
  Calls Tryz.prog 260 #[.agg #[.bool n1, .slice A xs.length c], .agg #[.bool n2, .slice B ys.length d]] w fun e w' => e = .returned (.int .i64 (-1)) /\ Below w.heap.size w w' := by
 have HS1 := Hd hs1
 have HS2 := Hd hs2
 have e1 : (a == b) = false := by simp; omega
 have e2 : (a != b) = true := by simp; omega
 clear hs1 hs2
 have p0 := (Zr.new w 24 (.bool n1) (.slice A xs.length c)).alloc (.cells #[.bool n2, .slice B ys.length d] 24)
 have q0 := Zr.new (w.alloc (.cells #[.bool n1, .slice A xs.length c] 24)) 24 (.bool n2) (.slice B ys.length d)
 have b0 := ((Below.refl w.heap.size w).alloc (Nat.le_refl _) (.cells #[.bool n1, .slice A xs.length c] 24)).alloc (by simp) (.cells #[.bool n2, .slice B ys.length d] 24)
 have hx := (h.alloc (.cells #[.bool n1, .slice A xs.length c] 24)).alloc (.cells #[.bool n2, .slice B ys.length d] 24)
 have hy := (g.alloc (.cells #[.bool n1, .slice A xs.length c] 24)).alloc (.cells #[.bool n2, .slice B ys.length d] 24)
 simp only [World.size_alloc] at q0
 go_enter Tryz.func260, Tryz.ntmps260
 go_wp2_with fail
 obtain ⟨W, E⟩ : ∃ W, W = (w.alloc (.cells #[.bool n1, .slice A xs.length c] 24)).alloc (.cells #[.bool n2, .slice B ys.length d] 24) := ⟨_, rfl⟩
 rw [<- E] at p0 q0 b0 hx hy ⊢
 clear E
 have D1 := fun (V : World) (hV : Below W.heap.size W V) => Xa n1 A c xs V (hx.below hV)
 have D2 := fun (V : World) (hV : Below W.heap.size W V) => Xa n2 B d ys V (hy.below hV)
 rw [HS1.out] at D1
 rw [HS2.out] at D2
 have H1 := Hd D1
 have H2 := Hd D2
 have HX := Hd hx
 have HY := Hd hy
 obtain ⟨l1, c0, c1, -, -⟩ := p0.facts
 obtain ⟨l2, d0, d1, -, -⟩ := q0.facts
 clear D1 D2 hx hy h g
 refine (H1.out _ (Below.refl _ _)).mono ?_
 rintro e w1 ⟨rfl, q1⟩
 have p1 := p0.below q1
 have q2 := q0.below q1
 clear c0 c1 d0 d1
 obtain ⟨k1, c0, c1, -, -⟩ := p1.facts
 obtain ⟨k2, d0, d1, -, -⟩ := q2.facts
 go_wp2_with fail
 refine (H2.out _ q1).mono ?_
 rintro e w2 ⟨rfl, q3⟩
 have q := Zb q1 q3
 clear q1 q3 c0 c1 d0 d1 p1 q2 k1 k2
 go_wp2
 go_ret
 exact ⟨rfl, b0.trans (q.mono b0.size)⟩

theorem ref_Cmp_more (n1 n2 : Bool) (A B : Option Addr) (c d : Nat) (xs ys : List Nat) (a b : Int) (hab : b < a) (hs1 : sgnI n1 xs = a) (hs2 : sgnI n2 ys = b) (w : World) (h : Zm w A c xs) (g : Zm w B d ys) :
  Calls Tryz.prog 260 #[.agg #[.bool n1, .slice A xs.length c], .agg #[.bool n2, .slice B ys.length d]] w fun e w' => e = .returned (.int .i64 1) /\ Below w.heap.size w w' := by
 have HS1 := Hd hs1
 have HS2 := Hd hs2
 have e1 : (a == b) = false := by simp; omega
 have e2 : (a != b) = true := by simp; omega
 clear hs1 hs2
 have p0 := (Zr.new w 24 (.bool n1) (.slice A xs.length c)).alloc (.cells #[.bool n2, .slice B ys.length d] 24)
 have q0 := Zr.new (w.alloc (.cells #[.bool n1, .slice A xs.length c] 24)) 24 (.bool n2) (.slice B ys.length d)
 have b0 := ((Below.refl w.heap.size w).alloc (Nat.le_refl _) (.cells #[.bool n1, .slice A xs.length c] 24)).alloc (by simp) (.cells #[.bool n2, .slice B ys.length d] 24)
 have hx := (h.alloc (.cells #[.bool n1, .slice A xs.length c] 24)).alloc (.cells #[.bool n2, .slice B ys.length d] 24)
 have hy := (g.alloc (.cells #[.bool n1, .slice A xs.length c] 24)).alloc (.cells #[.bool n2, .slice B ys.length d] 24)
 simp only [World.size_alloc] at q0
 go_enter Tryz.func260, Tryz.ntmps260
 go_wp2_with fail
 obtain ⟨W, E⟩ : ∃ W, W = (w.alloc (.cells #[.bool n1, .slice A xs.length c] 24)).alloc (.cells #[.bool n2, .slice B ys.length d] 24) := ⟨_, rfl⟩
 rw [<- E] at p0 q0 b0 hx hy ⊢
 clear E
 have D1 := fun (V : World) (hV : Below W.heap.size W V) => Xa n1 A c xs V (hx.below hV)
 have D2 := fun (V : World) (hV : Below W.heap.size W V) => Xa n2 B d ys V (hy.below hV)
 rw [HS1.out] at D1
 rw [HS2.out] at D2
 have H1 := Hd D1
 have H2 := Hd D2
 have HX := Hd hx
 have HY := Hd hy
 obtain ⟨l1, c0, c1, -, -⟩ := p0.facts
 obtain ⟨l2, d0, d1, -, -⟩ := q0.facts
 clear D1 D2 hx hy h g
 refine (H1.out _ (Below.refl _ _)).mono ?_
 rintro e w1 ⟨rfl, q1⟩
 have p1 := p0.below q1
 have q2 := q0.below q1
 clear c0 c1 d0 d1
 obtain ⟨k1, c0, c1, -, -⟩ := p1.facts
 obtain ⟨k2, d0, d1, -, -⟩ := q2.facts
 go_wp2_with fail
 refine (H2.out _ q1).mono ?_
 rintro e w2 ⟨rfl, q3⟩
 have q := Zb q1 q3
 clear q1 q3 c0 c1 d0 d1 p1 q2 k1 k2
 go_wp2
 go_ret
 exact ⟨rfl, b0.trans (q.mono b0.size)⟩

theorem ref_Cmp_same (n1 n2 : Bool) (A B : Option Addr) (c d : Nat) (xs ys : List Nat) (a : Int) (ha : a = -1 /\ n1 = true ∨ 0 <= a /\ n1 = false) (hs1 : sgnI n1 xs = a) (hs2 : sgnI n2 ys = a) (hcx : ZU xs) (hcy : ZU ys) (w : World) (h : Zm w A c xs) (g : Zm w B d ys) :
   Calls Tryz.prog 260 #[.agg #[.bool n1, .slice A xs.length c], .agg #[.bool n2, .slice B ys.length d]] w fun e w' => e = .returned (.int .i64 (if n1 then YE (val ys) (val xs) else YE (val xs) (val ys))) /\ Below w.heap.size w w' := by
 have HS1 := Hd hs1
 have HS2 := Hd hs2
 have e1 : (a == a) = true := by simp
 have e2 : (a != a) = false := by simp
 have HA := Hd ha
 clear hs1 hs2 ha
 have p0 := (Zr.new w 24 (.bool n1) (.slice A xs.length c)).alloc (.cells #[.bool n2, .slice B ys.length d] 24)
 have q0 := Zr.new (w.alloc (.cells #[.bool n1, .slice A xs.length c] 24)) 24 (.bool n2) (.slice B ys.length d)
 have b0 := ((Below.refl w.heap.size w).alloc (Nat.le_refl _) (.cells #[.bool n1, .slice A xs.length c] 24)).alloc (by simp) (.cells #[.bool n2, .slice B ys.length d] 24)
 have hx := (h.alloc (.cells #[.bool n1, .slice A xs.length c] 24)).alloc (.cells #[.bool n2, .slice B ys.length d] 24)
 have hy := (g.alloc (.cells #[.bool n1, .slice A xs.length c] 24)).alloc (.cells #[.bool n2, .slice B ys.length d] 24)
 simp only [World.size_alloc] at q0
 go_enter Tryz.func260, Tryz.ntmps260
 go_wp2_with fail
 obtain ⟨W, E⟩ : ∃ W, W = (w.alloc (.cells #[.bool n1, .slice A xs.length c] 24)).alloc (.cells #[.bool n2, .slice B ys.length d] 24) := ⟨_, rfl⟩
 rw [<- E] at p0 q0 b0 hx hy ⊢
 clear E
 have D1 := fun (V : World) (hV : Below W.heap.size W V) => Xa n1 A c xs V (hx.below hV)
 have D2 := fun (V : World) (hV : Below W.heap.size W V) => Xa n2 B d ys V (hy.below hV)
 rw [HS1.out] at D1
 rw [HS2.out] at D2
 have H1 := Hd D1
 have H2 := Hd D2
 have HX := Hd hx
 have HY := Hd hy
 obtain ⟨l1, c0, c1, -, -⟩ := p0.facts
 obtain ⟨l2, d0, d1, -, -⟩ := q0.facts
 clear D1 D2 hx hy h g
 refine (H1.out _ (Below.refl _ _)).mono ?_
 rintro e w1 ⟨rfl, q1⟩
 have p1 := p0.below q1
 have q2 := q0.below q1
 clear c0 c1 d0 d1
 obtain ⟨k1, c0, c1, -, -⟩ := p1.facts
 obtain ⟨k2, d0, d1, -, -⟩ := q2.facts
 go_wp2_with fail
 refine (H2.out _ q1).mono ?_
 rintro e w2 ⟨rfl, q3⟩
 have q := Zb q1 q3
 clear q1 q3 c0 c1 d0 d1 p1 q2 k1 k2
 have hx2 := HX.out.below q
 have hy2 := HY.out.below q
 have p2 := p0.below q
 have q2 := q0.below q
 obtain ⟨k1, c0, c1, -, -⟩ := p2.facts
 obtain ⟨k2, d0, d1, -, -⟩ := q2.facts
 have b2 := b0.trans (q.mono b0.size)
 clear p0 q0 b0 q l1 l2 p2 q2 HX HY H1 H2
 go_wp2_with fail
 refine (Jn A B c d xs ys hcx hcy _ hx2 hy2).mono ?_
 rintro e w3 ⟨rfl, hb⟩
 have b3 := Zb b2 hb
 clear hx2 hy2 c0 c1 d0 d1 hb b2
 rcases HA.out with ⟨rfl, rfl⟩ | ⟨hpos, rfl⟩
 . have fin : wrap64 (-YE (val xs) (val ys)) = YE (val ys) (val xs) := by
    unfold YE wrap64; split <;> (try split) <;> (try split) <;> omega
   have HF := Hd fin
   clear fin HA
   go_wp2
   go_ret
   exact ⟨by show _ = Ending.returned (.int .i64 (YE (val ys) (val xs))); rw [<- HF.out]; rfl, b3⟩
 . clear HA
   go_wp2
   go_ret
   exact ⟨rfl, b3⟩

def Zv (neg : Bool) (xs : List Nat) : Int := if neg then -(val xs : Int) else val xs
def Jt (a b : Int) : Int := if a < b then -1 else if b < a then 1 else 0
theorem cmpz_lt {a b : Int} (h : a < b) : Jt a b = -1 := by simp [Jt, h]
theorem cmpz_gt {a b : Int} (h : b < a) : Jt a b = 1 := by
 unfold Jt; rw [if_neg (by omega), if_pos h]
end Go.Proofs.YtdonecnhdkjniaaGreatDoor
