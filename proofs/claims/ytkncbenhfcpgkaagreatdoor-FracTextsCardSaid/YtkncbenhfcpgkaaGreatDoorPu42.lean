/- Several texts in one: TurnedRq1, FLongq1, FAnsweredq1, RefDecLaw. -/
import Derived.Test.YtkncbenhfcpgkaaGreatDoorPu26
import Derived.Test.YtkncbenhfcpgkaaGreatDoorPuHd
import Derived.Test.YtkncbenhfcpgkaaGreatDoorPu25
import Derived.Test.YtkncbenhfcpgkaaGreatDoorPu17
import Derived.Test.YtkncbenhfcpgkaaGreatDoorPu39
import Derived.Test.YtkncbenhfcpgkaaGreatDoorPu15
import Derived.Test.YtkncbenhfcpgkaaGreatDoorPu16
import Derived.Test.YtkncbenhfcpgkaaGreatDoorPu24
import Derived.Test.YtkncbenhfcpgkaaGreatDoorPu04
import Derived.Test.YtkncbenhfcpgkaaGreatDoorPu05
import Derived.Test.YtkncbenhfcpgkaaGreatDoorPu08
import Derived.Test.YtkncbenhfcpgkaaGreatDoorPu23
import Derived.Test.YtkncbenhfcpgkaaGreatDoorPu03
import Derived.Test.YtkncbenhfcpgkaaGreatDoorPu02
import Derived.Test.YtkncbenhfcpgkaaGreatDoorPu01
import Derived.Test.YtkncbenhfcpgkaaGreatDoorPu22
import Derived.Test.YtkncbenhfcpgkaaGreatDoorPu07
import Derived.Test.YtkncbenhfcpgkaaGreatDoorPu06
import Derived.Test.YtkncbenhfcpgkaaGreatDoorPu14
import Derived.Test.YtkncbenhfcpgkaaGreatDoorPu11
import Derived.Test.YtkncbenhfcpgkaaGreatDoorPu13
import Derived.Test.YtkncbenhfcpgkaaGreatDoorPu12
import Derived.Test.YtkncbenhfcpgkaaGreatDoorPu18
import Derived.Test.YtkncbenhfcpgkaaGreatDoorPu19
import Derived.Test.YtkncbenhfcpgkaaGreatDoorPu09
import Derived.Test.YtkncbenhfcpgkaaGreatDoorPu28
import Derived.Test.YtkncbenhfcpgkaaGreatDoorPu27
import Derived.Test.YtkncbenhfcpgkaaGreatDoorPu31
set_option maxRecDepth 100000
set_option maxHeartbeats 8000000
/- turned of the references: a number times -1. (Written by wip/frac/genturned.py.) -/
namespace Go.Proofs.YtkncbenhfcpgkaaGreatDoor
open Go.RowKit

theorem rturned (x z : Int) (A : Option Addr) (c : Nat) (w : World) (h_x : Raw w A c (natL x.natAbs)) (hx : lz x ≤ 400000000) (hz : z = -x) :
    Calls Tryz.prog 206 #[.agg #[.bool (decide (x < 0)), .slice A (natL x.natAbs).length c]] w (RetInt w.heap.size w z) := by
  obtain ⟨n0, hn0⟩ : ∃ k : Int, k = 0 := ⟨_, rfl⟩
  have H0 := Hd hn0
  have HZ := Hd (show z = n0 - x from by rw [hz, hn0]; omega)
  have hl0 : lz n0 ≤ 400000000 := by rw [hn0]; decide
  clear hz hn0
  have b0 := (((Below.refl w.heap.size w).alloc (Nat.le_refl _) (.cells #[.bool (decide (x < 0)), .slice A (natL x.natAbs).length c] 24)).alloc (by simp) (.cells #[.bool false, .slice none 0 0] 24))
  have p0 := (Pair.new w 24 (.bool (decide (x < 0))) (.slice A (natL x.natAbs).length c)).alloc (.cells #[.bool false, .slice none 0 0] 24)
  have p1 := Pair.new (w.alloc (.cells #[.bool (decide (x < 0)), .slice A (natL x.natAbs).length c] 24)) 24 (.bool false) (.slice none 0 0)
  simp only [World.size_alloc] at p1
  have V_x := Hd (NV.of h_x b0 p0)
  have P_r0 := Hd p1
  have RW_x := Hd h_x
  have HBW := Hd b0
  clear b0 p0 p1 h_x
  go_enter Tryz.func206, Tryz.ntmps206
  obtain ⟨W, E⟩ : ∃ W, W = ((w.alloc (.cells #[.bool (decide (x < 0)), .slice A (natL x.natAbs).length c] 24)).alloc (.cells #[.bool false, .slice none 0 0] 24)) := ⟨_, rfl⟩
  go_upto_region 1 with fail
  rw [← E] at V_x P_r0 HBW ⊢
  clear E
  have hsz := P_r0.out.blk.lt
  go_wp2_with fail
  refine wp_region_free [.any false (fun u V => IntOwn V 0 u n0) [], .val (.agg #[.bool (decide (x < 0)), .slice A (natL x.natAbs).length c]) [], .any false (fun u V => IntOwn V w.heap.size u z) [0], .old (w.heap.size + 1) 24 #[.bool false, .slice none 0 0] 0 2 2 []] (w.heap.size + 1) W [24] (fun _ _ => False) _ mixedOrders2 (by omega) (Below.refl _ _) (KeptV.refl _ _ _) rfl (by kernel_rfl) (by kernel_rfl) (by kernel_rfl) (by kernel_rfl) (by kernel_rfl) (by kernel_rfl) (by kernel_rfl) (by kernel_rfl) rfl (by simp [oldsF]) ?_ ?_ ?_ ?_
  · simp only [StableF, and_true]
    exact ⟨fun u V V' h k => h.kept k (by decide), fun u V V' h k => h.kept k (by decide)⟩
  · simp only [OldsF, and_true]
    exact ⟨Nat.le_refl _, by omega, P_r0.out.blk, by simp⟩
  · simp (maxSteps := 4000000) [StepsF, DepF, freeAct, fill, pairs]
    repeat' (first | apply And.intro | (intro (u : Value)) | (intro (u : Nat)))
    all_goals try exact ⟨_, _, _, rfl, rfl, rfl, rfl, intInfo⟩
    all_goals first
    | (intro V hV hK
       have px := V_x.out.pair.blk.below hV (Nat.lt_succ_self _)
       obtain ⟨-, a_x, b_x, -, -⟩ := (Pair.mk px).facts
       clear hV hK px
       go_simp
       first
       | exact Below.refl _ _
       | ((with_reducible refine (rof 0 n0 H0.out (by decide) (by decide) V).mono ?_); rintro e w' ⟨v, rfl, hv, hb⟩; exact ⟨hv.base (Nat.zero_le _), hb⟩))
    | (intro V hV hK hu
       obtain ⟨A', c', rfl, hr⟩ := hu.raw
       have r2 := Hd hr
       have rx := Hd (RW_x.out.below (HBW.out.trans (hV.mono (by omega))))
       have hvs : w.heap.size ≤ V.heap.size := by have := hK.size; omega
       clear hV hK hu hr
       go_simp
       (with_reducible refine (rminus n0 x z A' A c' c V r2.out rx.out (by omega) (by omega) HZ.out).mono ?_)
       rintro e w' ⟨v, rfl, hv, hb⟩
       exact ⟨hv.base hvs, hb⟩)
    | exact fun _ _ _ (h : IntOwn _ _ _ _) => h.cells
  · simp [EndF, FactsF, freeAct, fill, pairs]
    intro u1 u2 V hV hK h1 h2 bq _ _ _
    obtain ⟨A2, c2, rfl, -⟩ := h2.raw
    simp [setAll, Value.cells] at bq
    have k0 := bq.cell 0
    have k1 := bq.cell 1
    simp at k0 k1
    have HO := Hd h2
    have HB := Hd (HBW.out.trans (hV.mono (by omega)))
    clear h1 h2 hV hK bq
    go_wp2_with fail
    exact bodyPost_ret (by simp [results, Tryz.results206, go_sem, k0, k1]) rfl ⟨_, rfl, HO.out, HB.out⟩
/- Long and Answer of package ratio at one fraction. (Written by wip/frac/genflong.py.) -/

theorem ratio_Answer_true (b1 b2 : Bool) (A B : Option Addr) (n c m e0 g : Nat) (hn : n ≤ 9223372036854775807) (hm : m ≤ 9223372036854775807) (hb : (decide (2048 < n) || decide (2048 < m)) = true) (w : World) (q : Quad w g (.bool b1) (.slice A n c) (.bool b2) (.slice B m e0)) :
    Calls Tryz.prog 171 #[.slice (some ⟨g, 0, none⟩) 1 1] w fun e w' => e = .returned (.int .i64 4) ∧ Below w.heap.size w w' := by
  have C := ratio_Long_any b1 b2 A B n c m e0 g hn hm w q
  rw [hb] at C
  have H := Hd C
  clear C hb q
  go_enter Tryz.func171, Tryz.ntmps171
  go_wp2_with (go_at_call 205; with_reducible refine H.out.mono ?_; rintro e w1 ⟨rfl, hb⟩)
  go_ret
  exact ⟨rfl, hb⟩

/- answered of package frac. -/

theorem frac_answered_long (n d : Int) (A B : Option Addr) (c e0 : Nat) (w : World) (h : Raw w A c (natL n.natAbs)) (g : Raw w B e0 (natL d.natAbs)) (hl : 2048 < lz n ∨ 2048 < lz d) :
    Calls Tryz.prog 101 #[.agg #[.bool (decide (n < 0)), .slice A (natL n.natAbs).length c, .bool (decide (d < 0)), .slice B (natL d.natAbs).length e0]] w (RetFracOwn2 w.heap.size w 0 0 4) := by
  have px := (Quad.new w (.bool (decide (n < 0))) (.slice A (natL n.natAbs).length c) (.bool (decide (d < 0))) (.slice B (natL d.natAbs).length e0)).alloc (.cells #[.bool false, .slice none 0 0, .bool false, .slice none 0 0] 56)
  have pr := Quad.new (w.alloc (.cells #[.bool (decide (n < 0)), .slice A (natL n.natAbs).length c, .bool (decide (d < 0)), .slice B (natL d.natAbs).length e0] 56)) (.bool false) (.slice none 0 0) (.bool false) (.slice none 0 0)
  have b0 := ((Below.refl w.heap.size w).alloc (Nat.le_refl _) (.cells #[.bool (decide (n < 0)), .slice A (natL n.natAbs).length c, .bool (decide (d < 0)), .slice B (natL d.natAbs).length e0] 56)).alloc (by simp) (.cells #[.bool false, .slice none 0 0, .bool false, .slice none 0 0] 56)
  simp only [World.size_alloc] at pr
  have hn' : (natL n.natAbs).length ≤ 9223372036854775807 := by have := h.cap; have := h.most; omega
  have hd' : (natL d.natAbs).length ≤ 9223372036854775807 := by have := g.cap; have := g.most; omega
  have H1 := Hd (fun (V : World) (g' : Nat) (hg : V.heap.size = g') => ratio_Answer_true (decide (n < 0)) (decide (d < 0)) A B (natL n.natAbs).length c (natL d.natAbs).length e0 g' hn' hd' (by rcases hl with hl | hl <;> unfold lz at hl <;> simp [hl]) (V.alloc (.cells #[.bool (decide (n < 0)), .slice A (natL n.natAbs).length c, .bool (decide (d < 0)), .slice B (natL d.natAbs).length e0] 56)) (by subst hg; exact Quad.new _ _ _ _ _))
  have PX := Hd px
  have PR := Hd pr
  have B0 := Hd b0
  clear px pr b0 h g hl hn' hd'
  go_enter Tryz.func101, Tryz.ntmps101
  go_wp2_with (go_at_call 171; with_reducible refine (H1.out _ _ (by simp)).mono ?_; rintro e w1 ⟨rfl, hb⟩; have pr2 := (PR.out.alloc _).below hb; have B1 := belowTo (B0.out.alloc B0.out.size _) hb; have hl0 := B0.out.size; obtain ⟨l2, y0, y1, y2, y3, f0, f1, f2, f3⟩ := pr2.facts)
  have hq := pr2.store (.bool false) (.slice none 0 0) (.bool false) (.slice none 0 0)
  obtain ⟨_, k0, k1, k2, k3, _⟩ := hq.facts
  exact bodyPost_ret (by simp [results, Tryz.results101, go_sem, k0, k1, k2, k3]) rfl ⟨_, rfl, FracOwn.nought _ _, below4 B1 (by omega) _ _ _ _⟩
/- Decimal digits, the lowest ahead, as the references write them: plain Lean. -/

def ldig : Nat → Nat → List UInt8
  | 0, _ => []
  | k + 1, c => UInt8.ofNat (48 + c % 10) :: ldig k (c / 10)
theorem ldig_length : ∀ (k c : Nat), (ldig k c).length = k
  | 0, _ => rfl
  | k + 1, c => by simp [ldig, ldig_length k]
theorem ldig_pad : ∀ (k c : Nat), ldig k c = (padN k c).reverse
  | 0, _ => rfl
  | k + 1, c => by rw [ldig, padN, List.reverse_append, ldig_pad k]; rfl
theorem ldig_more (k p : Nat) (hk : 0 < k) : ldig k p = UInt8.ofNat (48 + p % 10) :: ldig (k - 1) (p / 10) := by
  obtain ⟨j, rfl⟩ : ∃ j, k = j + 1 := ⟨k - 1, by omega⟩
  rfl
def lchunks (cs : List Nat) : List UInt8 := cs.flatMap fun c => ldig 9 c
theorem lchunks_length (cs : List Nat) : (lchunks cs).length = 9 * cs.length := by
  unfold lchunks
  induction cs with
  | nil => rfl
  | cons c cs ih => rw [List.flatMap_cons, List.length_append, ldig_length, ih, List.length_cons]; omega
theorem lchunks_text : ∀ (v : Nat), v ≠ 0 → ∃ z, lchunks (chunks v) = (Lib.decDigits v).reverse ++ List.replicate z 48 := by
  intro v
  induction v using Nat.strongRecOn with
  | ind v ih =>
    intro h
    rw [chunks_cons h]
    have e0 : lchunks (v % 1000000000 :: chunks (v / 1000000000)) = (padN 9 (v % 1000000000)).reverse ++ lchunks (chunks (v / 1000000000)) := by
      unfold lchunks
      rw [List.flatMap_cons, ldig_pad]
    rw [e0]
    by_cases h2 : v / 1000000000 = 0
    · refine ⟨9 - (Lib.decDigits v).length, ?_⟩
      rw [h2, chunks_nil, Nat.mod_eq_of_lt (by omega), pad9 v (by omega)]
      simp [lchunks]
    · obtain ⟨z, hz⟩ := ih _ (by omega) h2
      refine ⟨z, ?_⟩
      rw [hz, dec_nine (v := v) (by omega), List.reverse_append, List.append_assoc]
theorem dec_head : ∀ (v : Nat), v ≠ 0 → ∃ d r, Lib.decDigits v = d :: r ∧ d ≠ 48 := by
  intro v
  induction v using Nat.strongRecOn with
  | ind v ih =>
    intro h
    rcases Nat.lt_or_ge v 10 with h1 | h1
    · refine ⟨UInt8.ofNat (48 + v), [], Lib.decDigits_one h1, fun e => ?_⟩
      have := congrArg UInt8.toNat e
      simp at this
      omega
    · obtain ⟨d, r, e, hd⟩ := ih (v / 10) (by omega) (by omega)
      exact ⟨d, r ++ [UInt8.ofNat (48 + v % 10)], by rw [dec_last h1, e]; rfl, hd⟩
def turned8 (xs : List UInt8) (i : Nat) : List UInt8 := (xs.reverse.take i) ++ ((xs.drop i).take (xs.length - 2 * i)) ++ (xs.reverse.drop (xs.length - i))
end Go.Proofs.YtkncbenhfcpgkaaGreatDoor
