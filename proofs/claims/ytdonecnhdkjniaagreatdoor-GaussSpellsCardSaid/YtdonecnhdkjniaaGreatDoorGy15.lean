/- Several texts in one: Turned, Lowest, LowestOwn, Trees, Copy. -/
import Derived.Test.YtdonecnhdkjniaaGreatDoorGy14
set_option maxRecDepth 100000
set_option maxHeartbeats 8000000
namespace Go.Proofs.YtdonecnhdkjniaaGreatDoor
open Go.RowKit

theorem eturned (x z : Int) (A : Option Addr) (c : Nat) (w : World) (h_x : Zr w A c (Za x.natAbs)) (hx : lz x <= 400000000) (hz : z = -x) :
   Calls Tryz.prog 210 #[.agg #[.bool (decide (x < 0)), .slice A (Za x.natAbs).length c]] w (Z1 w.heap.size w z) := by
 obtain ⟨n0, hn0⟩ : ∃ k : Int, k = 0 := ⟨_, rfl⟩
 have H0 := Hd hn0
 have HZ := Hd (show z = n0 - x from by rw [hz, hn0]; omega)
 have hl0 : lz n0 <= 400000000 := by rw [hn0]; decide
 clear hz hn0
 have b0 := (((Below.refl w.heap.size w).alloc (Nat.le_refl _) (.cells #[.bool (decide (x < 0)), .slice A (Za x.natAbs).length c] 24)).alloc (by simp) (.cells #[.bool false, .slice none 0 0] 24))
 have p0 := (Zp.new w 24 (.bool (decide (x < 0))) (.slice A (Za x.natAbs).length c)).alloc (.cells #[.bool false, .slice none 0 0] 24)
 have p1 := Zp.new (w.alloc (.cells #[.bool (decide (x < 0)), .slice A (Za x.natAbs).length c] 24)) 24 (.bool false) (.slice none 0 0)
 simp only [World.size_alloc] at p1
 have V_x := Hd (NV.of h_x b0 p0)
 have P_r0 := Hd p1
 have RW_x := Hd h_x
 have HBW := Hd b0
 clear b0 p0 p1 h_x
 go_enter Tryz.func210, Tryz.ntmps210
 obtain ⟨W, E⟩ : ∃ W, W = ((w.alloc (.cells #[.bool (decide (x < 0)), .slice A (Za x.natAbs).length c] 24)).alloc (.cells #[.bool false, .slice none 0 0] 24)) := ⟨_, rfl⟩
 go_upto_region 1 with fail
 rw [<- E] at V_x P_r0 HBW ⊢
 clear E
 have hsz := P_r0.out.blk.lt
 go_wp2_with fail
 refine Zf [.any false (fun u V => Zc V 0 u n0) [], .val (.agg #[.bool (decide (x < 0)), .slice A (Za x.natAbs).length c]) [], .any false (fun u V => Zc V w.heap.size u z) [0], .old (w.heap.size + 1) 24 #[.bool false, .slice none 0 0] 0 2 2 []] (w.heap.size + 1) W [24] (fun _ _ => False) _ Zg (by omega) (Below.refl _ _) (Zq.refl _ _ _) rfl ?_ ?_ ?_ ?_ ?_ ?_ ?_ ?_ rfl (by simp [ZH]) ?_ ?_ ?_ ?_
 iterate 8 kernel_rfl
 . simp only [Zu, and_true]
   exact ⟨fun u V V' h k => h.kept k (by decide), fun u V V' h k => h.kept k (by decide)⟩
 . simp only [ZR, and_true]
   exact ⟨Nat.le_refl _, by omega, P_r0.out.blk, by simp⟩
 . simp (maxSteps := 4000000) [Zz, Yj, Zh, ZA, Zl]
   repeat' (first | apply And.intro | (intro (u : Value)) | (intro (u : Nat)))
   all_goals try exact ⟨_, _, _, rfl, rfl, rfl, rfl, intInfo⟩
   all_goals first
   | (intro V hV hK
      have px := V_x.out.pair.blk.below hV (Nat.lt_succ_self _)
      obtain ⟨-, a_x, b_x, -, -⟩ := (Zp.mk px).facts
      clear hV hK px
      go_simp
      first
      | exact Below.refl _ _
      | ((with_reducible refine (eof 0 n0 H0.out (by decide) (by decide) V).mono ?_); rintro _ _ ⟨_, rfl, x, y⟩; exact ⟨x.base (Nat.zero_le _), y⟩))
   | (intro V hV hK hu
      obtain ⟨A', c', rfl, hr⟩ := hu.raw
      have r2 := Hd hr
      have rx := Hd (RW_x.out.below (HBW.out.trans (hV.mono (by omega))))
      have hvs : w.heap.size <= V.heap.size := by have := hK.size; omega
      clear hV hK hu hr
      go_simp
      (with_reducible refine (eminus n0 x z A' A c' c V r2.out rx.out (by omega) (by omega) HZ.out).mono ?_)
      rintro e w' ⟨v, rfl, hv, hb⟩
      exact ⟨hv.base hvs, hb⟩)
   | exact fun _ _ _ (h : Zc _ _ _ _) => h.cells
 . simp [Yn, ZD, Zh, ZA, Zl]
   intro u1 u2 V hV hK h1 h2 bq _ _ _
   obtain ⟨A2, c2, rfl, -⟩ := h2.raw
   simp [Z9, Value.cells] at bq
   have k0 := bq.cell 0
   have k1 := bq.cell 1
   simp at k0 k1
   have HO := Hd h2
   have HB := Hd (HBW.out.trans (hV.mono (by omega)))
   clear h1 h2 hV hK bq
   go_wp2_with fail
   exact bodyPost_ret (by simp [results, Tryz.results210, go_sem, k0, k1]) rfl ⟨_, rfl, HO.out, HB.out⟩


def XO (w : World) (n d : Int) (e : Ending) (w' : World) : Prop := ∃ v, e = .returned v /\ ZG w' 0 v n d /\ Below w.heap.size w w'
theorem Zc.quad {w : World} {base g : Nat} {v' a b c d : Value} {n : Int} (hi : Zc w base v' n) (q : Zw w g a b c d) (x y z u : Value) : Zc ((((w.setCell ⟨g, 0, none⟩ x).setCell ⟨g, 1, none⟩ y).setCell ⟨g, 2, none⟩ z).setCell ⟨g, 3, none⟩ u) base v' n := by
 obtain ⟨A', c', a1, a2, a3, a4⟩ := hi.form
 have hne := Xf a4 q.blk (by decide)
 refine ⟨A', c', a1, a2, a3, a4.1, ?_⟩
 rcases a4.2 with p | ⟨g', cap, cur, p1, p2, p3, p4⟩
 . exact .inl p
 . refine .inr ⟨g', cap, cur, p1, p2, ?_, p4⟩
   have hg : g' ≠ g := fun e => by
    rw [p1] at hne
    exact hne (by simp [Value.ownBlock, e])
   rw [Below.heap_setCell _ ⟨g, 3, none⟩ u g' hg, Below.heap_setCell _ ⟨g, 2, none⟩ z g' hg, Below.heap_setCell _ ⟨g, 1, none⟩ y g' hg, Below.heap_setCell _ ⟨g, 0, none⟩ x g' hg]
   exact p3

def addN (n d m f : Int) : Int := Yx (n * f + m * d) (d * f)
def addD (n d m f : Int) : Int := Yt (n * f + m * d) (d * f)
def subN (n d m f : Int) : Int := Yx (n * f - m * d) (d * f)
def subD (n d m f : Int) : Int := Yt (n * f - m * d) (d * f)
def mulN (n d m f : Int) : Int := Yx (n * m) (d * f)
def mulD (n d m f : Int) : Int := Yt (n * m) (d * f)
def quoN (n d m f : Int) : Int := Yx (n * f) (d * m)
def quoD (n d m f : Int) : Int := Yt (n * f) (d * m)


theorem Zc.mine {w : World} {base : Nat} {v : Value} {x : Int} (h : Zc w base v x) : ∀ g, Xh v g -> base <= g /\ g < w.heap.size := by
 obtain ⟨A, c, rfl, -, -, h4⟩ := h.form
 exact fun g hg => h4.lt g hg
theorem Ze.kept {B : Nat} {Ts : List TypeId} {w w' : World} {base : Nat} {v : Value} {n d : Int} (h : Ze w base v n d) (k : Zq B Ts w w') (hT : 109 ∉ Ts) : Ze w' base v n d := by
 obtain ⟨A, c, B, e, h1, h2, h3, h4⟩ := h.form
 exact ⟨A, c, B, e, h1, h2.kept k hT, h3.kept k hT, h4⟩
theorem Ze.cells {w : World} {base : Nat} {v : Value} {n d : Int} (h : Ze w base v n d) : CellsN v 4 := by
 obtain ⟨A, c, B, e, rfl, -⟩ := h.form
 exact ⟨rfl, by simp [Value.cells, Value.oneCell']⟩
theorem Ze.at_ {w : World} {base : Nat} {v : Value} {n d : Int} (h : Ze w base v n d) : ZV w v n d := by
 obtain ⟨A, c, B, e, h1, h2, h3, -⟩ := h.form
 exact ⟨A, c, B, e, h1, h2.rawAt, h3.rawAt⟩
theorem same_same (x : Int) (A B : Option Addr) (c d : Nat) (w : World) (h : Zr w A c (Za x.natAbs)) (g : Zr w B d (Za x.natAbs)) :
  Calls Tryz.prog 119 #[.agg #[.bool (decide (x < 0)), .slice A (Za x.natAbs).length c], .agg #[.bool (decide (x < 0)), .slice B (Za x.natAbs).length d]] w fun e w' => e = .returned (.bool true) /\ Below w.heap.size w w' := by
 have := same_any (decide (x < 0)) (decide (x < 0)) A B c d _ _ w h g
 simpa using this

theorem sameFrac_at (n d : Int) (A B A2 B2 : Option Addr) (c e0 c2 e2 : Nat) (w : World) (h_x : Zr w A c (Za n.natAbs)) (k_x : Zr w B e0 (Za d.natAbs)) (h_y : Zr w A2 c2 (Za n.natAbs)) (k_y : Zr w B2 e2 (Za d.natAbs))  :
  Calls Tryz.prog 35 #[.agg #[.bool (decide (n < 0)), .slice A (Za n.natAbs).length c, .bool (decide (d < 0)), .slice B (Za d.natAbs).length e0], .agg #[.bool (decide (n < 0)), .slice A2 (Za n.natAbs).length c2, .bool (decide (d < 0)), .slice B2 (Za d.natAbs).length e2]] w fun e w' => e = .returned (.bool true) /\ Below w.heap.size w w' := by
 have b0 := (((Below.refl w.heap.size w).alloc (Nat.le_refl _) (.cells #[.bool (decide (n < 0)), .slice A (Za n.natAbs).length c, .bool (decide (d < 0)), .slice B (Za d.natAbs).length e0] 26)).alloc (by simp) (.cells #[.bool (decide (n < 0)), .slice A2 (Za n.natAbs).length c2, .bool (decide (d < 0)), .slice B2 (Za d.natAbs).length e2] 26))
 have p0 := (Zw.new w (.bool (decide (n < 0))) (.slice A (Za n.natAbs).length c) (.bool (decide (d < 0))) (.slice B (Za d.natAbs).length e0)).alloc (.cells #[.bool (decide (n < 0)), .slice A2 (Za n.natAbs).length c2, .bool (decide (d < 0)), .slice B2 (Za d.natAbs).length e2] 26)
 have p1 := Zw.new (w.alloc (.cells #[.bool (decide (n < 0)), .slice A (Za n.natAbs).length c, .bool (decide (d < 0)), .slice B (Za d.natAbs).length e0] 26)) (.bool (decide (n < 0))) (.slice A2 (Za n.natAbs).length c2) (.bool (decide (d < 0))) (.slice B2 (Za d.natAbs).length e2)
 simp only [World.size_alloc] at p1
 have V_x := Hd (FV.mk p0 (h_x.below b0) (k_x.below b0))
 have KW_x := Hd k_x
 have V_y := Hd (FV.mk p1 (h_y.below b0) (k_y.below b0))
 have KW_y := Hd k_y
 have RW_x := Hd h_x
 have RW_y := Hd h_y
 have HBW := Hd b0
 clear b0 p0 p1 h_x k_x h_y k_y
 go_enter Tryz.func35, Tryz.ntmps35
 obtain ⟨W, E⟩ : ∃ W, W = ((w.alloc (.cells #[.bool (decide (n < 0)), .slice A (Za n.natAbs).length c, .bool (decide (d < 0)), .slice B (Za d.natAbs).length e0] 26)).alloc (.cells #[.bool (decide (n < 0)), .slice A2 (Za n.natAbs).length c2, .bool (decide (d < 0)), .slice B2 (Za d.natAbs).length e2] 26)) := ⟨_, rfl⟩
 go_upto_region 1 with fail
 rw [<- E] at V_x V_y HBW ⊢
 clear E
 obtain ⟨l_x, a_x, b_x, c_x, d_x, -, -, -, -⟩ := V_x.out.quad.facts
 obtain ⟨l_y, a_y, b_y, c_y, d_y, -, -, -, -⟩ := V_y.out.quad.facts
 go_wp2_with fail
 refine (same_same n A A2 c c2 W V_x.out.num V_y.out.num).mono ?_
 rintro e x1 ⟨rfl, hb⟩
 clear l_x a_x b_x c_x d_x l_y a_y b_y c_y d_y
 have V_x := Hd (V_x.out.below hb)
 have V_y := Hd (V_y.out.below hb)
 have HBW := Hd (Zb HBW.out hb)
 clear hb
 obtain ⟨l_x, a_x, b_x, c_x, d_x, -, -, -, -⟩ := V_x.out.quad.facts
 obtain ⟨l_y, a_y, b_y, c_y, d_y, -, -, -, -⟩ := V_y.out.quad.facts
 go_wp2_with fail
 refine (same_same d B B2 e0 e2 x1 V_x.out.den V_y.out.den).mono ?_
 rintro e x2 ⟨rfl, hb⟩
 clear l_x a_x b_x c_x d_x l_y a_y b_y c_y d_y
 have V_x := Hd (V_x.out.below hb)
 have V_y := Hd (V_y.out.below hb)
 have HBW := Hd (Zb HBW.out hb)
 clear hb
 go_wp2_with fail
 go_ret
 exact ⟨rfl, HBW.out⟩

theorem sameFrac_true (v1 v2 : Value) (n d : Int) (w : World) (h : ZV w v1 n d) (g : ZV w v2 n d) :
  Calls Tryz.prog 35 #[v1, v2] w fun e w' => e = .returned (.bool true) /\ Below w.heap.size w w' := by
 obtain ⟨A, c, B, e0, rfl, h1, h2⟩ := h.form
 obtain ⟨A2, c2, B2, e2, rfl, g1, g2⟩ := g.form
 exact sameFrac_at n d A B A2 B2 c e0 c2 e2 w h1 h2 g1 g2

end Go.Proofs.YtdonecnhdkjniaaGreatDoor
