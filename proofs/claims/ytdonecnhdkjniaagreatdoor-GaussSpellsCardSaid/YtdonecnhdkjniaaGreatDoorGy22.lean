/- Several texts in one: UpIn, FVar, FLaw, FOps, FPlain. -/
import Derived.Test.YtdonecnhdkjniaaGreatDoorGy21
set_option maxRecDepth 100000
set_option maxHeartbeats 8000000
namespace Go.Proofs.YtdonecnhdkjniaaGreatDoor
open Go.RowKit

structure RowsIn (w : World) (lo : Nat) (vs : List Value) (hi : Nat) : Prop where
 le : lo <= hi
 row : ∀ j, j < vs.length -> ∃ n X, n <= 1073741824 /\ w.ownsRow lo tLimb 1 (vs.getD j Xn) n X /\ ∀ g, (vs.getD j Xn).ownBlock = some g -> g < hi
 apart : ∀ j k, j < k -> k < vs.length -> ∀ g, (vs.getD j Xn).ownBlock = some g -> (vs.getD k Xn).ownBlock ≠ some g

structure FVar (w : World) (g : Nat) (n d : Int) (A : Option Addr) (c : Nat) (B : Option Addr) (e lo hi : Nat) : Prop where
 quad : Zw w g (.bool (decide (n < 0))) (.slice A (Za n.natAbs).length c) (.bool (decide (d < 0))) (.slice B (Za d.natAbs).length e)
 own : Ze w lo (.agg #[.bool (decide (n < 0)), .slice A (Za n.natAbs).length c, .bool (decide (d < 0)), .slice B (Za d.natAbs).length e]) n d
 top1 : ∀ x, (Value.slice A (Za n.natAbs).length c).ownBlock = some x -> x < hi
 top2 : ∀ x, (Value.slice B (Za d.natAbs).length e).ownBlock = some x -> x < hi
theorem Ze.below {w w' : World} {lo : Nat} {v : Value} {n d : Int} (h : Ze w lo v n d) (hb : Below w.heap.size w w') : Ze w' lo v n d := by
 obtain ⟨A, c, B, e, h1, h2, h3, h4⟩ := h.form
 exact ⟨A, c, B, e, h1, h2.below hb, h3.below hb, h4⟩
structure Xd (ns : List Nat) (u : Value) (V : World) : Prop where
 form : ∃ g t, u = .slice (some ⟨g, 0, none⟩) ns.length ns.length /\ Z2 V g t (cellsI ns).toArray
theorem Xd.new (ns : List Nat) (t : TypeId) (V : World) (vs : Array Value) (h : vs = (cellsI ns).toArray) : Xd ns (.slice (some ⟨V.heap.size, 0, none⟩) ns.length ns.length) (V.alloc (.cells vs t)) := by
 subst h
 exact ⟨_, _, rfl, Z2.new _ _ _⟩
def costN (a b : Nat) : Nat := min a 1048576 * min b 1048576 / 16 * 1024
theorem costLow_N (a b : Nat) : costLow a b = ((costN a b : Nat) : Int) := by
 unfold costLow costN
 generalize min a 1048576 = p
 generalize min b 1048576 = q
 rw [Int.natCast_mul, Int.natCast_ediv, Int.natCast_mul]
 rfl
theorem costN_le (a b : Nat) : costN a b <= 70368744177664 := by
 have : min a 1048576 * min b 1048576 <= 1048576 * 1048576 := Nat.mul_le_mul (Nat.min_le_right _ _) (Nat.min_le_right _ _)
 unfold costN
 omega

theorem frac_size (n1 n2 : Bool) (A B : Option Addr) (c e0 : Nat) (xs ys : List Nat) (hx : xs.length <= 1152921504606846975) (hy : ys.length <= 1152921504606846975) (w : World) :
   Calls Tryz.prog 89 #[.agg #[.bool n1, .slice A xs.length c, .bool n2, .slice B ys.length e0]] w fun e w' => e = .returned (.int .i64 ((1 + xs.length + (1 + ys.length) : Nat) : Int)) /\ Below w.heap.size w w' := by
 have D1 := fun V => intSize_any n1 A c xs.length hx V
 have D2 := fun V => intSize_any n2 B e0 ys.length hy V
 obtain ⟨s1, hs1⟩ : ∃ k : Nat, k = 1 + xs.length := ⟨_, rfl⟩
 obtain ⟨s2, hs2⟩ : ∃ k : Nat, k = 1 + ys.length := ⟨_, rfl⟩
 rw [<- hs1] at D1 ⊢
 rw [<- hs2] at D2 ⊢
 obtain ⟨s3, hs3⟩ : ∃ k : Nat, k = s1 + s2 := ⟨_, rfl⟩
 rw [<- hs3]
 have HW := Hd (show IntKind.i64.wrap ((s1 : Int) + (s2 : Int)) = (s3 : Int) from by rw [IntKind.wrap_i64]; omega)
 have H1 := Hd D1
 have H2 := Hd D2
 clear D1 D2 hx hy hs1 hs2 hs3
 have px := Zw.new w (.bool n1) (.slice A xs.length c) (.bool n2) (.slice B ys.length e0)
 have b0 := (Below.refl w.heap.size w).alloc (Nat.le_refl _) (.cells #[.bool n1, .slice A xs.length c, .bool n2, .slice B ys.length e0] 26)
 have PX := Hd px
 have HB := Hd b0
 clear px b0
 go_enter Tryz.func89, Tryz.ntmps89
 go_wp2_with fail
 obtain ⟨W, E⟩ : ∃ W, W = w.alloc (.cells #[.bool n1, .slice A xs.length c, .bool n2, .slice B ys.length e0] 26) := ⟨_, rfl⟩
 rw [<- E] at PX HB ⊢
 clear E
 refine Zf [.val (.pointer (some ⟨w.heap.size, 0, none⟩)) [], .val (.agg #[.bool n1, .slice A xs.length c]) [], .val (.int .i64 s1) [], .val (.pointer (some ⟨w.heap.size, 2, none⟩)) [], .val (.agg #[.bool n2, .slice B ys.length e0]) [], .val (.int .i64 s2) [], .val (.int .i64 s3) [], .val (.int .i64 s3) []] W.heap.size W [] Xh _ Zg (Nat.le_refl _) (Below.refl _ _) (Zq.refl _ _ _) rfl ?_ ?_ ?_ ?_ ?_ ?_ ?_ ?_ rfl (by simp [ZH]) ?_ ?_ ?_ ?_
 iterate 8 kernel_rfl
 . simp only [Zu]
 . simp only [ZR]
 . simp (maxSteps := 4000000) [Zz, Yj, Zh, ZA, Zl]
   repeat' (first | apply And.intro | (intro (u : Value)) | (intro (u : Nat)))
   all_goals
    intro V hV hK
    obtain ⟨-, a_x, b_x, c_x, d_x, -, -, -, -⟩ := (PX.out.below hV).facts
    clear hV hK
    go_simp
    first
    | exact Below.refl _ _
    | exact ⟨HW.out, Below.refl _ _⟩
    | ((with_reducible refine (H1.out V).mono ?_); rintro e w' ⟨rfl, hb⟩; exact ⟨rfl, hb⟩)
    | ((with_reducible refine (H2.out V).mono ?_); rintro e w' ⟨rfl, hb⟩; exact ⟨rfl, hb⟩)
 . simp [Yn, ZD, Zh, ZA, Zl]
   intro V hV hK _ _ _
   have HB := Hd (Zb HB.out hV)
   clear hV hK
   go_wp2_with fail
   go_ret
   exact ⟨rfl, HB.out⟩

def fcost (a b : Nat) : Nat := 1 + a + (1 + b) + costN a b
theorem fcost_le {a b : Nat} (ha : a <= 1152921504606846975) (hb : b <= 1152921504606846975) : fcost a b <= 2305913377957871618 := by
 have := costN_le a b
 unfold fcost
 omega

theorem frac_cost (n1 n2 : Bool) (A B : Option Addr) (c e0 : Nat) (xs ys : List Nat) (hx : xs.length <= 1152921504606846975) (hy : ys.length <= 1152921504606846975) (w : World) (h : Zr w A c xs) (g : Zr w B e0 ys) :
   Calls Tryz.prog 18 #[.agg #[.bool n1, .slice A xs.length c, .bool n2, .slice B ys.length e0]] w fun e w' => e = .returned (.int .i64 (fcost xs.length ys.length : Nat)) /\ Below w.heap.size w w' := by
 have D1 := fun V => frac_size n1 n2 A B c e0 xs ys hx hy V
 have D2 := fun (V : World) (h : Zr V A c xs) (g : Zr V B e0 ys) => cost_low n1 n2 A B c e0 xs ys V h g
 rw [costLow_N] at D2
 have hc := costN_le xs.length ys.length
 obtain ⟨s1, hs1⟩ : ∃ k : Nat, k = 1 + xs.length + (1 + ys.length) := ⟨_, rfl⟩
 obtain ⟨s2, hs2⟩ : ∃ k : Nat, k = costN xs.length ys.length := ⟨_, rfl⟩
 obtain ⟨s3, hs3⟩ : ∃ k : Nat, k = fcost xs.length ys.length := ⟨_, rfl⟩
 have e3 : s3 = s1 + s2 := by rw [hs3, hs1, hs2]; rfl
 rw [<- hs1] at D1
 rw [<- hs2] at D2 hc
 rw [<- hs3]
 have HW := Hd (show IntKind.i64.wrap ((s1 : Int) + (s2 : Int)) = (s3 : Int) from by rw [IntKind.wrap_i64]; omega)
 have H1 := Hd D1
 have H2 := Hd D2
 clear D1 D2 hx hy hs1 hs2 hs3 e3 hc
 have px := Zw.new w (.bool n1) (.slice A xs.length c) (.bool n2) (.slice B ys.length e0)
 have b0 := (Below.refl w.heap.size w).alloc (Nat.le_refl _) (.cells #[.bool n1, .slice A xs.length c, .bool n2, .slice B ys.length e0] 26)
 have rx := Hd (h.below b0)
 have ry := Hd (g.below b0)
 clear h g
 have PX := Hd px
 have HB := Hd b0
 clear px b0
 go_enter Tryz.func18, Tryz.ntmps18
 go_wp2_with fail
 obtain ⟨W, E⟩ : ∃ W, W = w.alloc (.cells #[.bool n1, .slice A xs.length c, .bool n2, .slice B ys.length e0] 26) := ⟨_, rfl⟩
 rw [<- E] at PX HB rx ry ⊢
 clear E
 refine Zf [.val (.agg #[.bool n1, .slice A xs.length c, .bool n2, .slice B ys.length e0]) [], .val (.int .i64 s1) [], .val (.pointer (some ⟨w.heap.size, 0, none⟩)) [], .val (.agg #[.bool n1, .slice A xs.length c]) [], .val (.pointer (some ⟨w.heap.size, 2, none⟩)) [], .val (.agg #[.bool n2, .slice B ys.length e0]) [], .val (.int .i64 s2) [], .val (.int .i64 s3) [], .val (.int .i64 s3) []] W.heap.size W [] Xh _ Zg (Nat.le_refl _) (Below.refl _ _) (Zq.refl _ _ _) rfl ?_ ?_ ?_ ?_ ?_ ?_ ?_ ?_ rfl (by simp [ZH]) ?_ ?_ ?_ ?_
 iterate 8 kernel_rfl
 . simp only [Zu]
 . simp only [ZR]
 . simp (maxSteps := 4000000) [Zz, Yj, Zh, ZA, Zl]
   repeat' (first | apply And.intro | (intro (u : Value)) | (intro (u : Nat)))
   all_goals
    intro V hV hK
    obtain ⟨-, a_x, b_x, c_x, d_x, -, -, -, -⟩ := (PX.out.below hV).facts
    have r1 := rx.out.below hV
    have r2 := ry.out.below hV
    clear hV hK
    go_simp
    first
    | exact Below.refl _ _
    | exact ⟨HW.out, Below.refl _ _⟩
    | ((with_reducible refine (H1.out V).mono ?_); rintro e w' ⟨rfl, hb⟩; exact ⟨rfl, hb⟩)
    | ((with_reducible refine (H2.out V r1 r2).mono ?_); rintro e w' ⟨rfl, hb⟩; exact ⟨rfl, hb⟩)
 . simp [Yn, ZD, Zh, ZA, Zl]
   intro V hV hK _ _ _
   have HB := Hd (Zb HB.out hV)
   clear hV hK
   go_wp2_with fail
   go_ret
   exact ⟨rfl, HB.out⟩

structure TwinI (neg : Bool) (xs : List Nat) (v : Value) (V : World) : Prop where
 form : ∃ g, v = .agg #[.bool neg, .slice (some ⟨g, 0, none⟩) xs.length (xs.length + 1)] /\ Jg V g xs
structure TwinF (n1 n2 : Bool) (xs ys : List Nat) (v : Value) (V : World) : Prop where
 form : ∃ g1 g2, v = .agg #[.bool n1, .slice (some ⟨g1, 0, none⟩) xs.length (xs.length + 1), .bool n2, .slice (some ⟨g2, 0, none⟩) ys.length (ys.length + 1)] /\ Jg V g1 xs /\ Jg V g2 ys

theorem ZL.blk {w : World} {g n size : Nat} {t : TypeId} {cs : List Value} (h : Z2 w g t cs.toArray) (hl : cs.length = n * size) : ZL w w.heap.size size (some ⟨g, 0, none⟩) n cs :=
 ⟨hl, fun _ => ⟨⟨g, 0, none⟩, rfl, h.lt, fun j u hu => by
  rw [show (⟨g, 0, none⟩ : Addr).add j = ⟨g, j, none⟩ by unfold Addr.add; split <;> simp_all, h.cell j, <- hu]
  simp⟩⟩
theorem ZG.quad {w : World} {base g : Nat} {v a b c d : Value} {n m : Int} (h : ZG w base v n m) (q : Zw w g a b c d) (x y z u : Value) : ZG ((((w.setCell ⟨g, 0, none⟩ x).setCell ⟨g, 1, none⟩ y).setCell ⟨g, 2, none⟩ z).setCell ⟨g, 3, none⟩ u) base v n m := by
 obtain ⟨A, k, B, e, h1, h2, h3⟩ := h.form
 exact ⟨A, k, B, e, h1, h2.quad q _ _ _ _, h3.quad q _ _ _ _⟩
theorem ZG.below {w w' : World} {base : Nat} {v : Value} {n d : Int} (h : ZG w base v n d) (hb : Below w.heap.size w w') : ZG w' base v n d := by
 obtain ⟨A, k, B, e, h1, h2, h3⟩ := h.form
 exact ⟨A, k, B, e, h1, h2.below hb, h3.below hb⟩

theorem ratio_ChecksI (l : List X0) (ks : Nat -> Bool) (A : Option Addr) (c : Nat) (hl : l.length <= 9223372036854775807) (w : World) (h : ZL w w.heap.size 4 A l.length (cellsF l))
  (H : ∀ q (hq : q < l.length), ∀ V, Below w.heap.size w V -> Calls Tryz.prog 159 #[l[q].val] V fun e w' => e = .returned (.int .i64 (if ks q then 0 else 1)) /\ Below V.heap.size V w') :
  Calls Tryz.prog 92 #[.slice A l.length c] w fun e w' => e = .returned (.bool ((List.range l.length).all ks)) /\ Below w.heap.size w w' := by
 have HR := Hd h
 have HS := Hd H
 clear h H
 have H0 := Hd (by intro j hj; omega : ∀ j (_ : j < 0), (h : j < l.length) -> ks j = true)
 go_enter Tryz.func92, Tryz.ntmps92
 go_wp2_with fail
 go_loopw [7] (fun s wr => ∃ i : Nat, s = .int .i64 i /\ i <= l.length /\ Hid (∀ j (_ : j < i), (h : j < l.length) -> ks j = true) /\ Below w.heap.size w wr) (fun s _ => l.length - (intOf s).toNat)
 case atStart => exact ⟨0, rfl, Nat.zero_le _, H0, Below.refl _ _⟩
 case round =>
  obtain ⟨i, rfl, hi, HN, hb⟩ := hrel
  clear H0
  by_cases hlt : i < l.length
  . have a0 : (0 : Int) <= (i : Int) := by omega
    have a1 : (i : Int) < (l.length : Int) := by omega
    obtain ⟨e0, e1, e2, e3⟩ := cellsF_get l i hlt
    obtain ⟨ad, rfl, hbl, c0, c1, c2, c3⟩ := (HR.out.below hb).row4 hlt e0 e1 e2 e3
    have C := HS.out i hlt
    unfold X0.val at C
    have HB := Hd hb
    clear e0 e1 e2 e3 hbl hb
    by_cases hlong : ks i = true
    . rw [if_pos hlong] at C
      have C := Hd C
      have HL := Hd hlong
      clear hlong
      go_wp2_with (first | (go_at_call 159; with_reducible refine (C.out _ (HB.out.alloc HB.out.size _)).mono ?_; rintro e w' ⟨rfl, hb'⟩; have B1 := Zb (HB.out.alloc HB.out.size _) hb'))
      go_roundw
      case rel =>
       refine ⟨i + 1, by go_num, hlt, Hd fun j hj h => ?_, B1⟩
       rcases (by omega : j < i ∨ j = i) with hj | rfl
       . exact HN.out j hj h
       . exact HL.out
      case measure => simp [intOf]; omega
    . rw [if_neg hlong] at C
      have C := Hd C
      have HL := Hd hlong
      clear hlong
      go_wp2_with (first | (go_at_call 159; with_reducible refine (C.out _ (HB.out.alloc HB.out.size _)).mono ?_; rintro e w' ⟨rfl, hb'⟩; have B1 := Zb (HB.out.alloc HB.out.size _) hb'))
      go_ret
      have e : (List.range l.length).all ks = false := List.all_eq_false.2 ⟨i, List.mem_range.2 hlt, HL.out⟩
      exact ⟨by rw [e]; rfl, B1⟩
  . have HB := Hd hb
    clear hb
    go_wp2_with fail
    go_ret
    have e : (List.range l.length).all ks = true := List.all_eq_true.2 fun x hx => by
      have hj := List.mem_range.1 hx
      exact HN.out x (by omega) hj
    exact ⟨by rw [e]; rfl, HB.out⟩

theorem checks_two (n1 n2 n3 n4 : Bool) (A B A2 B2 : Option Addr) (c e0 c2 e2 : Nat) (xs ys us vs : List Nat) (V : World) (g' : Nat) (hx : Zr V A c xs) (kx : Zr V B e0 ys) (hy : Zr V A2 c2 us) (ky : Zr V B2 e2 vs) (hg : V.heap.size = g') :
  Calls Tryz.prog 92 #[.slice (some ⟨g', 0, none⟩) 2 2] (V.alloc (.cells #[.bool n1, .slice A xs.length c, .bool n2, .slice B ys.length e0, .bool n3, .slice A2 us.length c2, .bool n4, .slice B2 vs.length e2] 26)) fun e w' => e = .returned (.bool (XU n1 n2 xs ys == 0 && XU n3 n4 us vs == 0)) /\ Below (V.alloc (.cells #[.bool n1, .slice A xs.length c, .bool n2, .slice B ys.length e0, .bool n3, .slice A2 us.length c2, .bool n4, .slice B2 vs.length e2] 26)).heap.size (V.alloc (.cells #[.bool n1, .slice A xs.length c, .bool n2, .slice B ys.length e0, .bool n3, .slice A2 us.length c2, .bool n4, .slice B2 vs.length e2] 26)) w' := by
 have := ratio_ChecksI [⟨n1, A, xs.length, c, n2, B, ys.length, e0⟩, ⟨n3, A2, us.length, c2, n4, B2, vs.length, e2⟩] (fun i => if i = 0 then XU n1 n2 xs ys == 0 else XU n3 n4 us vs == 0) (some ⟨g', 0, none⟩) 2 (by simp) (V.alloc (.cells #[.bool n1, .slice A xs.length c, .bool n2, .slice B ys.length e0, .bool n3, .slice A2 us.length c2, .bool n4, .slice B2 vs.length e2] 26))
  (by subst hg; exact ZL.blk (Z2.new V 26 #[.bool n1, .slice A xs.length c, .bool n2, .slice B ys.length e0, .bool n3, .slice A2 us.length c2, .bool n4, .slice B2 vs.length e2]) rfl)
  (by
   intro q hq W hW
   rcases (by simp at hq; omega : q = 0 ∨ q = 1) with rfl | rfl
   . have := ratio_Check n1 n2 A B c e0 xs ys W ((hx.alloc _).below hW) ((kx.alloc _).below hW)
     rw [chkE_bool] at this
     exact this
   . have := ratio_Check n3 n4 A2 B2 c2 e2 us vs W ((hy.alloc _).below hW) ((ky.alloc _).below hW)
     rw [chkE_bool] at this
     exact this)
 simpa [List.range, List.range.loop] using this

structure Jh (n d : Int) : Prop where
 chk : XU (decide (n < 0)) (decide (d < 0)) (Za n.natAbs) (Za d.natAbs) = 0
 num : Fit n
 den : Fit d
 pos : 0 < d
 low : ZK n d = 1
theorem fine_of {n1 n2 : Bool} {xs ys : List Nat} (hx : Zj xs) (hy : Zj ys) (h0 : XU n1 n2 xs ys = 0) : ∃ n d, Jh n d /\ n1 = decide (n < 0) /\ n2 = decide (d < 0) /\ xs = Za n.natAbs /\ ys = Za d.natAbs := by
 have hc := h0
 unfold XU mkOk at h0
 cases o1 : okI n1 xs with
 | false => rw [o1] at h0; simp at h0
 | true =>
  cases o2 : okI n2 ys with
  | false => rw [o1, o2] at h0; simp at h0
  | true =>
   obtain ⟨a1, a2, a3⟩ := ok_num hx o1
   obtain ⟨b1, b2, b3⟩ := ok_num hy o2
   rw [o1, o2] at h0
   simp only [Bool.and_self, if_true] at h0
   generalize Zt n1 xs = n at a1 a2 a3 h0
   generalize Zt n2 ys = d at b1 b2 b3 h0
   subst a1 a2 b1 b2
   split at h0
   . next h1 => exact ⟨n, d, ⟨hc, a3, b3, h1.1, h1.2⟩, rfl, rfl, rfl, rfl⟩
   . simp at h0
def ansN (n d : Int) : Int := if lz n <= 2048 /\ lz d <= 2048 then n else 0
def ansD (n d : Int) : Int := if lz n <= 2048 /\ lz d <= 2048 then d else 0
def ansK (n d : Int) : Int := if lz n <= 2048 /\ lz d <= 2048 then 0 else 4
def ZZ (w : World) (n d : Int) (b : Bool) (e : Ending) (w' : World) : Prop := ∃ v, e = .returned (.tuple #[v, .bool b]) /\ ZG w' 0 v n d /\ Below w.heap.size w w'


theorem gcdZ_dvd (n d : Int) : ZK n d ∣ n /\ ZK n d ∣ d :=
 ⟨Int.ofNat_dvd_left.2 (Nat.gcd_dvd_left _ _), Int.ofNat_dvd_left.2 (Nat.gcd_dvd_right _ _)⟩
theorem low_parts (n : Int) {d : Int} (hd : 0 < d) : Yx n d * ZK n d = n /\ Yt n d * ZK n d = d := by
 unfold Yx Yt
 rw [if_neg (by omega), if_neg (by omega)]
 exact ⟨Int.tdiv_mul_cancel (gcdZ_dvd n d).1, Int.tdiv_mul_cancel (gcdZ_dvd n d).2⟩
theorem lowD_pos (n : Int) {d : Int} (hd : 0 < d) : 0 < Yt n d := by
 have h := (low_parts n hd).2
 have hg := YX (n := n) (d := d) (by omega)
 rcases Int.lt_trichotomy (Yt n d) 0 with h1 | h1 | h1
 . have := Int.mul_neg_of_neg_of_pos h1 hg; omega
 . rw [h1] at h; simp at h; omega
 . exact h1
theorem low_one (n : Int) {d : Int} (hd : 0 < d) : ZK (Yx n d) (Yt n d) = 1 := by
 unfold Yx Yt
 rw [if_neg (by omega), if_neg (by omega)]
 have hp : 0 < Nat.gcd n.natAbs d.natAbs := Nat.gcd_pos_of_pos_right _ (by omega)
 have hc : Nat.gcd (n.natAbs / Nat.gcd n.natAbs d.natAbs) (d.natAbs / Nat.gcd n.natAbs d.natAbs) = 1 := Nat.coprime_div_gcd_div_gcd hp
 unfold ZK
 rw [Int.natAbs_tdiv, Int.natAbs_tdiv, Int.natAbs_natCast]
 exact congrArg (fun k : Nat => (k : Int)) hc
theorem low_cross (n : Int) {d : Int} (hd : 0 < d) : Yx n d * d = n * Yt n d := by
 have h := low_parts n hd
 generalize Yx n d = p at h ⊢
 generalize Yt n d = q at h ⊢
 generalize ZK n d = g at h
 rw [<- h.1, <- h.2, Int.mul_assoc, Int.mul_comm g q, Int.mul_comm q g]
end Go.Proofs.YtdonecnhdkjniaaGreatDoor
