/- Several texts in one: Row, RefAdd, Front, Short, Shl. -/
import Derived.Test.YtdonecnhdkjniaaGreatDoorGx03
set_option maxRecDepth 100000
set_option maxHeartbeats 8000000
namespace Go.Proofs.YtdonecnhdkjniaaGreatDoor
open Go.RowKit

structure YJ (w : World) (g : Nat) (zs : List Nat) : Prop where
 blk : ZJ w g 109 (Zh zs).toArray
theorem YJ.lt {w : World} {g : Nat} {zs : List Nat} (h : YJ w g zs) : g < w.heap.size := h.blk.lt
theorem YJ.below {w w' : World} {g : Nat} {zs : List Nat} (h : YJ w g zs) (hb : Below w.heap.size w w') : YJ w' g zs := ⟨h.blk.below hb h.blk.lt⟩
theorem YJ.alloc {w : World} {g : Nat} {zs : List Nat} (h : YJ w g zs) (o : Obj) : YJ (w.alloc o) g zs := ⟨h.blk.alloc o⟩
theorem YJ.cell {w : World} {g : Nat} {zs : List Nat} (h : YJ w g zs) {k : Nat} (hk : k < zs.length) : w.cell? ⟨g, k, none⟩ = some (.int .u32 zs[k]) := by
 rw [h.blk.cell, List.getElem?_toArray, YY hk]
theorem YJ.frozen {w : World} {g : Nat} {zs : List Nat} (h : YJ w g zs) (k : Nat) : w.frozen? ⟨g, k, none⟩ = false := h.blk.frozen k
theorem YJ.set {w : World} {g : Nat} {zs : List Nat} (h : YJ w g zs) (k d : Nat) : YJ (w.setCell ⟨g, k, none⟩ (.int .u32 (d : Int))) g (zs.set k d) := by
 have e : (Zh (zs.set k d)).toArray = (Zh zs).toArray.setIfInBounds k (.int .u32 (d : Int)) := by
  simp [Zh, List.map_set]
 exact ⟨by rw [e]; exact h.blk.set_ k _⟩
theorem YJ.made (w : World) (n : Nat) : YJ (w.alloc (.cells (madeCells #[.int .u32 0] n) 109)) w.heap.size (List.replicate n 0) := by
 have e : (Zh (List.replicate n 0)).toArray = madeCells #[.int .u32 0] n := by
  apply Array.ext
  . simp [Zh, size_madeCells]
  . intro i h1 h2
    have e : i % 1 = 0 := Nat.mod_one i
    simp [Zh, madeCells, e]
 exact ⟨by rw [e]; exact ZJ.new w _ _⟩
theorem YJ.own {w : World} {g base : Nat} {zs : List Nat} (h : YJ w g zs) (hb : base <= g) {n : Nat} (hn : n <= zs.length) (hm : zs.length <= 70368744177664) :
  w.ownsRow base 109 1 (.slice (some ⟨g, 0, none⟩) n zs.length) n (Zh (zs.take n)) := by
 refine ⟨by rw [ZI, List.length_take]; omega, .inr ⟨g, zs.length, (Zh zs).toArray, rfl, hb, h.blk, hn, by unfold maxLen; omega, by simp [Zh], by simp [XR]⟩⟩

structure XF (w : World) (base : Nat) (v : Value) (n L : Nat) : Prop where
 form : ∃ A c zs, v = .slice A zs.length c /\ Zj zs /\ val zs = n /\ zs.length <= L /\ zs.length <= c /\ c <= 9223372036854775807 /\ w.ownsRow base 109 1 (.slice A zs.length c) zs.length (Zh zs)
theorem XF.below {w w' : World} {base : Nat} {v : Value} {n L : Nat} (h : XF w base v n L) (hb : Below w.heap.size w w') : XF w' base v n L := by
 obtain ⟨A, c, zs, h1, h2, h3, h4, h5, h6, h7⟩ := h.form
 exact ⟨A, c, zs, h1, h2, h3, h4, h5, h6, Zt h7 hb⟩
theorem XF.base {w : World} {b b' : Nat} {v : Value} {n L : Nat} (h : XF w b v n L) (hb : b' <= b) : XF w b' v n L := by
 obtain ⟨A, c, zs, h1, h2, h3, h4, h5, h6, h7⟩ := h.form
 refine ⟨A, c, zs, h1, h2, h3, h4, h5, h6, h7.1, ?_⟩
 rcases h7.2 with h8 | ⟨g, cap, cur, k1, k2, k3⟩
 . exact .inl h8
 . exact .inr ⟨g, cap, cur, k1, Nat.le_trans hb k2, k3⟩
theorem YJ.ownL {w : World} {g base : Nat} {zs : List Nat} (h : YJ w g zs) (hb : base <= g) (hm : zs.length <= 70368744177664) (hz : Zj zs) : XF w base (.slice (some ⟨g, 0, none⟩) zs.length zs.length) (val zs) zs.length := by
 have := h.own hb (Nat.le_refl _) hm
 rw [List.take_length] at this
 exact ⟨_, _, zs, rfl, hz, rfl, Nat.le_refl _, Nat.le_refl _, by omega, this⟩
theorem YJ.ownL_cut {w : World} {g base : Nat} {zs : List Nat} (h : YJ w g zs) (hb : base <= g) (hm : zs.length <= 70368744177664) (hz : Zj zs) : XF w base (.slice (some ⟨g, 0, none⟩) (Za (val zs)).length zs.length) (val zs) zs.length := by
 have hle := YB hz
 have := h.own hb hle hm
 rw [<- Y3 hz] at this
 exact ⟨_, _, Za (val zs), rfl, Yt _, Zi _, hle, hle, by omega, this⟩
theorem YJ.reads {w : World} {g : Nat} {zs : List Nat} (h : YJ w g zs) : Jg w w.heap.size (some ⟨g, 0, none⟩) zs := by
 refine ⟨by rw [ZI, Nat.mul_one], fun _ => ⟨⟨g, 0, none⟩, rfl, h.lt, fun j u hu => ?_⟩⟩
 have hj : j < zs.length := by
  have := (List.getElem?_eq_some_iff.1 hu).1
  rwa [ZI] at this
 rw [YY hj] at hu
 have e : (⟨g, 0, none⟩ : Addr).add j = ⟨g, j, none⟩ := by unfold Addr.add; split <;> simp_all
 rw [e, <- hu]
 exact h.cell hj
def RetL (base : Nat) (w : World) (n L : Nat) (e : Ending) (w' : World) : Prop := ∃ v, e = .returned v /\ XF w' base v n L /\ Below w.heap.size w w'

theorem Y4 (neg : Bool) (v : Value) (n L base : Nat) (w : World) (h : XF w base v n L) :
   Calls Tryz.prog 161 #[.bool neg, v] w (ZY base w (if neg then -(n : Int) else n)) := by
 obtain ⟨A, c, zs, rfl, h2, h3, h4, h5, h6, h7⟩ := h.form
 have hr : Zm w A c zs := ⟨h2, h5, h6, ZD.of_own h7⟩
 subst h3
 by_cases h0 : val zs = 0
 . refine (XB neg A c zs w hr h0).mono ?_
   rintro e w' ⟨rfl, hb⟩
   rw [h0]
   exact ⟨_, rfl, by cases neg <;> exact Zc.nought _ _, hb⟩
 . refine (X4 neg A c zs w hr h0).mono ?_
   rintro e w' ⟨rfl, hb⟩
   exact ⟨_, rfl, Zc.signed h2 (Zt h7 hb) h5 h6 rfl h0, hb⟩
theorem XW (neg : Bool) (v : Value) (n L base : Nat) (w : World) (h : XF w base v n L) :
   Calls Tryz.prog 231 #[.bool neg, v] w (ZY base w (if neg then -(n : Int) else n)) := by
 obtain ⟨A, c, zs, rfl, h2, h3, h4, h5, h6, h7⟩ := h.form
 have hr : Zm w A c zs := ⟨h2, h5, h6, ZD.of_own h7⟩
 subst h3
 by_cases h0 : val zs = 0
 . refine (XX neg A c zs w hr h0).mono ?_
   rintro e w' ⟨rfl, hb⟩
   rw [h0]
   exact ⟨_, rfl, by cases neg <;> exact Zc.nought _ _, hb⟩
 . refine (Xg neg A c zs w hr h0).mono ?_
   rintro e w' ⟨rfl, hb⟩
   exact ⟨_, rfl, Zc.signed h2 (Zt h7 hb) h5 h6 rfl h0, hb⟩

theorem Z7 {zs : List Nat} {k d : Nat} (h : k < zs.length) : (zs.set k d).take (k + 1) = zs.take k ++ [d] := by
 rw [List.take_succ_eq_append_getElem (by simpa using h), List.take_set_of_le (Nat.le_refl _)]
 simp

structure Yx (w : World) (base : Nat) (v : Value) (n : Nat) : Prop where
 form : ∃ A c, v = .slice A (Za n).length c /\ (Za n).length <= c /\ c <= 9223372036854775807 /\ w.ownsRow base 109 1 (.slice A (Za n).length c) (Za n).length (Zh (Za n))
theorem Yx.of_ownL {w : World} {base n L c : Nat} {A : Option Addr} (h : XF w base (.slice A (Za n).length c) n L) : Yx w base (.slice A (Za n).length c) n := by
 obtain ⟨A', c', zs, h1, h2, h3, h4, h5, h6, h7⟩ := h.form
 injection h1 with a1 a2 a3
 subst a1 a3
 have e : Za n = zs := by
  have := Y3 h2
  rw [h3, a2, List.take_length] at this
  exact this
 refine ⟨_, _, rfl, by omega, h6, ?_⟩
 rw [e]; exact h7
theorem Yx.below {w w' : World} {base n : Nat} {v : Value} (h : Yx w base v n) (hb : Below w.heap.size w w') : Yx w' base v n := by
 obtain ⟨A, c, h1, h2, h3, h4⟩ := h.form
 exact ⟨A, c, h1, h2, h3, Zt h4 hb⟩
theorem Yx.base {w : World} {b b' n : Nat} {v : Value} (h : Yx w b v n) (hb : b' <= b) : Yx w b' v n := by
 obtain ⟨A, c, h1, h2, h3, h4⟩ := h.form
 refine ⟨A, c, h1, h2, h3, h4.1, ?_⟩
 rcases h4.2 with h8 | ⟨g, cap, cur, k1, k2, k3⟩
 . exact .inl h8
 . exact .inr ⟨g, cap, cur, k1, Nat.le_trans hb k2, k3⟩
theorem Yx.nil {w : World} {base : Nat} : Yx w base (.slice none 0 0) 0 := ⟨none, 0, rfl, Nat.le_refl _, by omega, World.ownsRow_nil _ _ _ _⟩
theorem Yx.raw {w : World} {base n : Nat} {v : Value} (h : Yx w base v n) : ∃ A c, v = .slice A (Za n).length c /\ Zm w A c (Za n) := by
 obtain ⟨A, c, h1, h2, h3, h4⟩ := h.form
 exact ⟨A, c, h1, Yt _, h2, h3, ZD.of_own h4⟩
theorem Yx.ownL {w : World} {base n L : Nat} {v : Value} (h : Yx w base v n) (hL : (Za n).length <= L) : XF w base v n L := by
 obtain ⟨A, c, h1, h2, h3, h4⟩ := h.form
 exact ⟨A, c, Za n, h1, Yt _, Zi _, hL, h2, h3, h4⟩
theorem Yx.raw_ {w : World} {base n c : Nat} {A : Option Addr} (h : Yx w base (.slice A (Za n).length c) n) : Zm w A c (Za n) := by
 obtain ⟨A', c', h1, h2⟩ := h.raw
 injection h1 with a1 a2 a3
 subst a1 a3
 exact h2
theorem Yu {a b : Nat} (h : a <= b) : (Za a).length <= (Za b).length := by
 rw [ZN]
 refine Nat.lt_of_le_of_lt h ?_
 have := Y7 (Yt b)
 rwa [Zi] at this
def RetN (base : Nat) (w : World) (n : Nat) (e : Ending) (w' : World) : Prop := ∃ v, e = .returned v /\ Yx w' base v n /\ Below w.heap.size w w'

theorem XF.of_row {w : World} {base : Nat} {v : Value} {zs : List Nat} (hz : Zj zs) (h : w.ownsRow base 109 1 v zs.length (Zh zs)) : XF w base v (val zs) zs.length := by
 rcases h.2 with ⟨h1, h2⟩ | ⟨g, cap, cur, h1, h2, h3, h4, h5, h6⟩
 . have : zs = [] := by cases zs with
    | nil => rfl
    | cons a l => simp at h2
   subst this
   subst h1
   exact ⟨none, 0, [], rfl, hz, rfl, Nat.le_refl _, Nat.le_refl _, by omega, World.ownsRow_nil _ _ _ _⟩
 . subst h1
   exact ⟨_, cap, zs, rfl, hz, rfl, Nat.le_refl _, h4, by unfold maxLen at h5; omega, h⟩
theorem XF.cut {w : World} {base : Nat} {A : Option Addr} {c : Nat} {zs : List Nat} {L : Nat} (hz : Zj zs) (hc : zs.length <= c) (hm : c <= 9223372036854775807) (h : w.ownsRow base 109 1 (.slice A zs.length c) zs.length (Zh zs)) (hL : zs.length <= L) : XF w base (.slice A (Za (val zs)).length c) (val zs) L := by
 have hle := YB hz
 refine ⟨A, c, Za (val zs), rfl, Yt _, Zi _, by omega, by omega, hm, ?_⟩
 rw [Y3 hz, List.length_take, Nat.min_eq_left hle]
 rw [XR]
 refine ⟨?_, ?_⟩
 . rw [List.length_take, ZI]; omega
 . rcases h.2 with ⟨h1, h2⟩ | ⟨g, cap, cur, h1, h2, h3, h4, h5, h6, h7⟩
   . injection h1 with a1 a2 a3
     have : (Za (val zs)).length = 0 := by omega
     rw [this, a1, a3]
     exact .inl ⟨rfl, rfl⟩
   . refine .inr ⟨g, cap, cur, by injection h1 with a1 a2 a3; rw [a1, a3], h2, h3, by omega, h5, h6, ?_⟩
     rw [<- h7, List.take_take, Nat.mul_one, Nat.mul_one, Nat.min_eq_left hle]
theorem XF.longer {w : World} {base : Nat} {v : Value} {n L L' : Nat} (h : XF w base v n L) (hl : L <= L') : XF w base v n L' := by
 obtain ⟨A, c, zs, h1, h2, h3, h4, h5⟩ := h.form
 exact ⟨A, c, zs, h1, h2, h3, by omega, h5⟩

theorem ref_add (A B : Option Addr) (c d : Nat) (xs ys : List Nat) (hlx : xs.length <= 1073741824) (hly : ys.length <= 1073741824) (w : World) (h : Zm w A c xs) (g : Zm w B d ys) :
  Calls Tryz.prog 229 #[.slice A xs.length c, .slice B ys.length d] w (RetL w.heap.size w (val xs + val ys) (max xs.length ys.length + 1)) := by
 have HX := Hd h
 have HY := Hd g
 clear h g
 obtain ⟨i0, hi, hz0, hz1, hz2⟩ := info_parts YC
 have H0 := Hd (⟨[], rfl, by simp [Zj], World.ownsRow_nil _ _ _ _, Below.refl _ _, rfl⟩ : ∃ zs, zs.length = 0 /\ Zj zs /\ w.ownsRow w.heap.size 109 1 (.slice none 0 0) 0 (Zh zs) /\ Below w.heap.size w w /\ val zs + 4294967296 ^ 0 * 0 = val (xs.take 0) + val (ys.take 0))
 go_enter Tryz.func229, Tryz.ntmps229
 go_wp2_with fail
 go_loopw [5, 6, 7] (fun v5 v6 v7 wr => ∃ i k : Nat, v7 = .int .i64 i /\ v6 = .int .u64 k /\ k <= 1 /\ i <= max xs.length ys.length + 1 /\ (i = max xs.length ys.length + 1 -> k = 0) /\ Hid (∃ zs, zs.length = i /\ Zj zs /\ wr.ownsRow w.heap.size 109 1 v5 i (Zh zs) /\ Below w.heap.size w wr /\ val zs + 4294967296 ^ i * k = val (xs.take i) + val (ys.take i))) (fun _ _ v7 _ => max xs.length ys.length + 1 - (intOf v7).toNat)
 case atStart => exact ⟨0, 0, rfl, rfl, by omega, Nat.zero_le _, fun _ => rfl, H0⟩
 case round =>
  obtain ⟨i, k, rfl, rfl, hk, hi', hk0, HR⟩ := hrel
  clear H0
  obtain ⟨zs, hzl, hz, hrow, hb, hv⟩ := HR.out
  have HV := Hd hv
  have HZ := Hd hz
  clear HR hv hz
  have hmax : max xs.length ys.length <= 1073741824 := by omega
  have step : ∀ x y : Nat, x = JU xs i -> y = JU ys i -> val (zs ++ [(x + y + k) % 4294967296]) + 4294967296 ^ (i + 1) * ((x + y + k) / 4294967296) = val (xs.take (i + 1)) + val (ys.take (i + 1)) := fun x y hx hy => by
    rw [add_step hzl (x + y + k) HV.out (x + y) rfl, Xu xs i, Xu ys i, <- hx, <- hy, Nat.mul_add]
    omega
  have hi2 : i <= 1073741825 := by omega
  by_cases hA : i < xs.length
  . by_cases hB : i < ys.length
    . have a1 : (i : Int) < (xs.length : Int) := by omega
      obtain ⟨ad, rfl, hbl, hx⟩ := (HX.out.below hb).reads.get hA
      have hbx := Zs HX.out.limbs hA
      have hxa := Hd (Yk hA)
      generalize xs[i] = x at hx hbx hxa
      clear hbl
      have b1 : (i : Int) < (ys.length : Int) := by omega
      obtain ⟨bd, rfl, hbl, hy⟩ := (HY.out.below hb).reads.get hB
      have hby := Zs HY.out.limbs hB
      have hya := Hd (Yk hB)
      generalize ys[i] = y at hy hby hya
      clear hbl
      have hs1 : ((k : Int) + (x : Int) + (y : Int)) % 4294967296 = (((x + y + k) % 4294967296 : Nat) : Int) := by omega
      have hs2 : ((k : Int) + (x : Int) + (y : Int)) / 4294967296 = (((x + y + k) / 4294967296 : Nat) : Int) := by omega
      have S := Hd (step x y hxa.out.symm hya.out.symm)
      have hq : (x + y + k) / 4294967296 <= 1 := by omega
      have hend : i = max xs.length ys.length -> (x + y + k) / 4294967296 = 0 := by intro h; omega
      have hd : (x + y + k) % 4294967296 < 4294967296 := Nat.mod_lt _ (by omega)
      generalize (x + y + k) / 4294967296 = cc at hs2 S hq hend
      generalize (x + y + k) % 4294967296 = dd at hs1 S hd
      have HE := Hd hend
      have HK0 := Hd hk0
      clear step hxa hya hend hk0 hmax
      skip
      go_wp2_with (at_builtin; refine Zw _ rfl (.tmp 48) (.tmp 52) _ rfl w.heap.size 109 i0 _ 1 4 Tryz.underlying22 hi hz0 hz1 hz2 rfl (by omega) _ i _ rfl (Zt hrow ((Below.refl _ _).alloc (Nat.le_refl _) _)) _ (some ⟨wr.heap.size, 0, none⟩) 1 1 [.int .u32 (dd : Int)] rfl (ZD.new1 wr _ 1 _ rfl) (by simp [Value.oneCell']) (by unfold maxLen; omega) (by omega) (by have := hb.size; simp; omega) ?_; intro v' w' ho' hg' hat')
      go_roundw
      case rel => exact ⟨i + 1, cc, by go_num, by rw [hs2], hq, by omega, fun h => HE.out (by omega), Hd ⟨zs ++ [dd], by simp [hzl], Xp HZ.out hd, by rw [show Zh (zs ++ [dd]) = Zh zs ++ [.int .u32 ((dd : Int))] by simp [Zh]]; exact ho', Xd (Zt hrow ((Below.refl _ _).alloc (Nat.le_refl _) _)) (hb.alloc hb.size _) (Nat.le_refl _) (by have := hb.size; simp; omega) hg', S.out⟩⟩
      case measure => simp [intOf]; omega
    . have a1 : (i : Int) < (xs.length : Int) := by omega
      obtain ⟨ad, rfl, hbl, hx⟩ := (HX.out.below hb).reads.get hA
      have hbx := Zs HX.out.limbs hA
      have hxa := Hd (Yk hA)
      generalize xs[i] = x at hx hbx hxa
      clear hbl
      have b1 : (ys.length : Int) <= (i : Int) := by omega
      have hya := Hd (Je (xs := ys) (k := i) (by omega))
      have hs1 : ((k : Int) + (x : Int)) % 4294967296 = (((x + 0 + k) % 4294967296 : Nat) : Int) := by omega
      have hs2 : ((k : Int) + (x : Int)) / 4294967296 = (((x + 0 + k) / 4294967296 : Nat) : Int) := by omega
      have S := Hd (step x 0 hxa.out.symm hya.out.symm)
      have hq : (x + 0 + k) / 4294967296 <= 1 := by omega
      have hend : i = max xs.length ys.length -> (x + 0 + k) / 4294967296 = 0 := by intro h; omega
      have hd : (x + 0 + k) % 4294967296 < 4294967296 := Nat.mod_lt _ (by omega)
      generalize (x + 0 + k) / 4294967296 = cc at hs2 S hq hend
      generalize (x + 0 + k) % 4294967296 = dd at hs1 S hd
      have HE := Hd hend
      have HK0 := Hd hk0
      clear step hxa hya hend hk0 hmax
      skip
      go_wp2_with (at_builtin; refine Zw _ rfl (.tmp 48) (.tmp 52) _ rfl w.heap.size 109 i0 _ 1 4 Tryz.underlying22 hi hz0 hz1 hz2 rfl (by omega) _ i _ rfl (Zt hrow ((Below.refl _ _).alloc (Nat.le_refl _) _)) _ (some ⟨wr.heap.size, 0, none⟩) 1 1 [.int .u32 (dd : Int)] rfl (ZD.new1 wr _ 1 _ rfl) (by simp [Value.oneCell']) (by unfold maxLen; omega) (by omega) (by have := hb.size; simp; omega) ?_; intro v' w' ho' hg' hat')
      go_roundw
      case rel => exact ⟨i + 1, cc, by go_num, by rw [hs2], hq, by omega, fun h => HE.out (by omega), Hd ⟨zs ++ [dd], by simp [hzl], Xp HZ.out hd, by rw [show Zh (zs ++ [dd]) = Zh zs ++ [.int .u32 ((dd : Int))] by simp [Zh]]; exact ho', Xd (Zt hrow ((Below.refl _ _).alloc (Nat.le_refl _) _)) (hb.alloc hb.size _) (Nat.le_refl _) (by have := hb.size; simp; omega) hg', S.out⟩⟩
      case measure => simp [intOf]; omega
  . by_cases hB : i < ys.length
    . have a1 : (xs.length : Int) <= (i : Int) := by omega
      have hxa := Hd (Je (xs := xs) (k := i) (by omega))
      have b1 : (i : Int) < (ys.length : Int) := by omega
      obtain ⟨bd, rfl, hbl, hy⟩ := (HY.out.below hb).reads.get hB
      have hby := Zs HY.out.limbs hB
      have hya := Hd (Yk hB)
      generalize ys[i] = y at hy hby hya
      clear hbl
      have hs1 : ((k : Int) + (y : Int)) % 4294967296 = (((0 + y + k) % 4294967296 : Nat) : Int) := by omega
      have hs2 : ((k : Int) + (y : Int)) / 4294967296 = (((0 + y + k) / 4294967296 : Nat) : Int) := by omega
      have S := Hd (step 0 y hxa.out.symm hya.out.symm)
      have hq : (0 + y + k) / 4294967296 <= 1 := by omega
      have hend : i = max xs.length ys.length -> (0 + y + k) / 4294967296 = 0 := by intro h; omega
      have hd : (0 + y + k) % 4294967296 < 4294967296 := Nat.mod_lt _ (by omega)
      generalize (0 + y + k) / 4294967296 = cc at hs2 S hq hend
      generalize (0 + y + k) % 4294967296 = dd at hs1 S hd
      have HE := Hd hend
      have HK0 := Hd hk0
      clear step hxa hya hend hk0 hmax
      skip
      go_wp2_with (at_builtin; refine Zw _ rfl (.tmp 48) (.tmp 52) _ rfl w.heap.size 109 i0 _ 1 4 Tryz.underlying22 hi hz0 hz1 hz2 rfl (by omega) _ i _ rfl (Zt hrow ((Below.refl _ _).alloc (Nat.le_refl _) _)) _ (some ⟨wr.heap.size, 0, none⟩) 1 1 [.int .u32 (dd : Int)] rfl (ZD.new1 wr _ 1 _ rfl) (by simp [Value.oneCell']) (by unfold maxLen; omega) (by omega) (by have := hb.size; simp; omega) ?_; intro v' w' ho' hg' hat')
      go_roundw
      case rel => exact ⟨i + 1, cc, by go_num, by rw [hs2], hq, by omega, fun h => HE.out (by omega), Hd ⟨zs ++ [dd], by simp [hzl], Xp HZ.out hd, by rw [show Zh (zs ++ [dd]) = Zh zs ++ [.int .u32 ((dd : Int))] by simp [Zh]]; exact ho', Xd (Zt hrow ((Below.refl _ _).alloc (Nat.le_refl _) _)) (hb.alloc hb.size _) (Nat.le_refl _) (by have := hb.size; simp; omega) hg', S.out⟩⟩
      case measure => simp [intOf]; omega
    . rcases (by omega : k = 0 ∨ k = 1) with rfl | rfl
      . have a1 : (xs.length : Int) <= (i : Int) := by omega
        have b1 : (ys.length : Int) <= (i : Int) := by omega
        have hval := HV.out
        rw [Z4 (xs := xs) (k := i) (by omega), Z4 (xs := ys) (k := i) (by omega)] at hval
        have hown := XF.of_row HZ.out (by rw [hzl]; exact hrow)
        have hval2 : val zs = val xs + val ys := by omega
        rw [hval2, hzl] at hown
        have HO := Hd (hown.longer hi')
        have HB := Hd hb
        clear hown hval hval2 step hrow hb hmax
        go_wp2_with fail
        go_ret
        exact ⟨_, rfl, HO.out, HB.out⟩
      . have hi3 : i <= max xs.length ys.length := by omega
        have a1 : (xs.length : Int) <= (i : Int) := by omega
        have hxa := Hd (Je (xs := xs) (k := i) (by omega))
        have b1 : (ys.length : Int) <= (i : Int) := by omega
        have hya := Hd (Je (xs := ys) (k := i) (by omega))
        have hs1 : (((1 : Nat) : Int)) % 4294967296 = (((0 + 0 + 1) % 4294967296 : Nat) : Int) := by omega
        have hs2 : (((1 : Nat) : Int)) / 4294967296 = (((0 + 0 + 1) / 4294967296 : Nat) : Int) := by omega
        have S := Hd (step 0 0 hxa.out.symm hya.out.symm)
        have hq : (0 + 0 + 1) / 4294967296 <= 1 := by omega
        have hend : i = max xs.length ys.length -> (0 + 0 + 1) / 4294967296 = 0 := by intro h; omega
        have hd : (0 + 0 + 1) % 4294967296 < 4294967296 := Nat.mod_lt _ (by omega)
        obtain ⟨dd, hdd⟩ : ∃ n : Nat, n = 1 := ⟨1, rfl⟩
        obtain ⟨cc, hcc⟩ : ∃ n : Nat, n = 0 := ⟨0, rfl⟩
        simp only [show (0 + 0 + 1) % 4294967296 = dd by omega, show (0 + 0 + 1) / 4294967296 = cc by omega] at S hq hend hd
        subst hdd hcc
        clear hs1 hs2
        have HE := Hd hend
        have HK0 := Hd hk0
        clear step hxa hya hend hk0 hmax
        skip
        go_wp2_with (at_builtin; refine Zw _ rfl (.tmp 48) (.tmp 52) _ rfl w.heap.size 109 i0 _ 1 4 Tryz.underlying22 hi hz0 hz1 hz2 rfl (by omega) _ i _ rfl (Zt hrow ((Below.refl _ _).alloc (Nat.le_refl _) _)) _ (some ⟨wr.heap.size, 0, none⟩) 1 1 [.int .u32 (1 : Int)] rfl (ZD.new1 wr _ 1 _ rfl) (by simp [Value.oneCell']) (by unfold maxLen; omega) (by omega) (by have := hb.size; simp; omega) ?_; intro v' w' ho' hg' hat')
        go_roundw
        case rel => exact ⟨i + 1, 0, by go_num, rfl, hq, by omega, fun h => HE.out (by omega), Hd ⟨zs ++ [1], by simp [hzl], Xp HZ.out hd, by rw [show Zh (zs ++ [1]) = Zh zs ++ [.int .u32 (1)] by simp [Zh]]; exact ho', Xd (Zt hrow ((Below.refl _ _).alloc (Nat.le_refl _) _)) (hb.alloc hb.size _) (Nat.le_refl _) (by have := hb.size; simp; omega) hg', S.out⟩⟩
        case measure => simp [intOf]; omega

theorem ref_subN (A B : Option Addr) (c d : Nat) (xs ys : List Nat) (hle : ys.length <= xs.length) (hvl : val ys <= val xs) (hl : xs.length <= 1073741824) (w : World) (h : Zm w A c xs) (g : Zm w B d ys) :
  Calls Tryz.prog 279 #[.slice A xs.length c, .slice B ys.length d] w (RetN w.heap.size w (val xs - val ys)) := by
 have HX := Hd h
 have HY := Hd g
 have HVL := Hd hvl
 clear h g hvl
 obtain ⟨i0, hi, hz0, hz1, hz2⟩ := info_parts YC
 have H0 := Hd (⟨[], rfl, by simp [Zj], World.ownsRow_nil _ _ _ _, Below.refl _ _, rfl⟩ : ∃ zs, zs.length = 0 /\ Zj zs /\ w.ownsRow w.heap.size 109 1 (.slice none 0 0) 0 (Zh zs) /\ Below w.heap.size w w /\ val zs + val (ys.take 0) = val (xs.take 0) + 4294967296 ^ 0 * 0)
 go_enter Tryz.func279, Tryz.ntmps279
 go_wp2_with fail
 go_loopw [5, 6, 7] (fun v5 v6 v7 wr => ∃ i k : Nat, v7 = .int .i64 i /\ v6 = .int .u64 k /\ k <= 1 /\ i <= xs.length /\ Hid (∃ zs, zs.length = i /\ Zj zs /\ wr.ownsRow w.heap.size 109 1 v5 i (Zh zs) /\ Below w.heap.size w wr /\ val zs + val (ys.take i) = val (xs.take i) + 4294967296 ^ i * k)) (fun _ _ v7 _ => xs.length - (intOf v7).toNat)
 case atStart => exact ⟨0, 0, rfl, rfl, by omega, Nat.zero_le _, H0⟩
 case round =>
  obtain ⟨i, k, rfl, rfl, hk, hi', HR⟩ := hrel
  clear H0
  obtain ⟨zs, hzl, hz, hrow, hb, hv⟩ := HR.out
  have HV := Hd hv
  have HZ := Hd hz
  clear HR hv hz
  by_cases hA : i < xs.length
  . have hi2 : i <= 1073741825 := by omega
    have a1 : (i : Int) < (xs.length : Int) := by omega
    obtain ⟨ad, rfl, hbl, hx⟩ := (HX.out.below hb).reads.get hA
    have hbx := Zs HX.out.limbs hA
    have step : ∀ y dd cc : Nat, y = JU ys i -> dd + y + k = xs[i] + 4294967296 * cc -> val (zs ++ [dd]) + val (ys.take (i + 1)) = val (xs.take (i + 1)) + 4294967296 ^ (i + 1) * cc := fun y dd cc hy hcc => by
      rw [Zx hA, Xu ys i, <- hy, sub_step hzl HV.out xs[i] y dd cc hcc]
    generalize xs[i] = x at hx hbx step
    clear hbl
    by_cases hB : i < ys.length
    . obtain ⟨bd, rfl, hbl, hy⟩ := (HY.out.below hb).reads.get hB
      have hby := Zs HY.out.limbs hB
      have hya := Hd (Yk hB)
      generalize ys[i] = y at hy hby hya
      clear hbl
      by_cases hlt : x < k + y
      . have b1 : (i : Int) < (ys.length : Int) := by omega
        have hlt2 : (x : Int) < (k : Int) + (y : Int) := by omega
        obtain ⟨dd, hdd⟩ : ∃ dd : Nat, dd = x + 4294967296 - k - y := ⟨_, rfl⟩
        have hd : dd < 4294967296 := by omega
        have hs1 : (x : Int) + 4294967296 - ((k : Int) + (y : Int)) = (dd : Int) := by omega
        have S := Hd (step y dd 1 hya.out.symm (by omega))
        clear step hdd
        go_wp2_with (at_builtin; refine Zw _ rfl (.tmp 38) (.tmp 43) _ rfl w.heap.size 109 i0 _ 1 4 Tryz.underlying22 hi hz0 hz1 hz2 rfl (by omega) _ i _ rfl (Zt hrow ((Below.refl _ _).alloc (Nat.le_refl _) _)) _ (some ⟨wr.heap.size, 0, none⟩) 1 1 [.int .u32 (dd : Int)] rfl (ZD.new1 wr _ 1 _ rfl) (by simp [Value.oneCell']) (by unfold maxLen; omega) (by omega) (by have := hb.size; simp; omega) ?_; intro v' w' ho' hg' hat')
        go_roundw
        case rel => exact ⟨i + 1, 1, by go_num, rfl, by omega, by omega, Hd ⟨zs ++ [dd], by simp [hzl], Xp HZ.out hd, by rw [show Zh (zs ++ [dd]) = Zh zs ++ [.int .u32 (dd : Int)] by simp [Zh]]; exact ho', Xd (Zt hrow ((Below.refl _ _).alloc (Nat.le_refl _) _)) (hb.alloc hb.size _) (Nat.le_refl _) (by have := hb.size; simp; omega) hg', S.out⟩⟩
        case measure => simp [intOf]; omega
      . have b1 : (i : Int) < (ys.length : Int) := by omega
        have hlt2 : (k : Int) + (y : Int) <= (x : Int) := by omega
        obtain ⟨dd, hdd⟩ : ∃ dd : Nat, dd = x - k - y := ⟨_, rfl⟩
        have hd : dd < 4294967296 := by omega
        have hs1 : (x : Int) - ((k : Int) + (y : Int)) = (dd : Int) := by omega
        have S := Hd (step y dd 0 hya.out.symm (by omega))
        clear step hdd
        go_wp2_with (at_builtin; refine Zw _ rfl (.tmp 38) (.tmp 43) _ rfl w.heap.size 109 i0 _ 1 4 Tryz.underlying22 hi hz0 hz1 hz2 rfl (by omega) _ i _ rfl (Zt hrow ((Below.refl _ _).alloc (Nat.le_refl _) _)) _ (some ⟨wr.heap.size, 0, none⟩) 1 1 [.int .u32 (dd : Int)] rfl (ZD.new1 wr _ 1 _ rfl) (by simp [Value.oneCell']) (by unfold maxLen; omega) (by omega) (by have := hb.size; simp; omega) ?_; intro v' w' ho' hg' hat')
        go_roundw
        case rel => exact ⟨i + 1, 0, by go_num, rfl, by omega, by omega, Hd ⟨zs ++ [dd], by simp [hzl], Xp HZ.out hd, by rw [show Zh (zs ++ [dd]) = Zh zs ++ [.int .u32 (dd : Int)] by simp [Zh]]; exact ho', Xd (Zt hrow ((Below.refl _ _).alloc (Nat.le_refl _) _)) (hb.alloc hb.size _) (Nat.le_refl _) (by have := hb.size; simp; omega) hg', S.out⟩⟩
        case measure => simp [intOf]; omega
    . by_cases hlt : x < k
      . have b1 : (ys.length : Int) <= (i : Int) := by omega
        have hlt2 : (x : Int) < (k : Int) := by omega
        obtain ⟨dd, hdd⟩ : ∃ dd : Nat, dd = x + 4294967296 - k - 0 := ⟨_, rfl⟩
        have hd : dd < 4294967296 := by omega
        have hs1 : (x : Int) + 4294967296 - (k : Int) = (dd : Int) := by omega
        have S := Hd (step 0 dd 1 (Je (by omega)).symm (by omega))
        clear step hdd
        go_wp2_with (at_builtin; refine Zw _ rfl (.tmp 38) (.tmp 43) _ rfl w.heap.size 109 i0 _ 1 4 Tryz.underlying22 hi hz0 hz1 hz2 rfl (by omega) _ i _ rfl (Zt hrow ((Below.refl _ _).alloc (Nat.le_refl _) _)) _ (some ⟨wr.heap.size, 0, none⟩) 1 1 [.int .u32 (dd : Int)] rfl (ZD.new1 wr _ 1 _ rfl) (by simp [Value.oneCell']) (by unfold maxLen; omega) (by omega) (by have := hb.size; simp; omega) ?_; intro v' w' ho' hg' hat')
        go_roundw
        case rel => exact ⟨i + 1, 1, by go_num, rfl, by omega, by omega, Hd ⟨zs ++ [dd], by simp [hzl], Xp HZ.out hd, by rw [show Zh (zs ++ [dd]) = Zh zs ++ [.int .u32 (dd : Int)] by simp [Zh]]; exact ho', Xd (Zt hrow ((Below.refl _ _).alloc (Nat.le_refl _) _)) (hb.alloc hb.size _) (Nat.le_refl _) (by have := hb.size; simp; omega) hg', S.out⟩⟩
        case measure => simp [intOf]; omega
      . have b1 : (ys.length : Int) <= (i : Int) := by omega
        have hlt2 : (k : Int) <= (x : Int) := by omega
        obtain ⟨dd, hdd⟩ : ∃ dd : Nat, dd = x - k - 0 := ⟨_, rfl⟩
        have hd : dd < 4294967296 := by omega
        have hs1 : (x : Int) - (k : Int) = (dd : Int) := by omega
        have S := Hd (step 0 dd 0 (Je (by omega)).symm (by omega))
        clear step hdd
        go_wp2_with (at_builtin; refine Zw _ rfl (.tmp 38) (.tmp 43) _ rfl w.heap.size 109 i0 _ 1 4 Tryz.underlying22 hi hz0 hz1 hz2 rfl (by omega) _ i _ rfl (Zt hrow ((Below.refl _ _).alloc (Nat.le_refl _) _)) _ (some ⟨wr.heap.size, 0, none⟩) 1 1 [.int .u32 (dd : Int)] rfl (ZD.new1 wr _ 1 _ rfl) (by simp [Value.oneCell']) (by unfold maxLen; omega) (by omega) (by have := hb.size; simp; omega) ?_; intro v' w' ho' hg' hat')
        go_roundw
        case rel => exact ⟨i + 1, 0, by go_num, rfl, by omega, by omega, Hd ⟨zs ++ [dd], by simp [hzl], Xp HZ.out hd, by rw [show Zh (zs ++ [dd]) = Zh zs ++ [.int .u32 (dd : Int)] by simp [Zh]]; exact ho', Xd (Zt hrow ((Below.refl _ _).alloc (Nat.le_refl _) _)) (hb.alloc hb.size _) (Nat.le_refl _) (by have := hb.size; simp; omega) hg', S.out⟩⟩
        case measure => simp [intOf]; omega
  . obtain rfl : i = xs.length := by omega
    have hval : val zs = val xs - val ys := by
      have e2 := HV.out
      rw [Z4 (xs := xs) (k := xs.length) (Nat.le_refl _), Z4 (xs := ys) (k := xs.length) (by omega)] at e2
      have e3 := Y7 HZ.out
      rw [hzl] at e3
      have e4 := HVL.out
      rcases (by omega : k = 0 ∨ k = 1) with rfl | rfl
      . omega
      . generalize 4294967296 ^ xs.length = P at *
        omega
    obtain ⟨A1, c1, zs', he, hl1, hl2, hl3, hl4, hl5, hl6⟩ := (XF.of_row HZ.out (by rw [hzl]; exact hrow)).form
    have hraw : Zm wr A1 c1 zs' := ⟨hl1, hl4, hl5, ZD.of_own hl6⟩
    have hraw2 := fun V (e : V = wr) => Xo A1 c1 zs' hl1 hl4 hl5 V.heap.size V (e ▸ hraw.reads)
    have C := Hd (hraw2 wr rfl)
    subst he
    have hown := XF.cut hl1 hl4 hl5 hl6 (L := xs.length) (by omega)
    rw [hl2, hval] at hown
    have HO := Hd hown
    have HB := Hd hb
    have hz2' := hl2
    rw [hval] at hz2'
    have HZ2 := Hd hz2'
    clear hown hval hz2' HV HZ HX HY hrow hb hraw hraw2 hl1 hl2 hl6
    go_wp2_with (first | (go_at_call 228; with_reducible refine C.out.mono ?_; rintro e w' ⟨rfl, rfl⟩))
    go_ret
    exact ⟨_, rfl, by rw [HZ2.out]; exact Yx.of_ownL HO.out, HB.out⟩

theorem ZJ.stays {w w' : World} {g : Nat} {t : TypeId} {cs : Array Value} {row : Option Nat} (h : ZJ w g t cs) (hg : w.grownBy w' row) (hn : some g ≠ row) : ZJ w' g t cs := (hg.block g h.lt hn).trans h

structure Yg (w : World) (g cap : Nat) (zs : List Nat) : Prop where
 ex : ∃ rest : List Value, zs.length + rest.length = cap /\ ZJ w g 109 (Zh zs ++ rest).toArray
theorem YJ.front {w : World} {g : Nat} {zs : List Nat} (h : YJ w g zs) : Yg w g zs.length zs := ⟨[], rfl, by simpa using h.blk⟩
theorem Yg.lt {w : World} {g cap : Nat} {zs : List Nat} (h : Yg w g cap zs) : g < w.heap.size := by
 obtain ⟨rest, -, hb⟩ := h.ex
 exact hb.lt
theorem Yg.fits {w : World} {g cap : Nat} {zs : List Nat} (h : Yg w g cap zs) : zs.length <= cap := by
 obtain ⟨rest, he, -⟩ := h.ex
 omega
theorem Yg.cell {w : World} {g cap : Nat} {zs : List Nat} (h : Yg w g cap zs) {k : Nat} (hk : k < zs.length) : w.cell? ⟨g, k, none⟩ = some (.int .u32 zs[k]) := by
 obtain ⟨rest, -, hb⟩ := h.ex
 rw [hb.cell, List.getElem?_toArray, List.getElem?_append_left (by rw [ZI]; exact hk), YY hk]
theorem Yg.frozen {w : World} {g cap : Nat} {zs : List Nat} (h : Yg w g cap zs) (k : Nat) : w.frozen? ⟨g, k, none⟩ = false := by
 obtain ⟨rest, -, hb⟩ := h.ex
 exact hb.frozen k
theorem Yg.set {w : World} {g cap : Nat} {zs : List Nat} (h : Yg w g cap zs) {k : Nat} (hk : k < zs.length) (d : Nat) : Yg (w.setCell ⟨g, k, none⟩ (.int .u32 (d : Int))) g cap (zs.set k d) := by
 obtain ⟨rest, he, hb⟩ := h.ex
 refine ⟨rest, by simpa using he, ?_⟩
 have e : (Zh (zs.set k d) ++ rest).toArray = (Zh zs ++ rest).toArray.setIfInBounds k (.int .u32 (d : Int)) := by
  rw [List.setIfInBounds_toArray, List.set_append_left _ _ (by rw [ZI]; exact hk)]
  simp [Zh, List.map_set]
 rw [e]
 exact hb.set_ k _
theorem Yg.stays {w w' : World} {g cap : Nat} {zs : List Nat} {row : Option Nat} (h : Yg w g cap zs) (hg : w.grownBy w' row) (hn : some g ≠ row) : Yg w' g cap zs := by
 obtain ⟨rest, he, hb⟩ := h.ex
 exact ⟨rest, he, hb.stays hg hn⟩
theorem Yg.below {w w' : World} {g cap : Nat} {zs : List Nat} (h : Yg w g cap zs) (hb : Below w.heap.size w w') : Yg w' g cap zs := by
 obtain ⟨rest, he, hk⟩ := h.ex
 exact ⟨rest, he, hk.below hb hk.lt⟩
theorem Yg.alloc {w : World} {g cap : Nat} {zs : List Nat} (h : Yg w g cap zs) (o : Obj) : Yg (w.alloc o) g cap zs := h.below ((Below.refl _ _).alloc (Nat.le_refl _) o)
theorem Yg.cut {w : World} {g cap : Nat} {zs : List Nat} (h : Yg w g cap zs) (n : Nat) : Yg w g cap (zs.take n) := by
 obtain ⟨rest, he, hb⟩ := h.ex
 refine ⟨Zh (zs.drop n) ++ rest, by simp [ZI]; omega, ?_⟩
 rw [<- List.append_assoc, show Zh (zs.take n) ++ Zh (zs.drop n) = Zh zs by rw [Zh, Zh, <- List.map_append, List.take_append_drop]; rfl]
 exact hb
theorem Yg.own {w : World} {g cap base : Nat} {zs : List Nat} (h : Yg w g cap zs) (hb : base <= g) {n : Nat} (hn : n <= zs.length) (hm : cap <= 9223372036854775807) :
  w.ownsRow base 109 1 (.slice (some ⟨g, 0, none⟩) n cap) n (Zh (zs.take n)) := by
 obtain ⟨rest, he, hk⟩ := h.ex
 refine ⟨by rw [ZI, List.length_take]; omega, .inr ⟨g, cap, (Zh zs ++ rest).toArray, rfl, hb, hk, by omega, by unfold maxLen; omega, by simp [Zh]; omega, ?_⟩⟩
 rw [Nat.mul_one, XR, List.take_append_of_le_length (by rw [ZI]; exact hn)]
theorem Yg.reads {w : World} {g cap : Nat} {zs : List Nat} (h : Yg w g cap zs) : Jg w w.heap.size (some ⟨g, 0, none⟩) zs := by
 refine ⟨by rw [ZI, Nat.mul_one], fun _ => ⟨⟨g, 0, none⟩, rfl, h.lt, fun j u hu => ?_⟩⟩
 have hj : j < zs.length := by
  have := (List.getElem?_eq_some_iff.1 hu).1
  rwa [ZI] at this
 rw [YY hj] at hu
 have e : (⟨g, 0, none⟩ : Addr).add j = ⟨g, j, none⟩ := by unfold Addr.add; split <;> simp_all
 rw [e, <- hu]
 exact h.cell hj
theorem Yg.raw {w : World} {g cap : Nat} {zs : List Nat} (h : Yg w g cap zs) (hm : cap <= 9223372036854775807) (hz : Zj zs) : Zm w (some ⟨g, 0, none⟩) cap zs := ⟨hz, h.fits, hm, h.reads⟩

structure OwnX (w : World) (base : Nat) (v : Value) (zs : List Nat) : Prop where
 limbs : Zj zs
 form : ∃ A c, v = .slice A zs.length c /\ zs.length <= c /\ c <= 9223372036854775807 /\ w.ownsRow base 109 1 (.slice A zs.length c) zs.length (Zh zs)
theorem OwnX.front {w : World} {base : Nat} {v : Value} {zs : List Nat} (h : OwnX w base v zs) (h0 : zs ≠ []) : ∃ g cap, v = .slice (some ⟨g, 0, none⟩) zs.length cap /\ base <= g /\ cap <= 9223372036854775807 /\ Yg w g cap zs := by
 obtain ⟨A, c, h1, h2, h3, h4⟩ := h.form
 have hne : zs.length ≠ 0 := fun h => h0 (List.eq_nil_of_length_eq_zero h)
 rcases h4.2 with ⟨k1, k2⟩ | ⟨g, cap, cur, k1, k2, k3, k4, k5, k6, k7⟩
 . exact absurd k2 hne
 . rw [h1, k1]
   refine ⟨g, cap, rfl, k2, by simp only [maxLen] at k5; omega, cur.toList.drop zs.length, ?_, ?_⟩
   . have : cur.toList.length = cap := by rw [Array.length_toList]; omega
     rw [List.length_drop]; omega
   . rw [Nat.mul_one] at k7
     rw [<- k7, List.take_append_drop]
     exact k3
theorem OwnX.of_own {w : World} {base : Nat} {v : Value} {zs : List Nat} (hz : Zj zs) (h : w.ownsRow base 109 1 v zs.length (Zh zs)) : OwnX w base v zs := by
 rcases h.2 with ⟨rfl, k2⟩ | ⟨g, cap, cur, rfl, k2, k3, k4, k5, k6, k7⟩
 . obtain rfl := List.eq_nil_of_length_eq_zero k2
   exact ⟨hz, none, 0, rfl, Nat.le_refl _, by omega, h⟩
 . exact ⟨hz, _, cap, rfl, k4, by simp only [maxLen] at k5; omega, h⟩
theorem JA (A : Option Addr) (c : Nat) (xs : List Nat) (hl : xs.length <= 1073741824) (w : World) (h : Zm w A c xs) :
   Calls Tryz.prog 162 #[.slice A xs.length c] w fun e w' => ∃ v, e = .returned v /\ OwnX w' w.heap.size v xs /\ Below w.heap.size w w' := by
 have qT : ∀ (w : World) (A : Option Addr) (n c : Nat), (binOp .eql 22 (.slice A n c) (.slice none 0 0)).run Tryz.prog w = .ok (.bool A.isNone) w := fun w A n c => Lib.run_eql_slice_nil w _ _ A n c 0 0 Tryz.underlying22
 rcases A with _ | ad
 . have hx : xs = [] := by
    rcases Nat.eq_zero_or_pos xs.length with h0 | h0
    . exact List.eq_nil_of_length_eq_zero h0
    . obtain ⟨ad, e, -⟩ := h.reads.get h0
      cases e
   subst hx
   have hl0 := h.limbs
   clear h
   go_enter Tryz.func162, Tryz.ntmps162
   go_wp2_with fail
   go_ret
   exact ⟨_, rfl, ⟨hl0, none, 0, rfl, Nat.le_refl _, by omega, World.ownsRow_nil _ _ _ _⟩, Below.refl _ _⟩
 . obtain ⟨i0, hi, hz0, hz1, hz2⟩ := info_parts YC
   have hc := h.cap
   have HX := Hd h
   clear h
   go_enter Tryz.func162, Tryz.ntmps162
   go_wp2_with (at_builtin; refine Zw _ rfl (.tmp 5) (.tmp 6) _ rfl w.heap.size 109 i0 _ 1 4 Tryz.underlying22 hi hz0 hz1 hz2 rfl (by omega) _ 0 _ rfl (World.ownsRow_made w #[] 0 (Nat.le_refl _) (by unfold maxLen; omega) rfl) _ (some ad) xs.length c (Zh xs) rfl ((HX.out.alloc _).reads) (by intro u hu; simp [Zh] at hu; obtain ⟨x, -, rfl⟩ := hu; simp [Value.oneCell']) (by unfold maxLen; omega) (by omega) (by simp) ?_; intro v' w' ho' hg' hat')
   go_ret
   refine ⟨_, rfl, OwnX.of_own HX.out.limbs (by simpa using ho'), ?_⟩
   exact Xd (World.ownsRow_made (size := 1) w #[] 0 (Nat.le_refl _) (by unfold maxLen; omega) rfl) ((Below.refl _ _).alloc (Nat.le_refl _) _) (Nat.le_refl _) (by simp) hg'

theorem or_join (h l : Nat) (hh : h < 4294967296) (hl : l < 4294967296) : bits .or .u64 ((h : Int) * 4294967296) (l : Int) = ((h * 4294967296 + l : Nat) : Int) := by
 have e := bits_or_u64_nat (h * 4294967296) l (by omega) (by omega)
 have e2 : h * 4294967296 ||| l = h * 4294967296 + l := by
  have := Nat.shiftLeft_add_eq_or_of_lt (i := 32) (b := l) (by omega) h
  rw [Nat.shiftLeft_eq] at this
  exact this.symm
 rw [e2] at e
 rw [<- e]
 simp

theorem bits_Div32 (h l y : Nat) (hh : h < y) (hl : l < 4294967296) (hy : y < 4294967296) (w : World) :
  Calls Tryz.prog 208 #[.int .u32 h, .int .u32 l, .int .u32 y] w fun e w' => e = .returned (.tuple #[.int .u32 ((h * 4294967296 + l) / y : Nat), .int .u32 ((h * 4294967296 + l) % y : Nat)]) /\ Below w.heap.size w w' /\ w.grownBy w' none := by
 have hy0 : (0 : Int) < (y : Int) := by omega
 have hyh : (h : Int) < (y : Int) := by omega
 have ej := or_join h l (by omega) hl
 have hq : (h * 4294967296 + l) / y < 4294967296 := by
  rw [Nat.div_lt_iff_lt_mul (by omega)]
  have := Nat.mul_le_mul_left 4294967296 (show h + 1 <= y from hh)
  omega
 have hr : (h * 4294967296 + l) % y < y := Nat.mod_lt _ (by omega)
 have hm : h * 4294967296 + l < 18446744073709551616 := by omega
 generalize hM : h * 4294967296 + l = M at *
 go_enter Tryz.func208, Tryz.ntmps208
 go_wp2_with fail
 go_quiet (fail)
 go_wp2_with fail
 go_ret2
 have e1 : IntKind.u64.wrap ((M : Int) / (y : Int)) % 4294967296 = ((M / y : Nat) : Int) := by
  rw [IntKind.wrap_u64, <- Int.natCast_ediv]
  generalize M / y = q at hq
  omega
 have e2 : (M : Int) % (y : Int) = ((M % y : Nat) : Int) := by rw [<- Int.natCast_emod]
 exact ⟨two_eq e1 e2, ZT (Below.refl _ _) _, ⟨rfl, rfl, rfl, Nat.le_refl _, fun _ _ _ => rfl⟩⟩

theorem Jz {zs : List Nat} {k d : Nat} (h : k < zs.length) : val ((zs.set k d).drop k) = d + 4294967296 * val (zs.drop (k + 1)) := by
 rw [List.drop_eq_getElem_cons (by simpa using h), val]
 rw [List.getElem_set_self, List.drop_set_of_lt (by omega)]
theorem short_step {Q R A d x : Nat} (h : Q * d + R = A) : ((R * 4294967296 + x) / d + 4294967296 * Q) * d + (R * 4294967296 + x) % d = x + 4294967296 * A := by
 have e := Nat.div_add_mod (R * 4294967296 + x) d
 rw [Nat.add_mul, Nat.mul_assoc 4294967296 Q d]
 rw [Nat.mul_comm d] at e
 generalize (R * 4294967296 + x) / d * d = a at *
 generalize Q * d = c at *
 omega

theorem grown_set {w0 w : World} {g : Nat} (h : w0.grownBy w (some g)) (k : Nat) (u : Value) : w0.grownBy (w.setCell ⟨g, k, none⟩ u) (some g) :=
 ⟨h.os, h.tape, h.output, by simpa [World.setCell] using h.size, fun b hb hn => (Below.heap_setCell _ ⟨g, k, none⟩ _ _ (fun e => hn (by rw [e]))).trans (h.block b hb hn)⟩
theorem grown_then {w0 w w' : World} {row : Option Nat} (h : w0.grownBy w row) (k : w.grownBy w' none) : w0.grownBy w' row :=
 ⟨k.os.trans h.os, k.tape.trans h.tape, k.output.trans h.output, Nat.le_trans h.size k.size, fun b hb hn => (k.block b (Nat.lt_of_lt_of_le hb h.size) (by simp)).trans (h.block b hb hn)⟩
theorem grown_below {w0 w : World} {g B : Nat} (h : w0.grownBy w (some g)) (hB : B <= g) (hs : B <= w0.heap.size) : Below B w0 w := (Below.refl B w0).grown h hs (fun k hk => by injection hk with hk; omega)

structure Shorted (w0 wr : World) (g cap : Nat) (zs : List Nat) (d k R : Nat) (zs' : List Nat) : Prop where
 len : zs'.length = zs.length
 limbs : Zj zs'
 row : Yg wr g cap zs'
 low : w0.grownBy wr (some g)
 here : zs'.take k = zs.take k
 done : val (zs'.drop k) * d + R = val (zs.drop k)
 rest : R < d
theorem Shorted.step {w0 wr wr' : World} {g cap : Nat} {zs zs' : List Nat} {d k R : Nat} (h : Shorted w0 wr g cap zs d (k + 1) R zs') (hk : k < zs.length) (hz : Zj zs) (hg : wr.grownBy wr' none) :
   Shorted w0 (wr'.setCell ⟨g, k, none⟩ (.int .u32 (((R * 4294967296 + zs[k]) / d : Nat) : Int))) g cap zs d k ((R * 4294967296 + zs[k]) % d) (zs'.set k ((R * 4294967296 + zs[k]) / d)) := by
 have hR := h.rest
 have hx := Zs hz hk
 have hq : (R * 4294967296 + zs[k]) / d < 4294967296 := by
   rw [Nat.div_lt_iff_lt_mul (by omega)]
   have := Nat.mul_le_mul_left 4294967296 (show R + 1 <= d from hR)
   omega
 have hrow : Yg wr' g cap zs' := h.row.stays hg (by simp)
 refine ⟨by simp [h.len], Yn h.limbs hq, hrow.set (by rw [h.len]; exact hk) _, grown_set (grown_then h.low hg) k _, ?_, ?_, Nat.mod_lt _ (by omega)⟩
 . have e := h.here
   rw [List.take_set_of_le (Nat.le_refl _)]
   have := congrArg (List.take k) e
   rwa [List.take_take, List.take_take, Nat.min_eq_left (by omega)] at this
 . rw [Jz (by rw [h.len]; exact hk), Yz hk]
   exact short_step h.done

theorem exact_short (g cap c d : Nat) (zs : List Nat) (hd : 0 < d) (hd2 : d < 4294967296) (hz : Zj zs) (hl : zs.length <= 1152921504606846976) (w : World) (h : Yg w g cap zs) :
  Calls Tryz.prog 165 #[.slice (some ⟨g, 0, none⟩) zs.length c, .int .u32 d] w fun e w' => e = .returned (.int .u32 ((val zs % d : Nat) : Int)) /\ ∃ zs', zs'.length = zs.length /\ Zj zs' /\ val zs' = val zs / d /\ Yg w' g cap zs' /\ w.grownBy w' (some g) := by
 have H0 := Hd (⟨zs, rfl, hz, h, World.grownBy.refl w _, rfl, by rw [List.drop_length]; simp [val], hd⟩ : ∃ zs', Shorted w w g cap zs d zs.length 0 zs')
 have HZ := Hd hz
 clear h hz
 go_enter Tryz.func165, Tryz.ntmps165
 go_wp2_with fail
 go_loopw [5, 6] (fun r s wr => ∃ k R : Nat, ∃ i : Int, s = .int .i64 i /\ i = (k : Int) - 1 /\ r = .int .u32 R /\ k <= zs.length /\ R < d /\ Hid (∃ zs', Shorted w wr g cap zs d k R zs')) (fun _ s _ => (intOf s + 1).toNat)
 case atStart => exact ⟨zs.length, 0, _, rfl, by omega, rfl, Nat.le_refl _, hd, H0⟩
 case round =>
  obtain ⟨k, R, i, rfl, hik, rfl, hk, hR, HR⟩ := hrel
  clear H0
  obtain ⟨zs', hs⟩ := HR.out
  have HS := Hd hs
  clear HR hs
  cases k with
  | zero =>
   obtain rfl : i = -1 := by omega
   clear hik
   have hv := HS.out.done
   have hres : (R : Nat) = val zs % d /\ val zs' = val zs / d := by
    simp only [List.drop_zero] at hv
    rw [<- hv]
    constructor
    . rw [Nat.mul_add_mod_self_right, Nat.mod_eq_of_lt hR]
    . rw [Nat.add_comm, Nat.add_mul_div_right _ _ hd, Nat.div_eq_of_lt hR, Nat.zero_add]
   have HV := Hd hres
   clear hres hv
   go_wp2_with fail
   go_ret
   exact ⟨by rw [HV.out.1]; rfl, zs', HS.out.len, HS.out.limbs, HV.out.2, HS.out.row, HS.out.low⟩
  | succ j =>
   obtain rfl : i = (j : Int) := by omega
   clear hik
   have a0 : (0 : Int) <= (j : Int) := by omega
   have a1 : (j : Int) < (zs.length : Int) := by omega
   have hj : j < zs.length := by omega
   have hj2 : j < zs'.length := by rw [HS.out.len]; exact hj
   have fz := HS.out.row.frozen j
   have hcell := HS.out.row.cell hj2
   have hsame : zs'[j] = zs[j] := by
    have e := congrArg (fun l : List Nat => l[j]?) HS.out.here
    simp only [List.getElem?_take, if_pos (Nat.lt_succ_self j)] at e
    rw [List.getElem?_eq_getElem hj2, List.getElem?_eq_getElem hj] at e
    exact Option.some.inj e
   rw [hsame] at hcell
   have hx := Zs HZ.out hj
   have S := Hd (fun (wr' : World) (hg : wr.grownBy wr' none) => HS.out.step hj HZ.out hg)
   have hR2 := (HS.out.step hj HZ.out (World.grownBy.refl wr none)).rest
   generalize zs[j] = x at hcell hx S hR2
   have C := Hd (fun V => bits_Div32 R x d hR hx hd2 V)
   have hlt := HS.out.row.lt
   generalize (R * 4294967296 + x) / d = qq at C S
   generalize (R * 4294967296 + x) % d = rr at C S hR2
   have HROW := Hd HS.out.row
   clear hsame HS
   go_wp2_with (first
    | (go_at_call 208; with_reducible refine (C.out _).mono ?_; rintro e w' ⟨rfl, hbx, hgx⟩; have hrow' : Yg w' g cap zs' := HROW.out.stays hgx (by simp); have fz2 := hrow'.frozen j; have hcell2 : w'.cell? ⟨g, j, none⟩ = some (.int .u32 x) := (World.cell?_of_block (hgx.block g hlt (by simp))).trans hcell; have hlt2 := hrow'.lt; clear hrow'))
   go_roundw
   case rel => exact ⟨j, rr, _, rfl, rfl, rfl, by omega, hR2, Hd ⟨_, S.out w' hgx⟩⟩
   case measure => simp [intOf]

structure Kt (w0 wr : World) (g : Nat) (xs : List Nat) (d k R : Nat) (zs' : List Nat) : Prop where
 len : zs'.length = xs.length
 limbs : Zj zs'
 row : YJ wr g zs'
 low : Below w0.heap.size w0 wr
 done : val (zs'.drop k) * d + R = val (xs.drop k)
 rest : R < d
theorem Kt.step {w0 wr : World} {g : Nat} {xs zs' : List Nat} {d k R : Nat} (h : Kt w0 wr g xs d (k + 1) R zs') (hk : k < xs.length) (hz : Zj xs) (hg : w0.heap.size <= g) :
  Kt w0 (wr.setCell ⟨g, k, none⟩ (.int .u32 (((R * 4294967296 + xs[k]) / d : Nat) : Int))) g xs d k ((R * 4294967296 + xs[k]) % d) (zs'.set k ((R * 4294967296 + xs[k]) / d)) /\ (R * 4294967296 + xs[k]) / d < 4294967296 := by
 have hR := h.rest
 have hx := Zs hz hk
 have hq : (R * 4294967296 + xs[k]) / d < 4294967296 := by
  rw [Nat.div_lt_iff_lt_mul (by omega)]
  have := Nat.mul_le_mul_left 4294967296 (show R + 1 <= d from hR)
  omega
 refine ⟨⟨by simp [h.len], Yn h.limbs hq, h.row.set k _, h.low.setCell (p := ⟨g, k, none⟩) hg _, ?_, Nat.mod_lt _ (by omega)⟩, hq⟩
 rw [Jz (by rw [h.len]; exact hk), Yz hk]
 exact short_step h.done

theorem ref_short (A : Option Addr) (c d : Nat) (xs : List Nat) (hd : 0 < d) (hd2 : d < 4294967296) (hl : xs.length <= 1073741824) (w : World) (h : Zm w A c xs) :
  Calls Tryz.prog 227 #[.slice A xs.length c, .int .u32 d] w fun e w' => ∃ v, e = .returned (.tuple #[v, .int .u32 ((val xs % d : Nat) : Int)]) /\ Yx w' w.heap.size v (val xs / d) /\ Below w.heap.size w w' := by
 have HX := Hd h
 have hc := h.cap
 have hm := h.most
 clear h
 obtain ⟨i0, hi, hz0, hz1, hz2⟩ := info_parts YC
 have hmk : ∀ W : World, (Instr.makeSlice 22 (.int .i64 (xs.length : Int)) (.int .i64 (xs.length : Int))).run Tryz.prog W = .ok (.slice (some ⟨W.heap.size, 0, none⟩) xs.length xs.length) (W.alloc (.cells (madeCells #[.int .u32 0] xs.length) 109)) := fun W => by
  have h := Ye (P := Tryz.prog) 22 109 i0 _ Tryz.underlying22 hi hz0 .i64 .i64 xs.length xs.length (by omega) (by rw [hz2]; omega) (by omega) W
  rw [hz1, Nat.mul_one] at h
  exact h
 have H0 := Hd (⟨_, by simp, Yr _, YJ.made w _, (Below.refl _ _).alloc (Nat.le_refl _) _, by rw [List.drop_of_length_le (by simp), List.drop_length]; simp [val], hd⟩ : ∃ zs', Kt w (w.alloc (.cells (madeCells #[.int .u32 0] xs.length) 109)) w.heap.size xs d xs.length 0 zs')
 go_enter Tryz.func227, Tryz.ntmps227
 go_wp2_with fail
 clear hmk
 go_loopw [7, 8] (fun r s wr => ∃ k R : Nat, ∃ i : Int, s = .int .i64 i /\ i = (k : Int) - 1 /\ r = .int .u64 R /\ k <= xs.length /\ R < d /\ Hid (∃ zs', Kt w wr w.heap.size xs d k R zs')) (fun _ s _ => (intOf s + 1).toNat)
 case atStart => exact ⟨xs.length, 0, _, rfl, by omega, rfl, Nat.le_refl _, hd, H0⟩
 case round =>
  obtain ⟨k, R, i, rfl, hik, rfl, hk, hR, HR⟩ := hrel
  clear H0
  obtain ⟨zs', hs⟩ := HR.out
  have HS := Hd hs
  clear HR hs
  cases k with
  | zero =>
   obtain rfl : i = -1 := by omega
   clear hik
   have hv := HS.out.done
   have hres : (R : Nat) = val xs % d /\ val zs' = val xs / d := by
    simp only [List.drop_zero] at hv
    rw [<- hv]
    constructor
    . rw [Nat.mul_add_mod_self_right, Nat.mod_eq_of_lt hR]
    . rw [Nat.add_comm, Nat.add_mul_div_right _ _ hd, Nat.div_eq_of_lt hR, Nat.zero_add]
   have HV := Hd hres
   have hown := HS.out.row.ownL_cut (base := w.heap.size) (Nat.le_refl _) (by rw [HS.out.len]; omega) HS.out.limbs
   have htrim := fun V (e : V = wr) => Xo (some ⟨w.heap.size, 0, none⟩) zs'.length zs' HS.out.limbs (Nat.le_refl _) (by rw [HS.out.len]; omega) V.heap.size V (e ▸ HS.out.row.reads)
   rw [HS.out.len] at htrim hown
   have C := Hd (htrim wr rfl)
   have HO := Hd hown
   have HB := Hd HS.out.low
   have hR2 : (R : Int) < 4294967296 := by omega
   clear hres hv hown htrim HS HX
   go_wp2_with (first | (go_at_call 228; with_reducible refine C.out.mono ?_; rintro e w' ⟨rfl, rfl⟩))
   go_ret2
   exact ⟨_, by rw [HV.out.1]; rfl, by rw [<- HV.out.2]; exact Yx.of_ownL HO.out, HB.out⟩
  | succ j =>
   obtain rfl : i = (j : Int) := by omega
   clear hik
   have a0 : (0 : Int) <= (j : Int) := by omega
   have a1 : (j : Int) < (xs.length : Int) := by omega
   have hj : j < xs.length := by omega
   have hj2 : j < zs'.length := by rw [HS.out.len]; exact hj
   have fz := HS.out.row.frozen j
   have hcell := HS.out.row.cell hj2
   generalize zs'[j] = old at hcell
   obtain ⟨ad, rfl, hbl, hxc⟩ := (HX.out.below HS.out.low).reads.get hj
   have hx := Zs HX.out.limbs hj
   obtain ⟨S, hq⟩ := HS.out.step hj HX.out.limbs (Nat.le_refl _)
   have hR2 := S.rest
   generalize xs[j] = x at hxc hx S hR2 hq
   have e1 : ((R : Int) * 4294967296 + (x : Int)) / (d : Int) = (((R * 4294967296 + x) / d : Nat) : Int) := by
    rw [show (R : Int) * 4294967296 + (x : Int) = ((R * 4294967296 + x : Nat) : Int) by omega, <- Int.natCast_ediv]
   have e2 : ((R : Int) * 4294967296 + (x : Int)) % (d : Int) = (((R * 4294967296 + x) % d : Nat) : Int) := by
    rw [show (R : Int) * 4294967296 + (x : Int) = ((R * 4294967296 + x : Nat) : Int) by omega, <- Int.natCast_emod]
   have hd0 : (0 : Int) < (d : Int) := by omega
   have SS := Hd S
   generalize (R * 4294967296 + x) / d = qq at e1 SS hq
   generalize (R * 4294967296 + x) % d = rr at e2 SS hR2
   have hq2 : (qq : Int) < 4294967296 := by omega
   clear S HS hbl
   have HE2 := Hd e2
   clear e2
   go_wp2_with fail
   go_roundw
   case rel => exact ⟨j, rr, _, rfl, rfl, by rw [HE2.out], by omega, hR2, Hd ⟨_, SS.out⟩⟩
   case measure => simp [intOf]

theorem or_u32_nat (a b : Nat) (ha : a < 4294967296) (hb : b < 4294967296) : bits .or .u32 (a : Int) (b : Int) = ((a ||| b : Nat) : Int) := by
 have hx : a ||| b < 2 ^ 32 := Nat.or_lt_two_pow (by omega) (by omega)
 have h1 : (BitVec.ofInt 32 (a : Int)).toNat = a := by
  rw [BitVec.ofInt_natCast, BitVec.toNat_ofNat]; exact Nat.mod_eq_of_lt (by omega)
 have h2 : (BitVec.ofInt 32 (b : Int)).toNat = b := by
  rw [BitVec.ofInt_natCast, BitVec.toNat_ofNat]; exact Nat.mod_eq_of_lt (by omega)
 show IntKind.u32.wrap ((BitVec.ofInt 32 (a : Int) ||| BitVec.ofInt 32 (b : Int)).toNat : Int) = _
 rw [BitVec.toNat_or, h1, h2, IntKind.wrap_u32']
 omega
theorem shl_mod (u n : Nat) (hn : n <= 32) : u * 2 ^ n % 4294967296 = (u % 2 ^ (32 - n)) * 2 ^ n := by
 have e : (4294967296 : Nat) = 2 ^ (32 - n) * 2 ^ n := by rw [<- Nat.pow_add, show 32 - n + n = 32 by omega]
 rw [e, Nat.mul_mod_mul_right]
theorem or_low (a n c : Nat) (hc : c < 2 ^ n) : a * 2 ^ n ||| c = a * 2 ^ n + c := by
 have := Nat.shiftLeft_add_eq_or_of_lt (i := n) (b := c) hc a
 rw [Nat.shiftLeft_eq] at this
 exact this.symm
theorem up_digit (u n c : Nat) (hn : n <= 32) (hu : u < 4294967296) (hc : c < 2 ^ n) :
   bits .or .u32 (((u * 2 ^ n % 4294967296 : Nat) : Int)) (c : Int) = ((u * 2 ^ n % 4294967296 + c : Nat) : Int) /\ u * 2 ^ n % 4294967296 + c < 4294967296 /\ u * 2 ^ n / 4294967296 < 2 ^ n := by
 have hp : 2 ^ n <= 2 ^ 32 := Nat.pow_le_pow_right (by omega) hn
 have hle : u % 2 ^ (32 - n) + 1 <= 2 ^ (32 - n) := Nat.mod_lt _ (Nat.two_pow_pos _)
 have h2 := Nat.mul_le_mul_right (2 ^ n) hle
 rw [<- Nat.pow_add, show 32 - n + n = 32 by omega, Nat.add_mul, Nat.one_mul, <- shl_mod u n hn] at h2
 refine ⟨?_, by omega, ?_⟩
 . rw [or_u32_nat _ _ (by omega) (by omega), shl_mod u n hn, or_low _ _ _ hc]
 . rw [Nat.div_lt_iff_lt_mul (by omega), Nat.mul_comm (2 ^ n)]
   exact Nat.mul_lt_mul_of_pos_right hu (Nat.two_pow_pos _)
theorem up_step {zs : List Nat} {k c va n : Nat} (hk : zs.length = k) (u : Nat) (h : val zs + 4294967296 ^ k * c = va * 2 ^ n) :
  val (zs ++ [u * 2 ^ n % 4294967296 + c]) + 4294967296 ^ (k + 1) * (u * 2 ^ n / 4294967296) = (va + 4294967296 ^ k * u) * 2 ^ n := by
 subst hk
 rw [XH, Nat.add_mul, <- h, Nat.pow_succ]
 generalize 4294967296 ^ zs.length = P
 have e : P * 4294967296 * (u * 2 ^ n / 4294967296) + P * (u * 2 ^ n % 4294967296) = P * u * 2 ^ n := by
  rw [Nat.mul_assoc, <- Nat.mul_add, Nat.div_add_mod, Nat.mul_assoc]
 rw [Nat.mul_add]
 omega

theorem in_pow (x n : Nat) : (x : Int) * 2 ^ n % 4294967296 = ((x * 2 ^ n % 4294967296 : Nat) : Int) := by simp
theorem wrap_pow (x n : Nat) (h : x * 2 ^ n < 18446744073709551616) : IntKind.u64.wrap ((x : Int) * 2 ^ n) = ((x * 2 ^ n : Nat) : Int) := by
 have e : (x : Int) * 2 ^ n = ((x * 2 ^ n : Nat) : Int) := by simp
 rw [e, IntKind.wrap_u64]
 omega
theorem out_pow (x n : Nat) (h : x * 2 ^ n / 4294967296 < 4294967296) : ((x * 2 ^ n : Nat) : Int) / 4294967296 % 4294967296 = ((x * 2 ^ n / 4294967296 : Nat) : Int) := by omega

theorem exact_up (A : Option Addr) (c n : Nat) (xs : List Nat) (hn : n <= 31) (hl : xs.length <= 1073741824) (w : World) (h : Zm w A c xs) :
  Calls Tryz.prog 253 #[.slice A xs.length c, .int .u64 n] w fun e w' => ∃ g zs, e = .returned (.slice (some ⟨g, 0, none⟩) (xs.length + 1) (xs.length + 1)) /\ w.heap.size <= g /\ zs.length = xs.length + 1 /\ Zj zs /\ val zs = val xs * 2 ^ n /\ YJ w' g zs /\ Below w.heap.size w w' := by
 have HX := Hd h
 have hc := h.cap
 have hm := h.most
 clear h
 obtain ⟨i0, hi, hz0, hz1, hz2⟩ := info_parts YC
 have hmk : ∀ W : World, (Instr.makeSlice 22 (.int .i64 ((xs.length : Int) + 1)) (.int .i64 ((xs.length : Int) + 1))).run Tryz.prog W = .ok (.slice (some ⟨W.heap.size, 0, none⟩) (xs.length + 1) (xs.length + 1)) (W.alloc (.cells (madeCells #[.int .u32 0] (xs.length + 1)) 109)) := fun W => by
  have h := Ye (P := Tryz.prog) 22 109 i0 _ Tryz.underlying22 hi hz0 .i64 .i64 (xs.length + 1) (xs.length + 1) (by omega) (by rw [hz2]; omega) (by omega) W
  rw [show ((xs.length + 1 : Nat) : Int) = (xs.length : Int) + 1 by omega, hz1, Nat.mul_one] at h
  exact h
 have I0 : ∃ zs, zs.length = xs.length + 1 /\ Zj zs /\ YJ (w.alloc (.cells (madeCells #[.int .u32 0] (xs.length + 1)) 109)) w.heap.size zs /\ Below w.heap.size w (w.alloc (.cells (madeCells #[.int .u32 0] (xs.length + 1)) 109)) /\ val (zs.take 0) + 4294967296 ^ 0 * 0 = val (xs.take 0) * 2 ^ n :=
  ⟨_, by simp, Yr _, YJ.made w _, (Below.refl _ _).alloc (Nat.le_refl _) _, by simp [val]⟩
 have H0 := Hd I0
 have hP := Nat.two_pow_pos n
 clear I0
 go_enter Tryz.func253, Tryz.ntmps253
 go_wp2_with fail
 clear hmk
 go_loopw [6, 15] (fun t s wr => ∃ i k : Nat, s = .int .i64 i /\ t = .int .u32 k /\ k < 2 ^ n /\ i <= xs.length /\ Hid (∃ zs, zs.length = xs.length + 1 /\ Zj zs /\ YJ wr w.heap.size zs /\ Below w.heap.size w wr /\ val (zs.take i) + 4294967296 ^ i * k = val (xs.take i) * 2 ^ n)) (fun _ s _ => xs.length - (intOf s).toNat)
 case atStart => exact ⟨0, 0, rfl, rfl, hP, Nat.zero_le _, H0⟩
 case round =>
  obtain ⟨i, k, rfl, rfl, hk, hi', HR⟩ := hrel
  clear H0
  obtain ⟨zs, hzl, hz, hrow, hb, hv⟩ := HR.out
  have HV := Hd hv
  have HZ := Hd hz
  clear HR hv hz
  by_cases hlt : i < xs.length
  . have a0 : (0 : Int) <= (i : Int) := by omega
    have a1 : (i : Int) < (xs.length : Int) := by omega
    have a2 : (i : Int) < (xs.length : Int) + 1 := by omega
    have fz := hrow.frozen i
    have hcell := hrow.cell (k := i) (by omega)
    obtain ⟨ad, rfl, hbl, hx⟩ := (HX.out.below hb).reads.get hlt
    have hbx := Zs HX.out.limbs hlt
    obtain ⟨e1, e2, e3⟩ := up_digit xs[i] n k (by omega) hbx hk
    have S := Hd (⟨zs.set i _, by simp [hzl], Yn HZ.out e2, hrow.set i _, hb.setCell (p := ⟨w.heap.size, i, none⟩) (Nat.le_refl _) _, by
      rw [Z7 (by omega), up_step (zs := zs.take i) (k := i) (by rw [List.length_take]; omega) xs[i] HV.out, Zx hlt]⟩ : ∃ zs', zs'.length = xs.length + 1 /\ Zj zs' /\ YJ (wr.setCell ⟨w.heap.size, i, none⟩ (.int .u32 ((xs[i] * 2 ^ n % 4294967296 + k : Nat) : Int))) w.heap.size zs' /\ Below w.heap.size w (wr.setCell ⟨w.heap.size, i, none⟩ (.int .u32 ((xs[i] * 2 ^ n % 4294967296 + k : Nat) : Int))) /\ val (zs'.take (i + 1)) + 4294967296 ^ (i + 1) * (xs[i] * 2 ^ n / 4294967296) = val (xs.take (i + 1)) * 2 ^ n)
    generalize zs[i] = zi at hcell
    generalize xs[i] = x at hx hbx S e1 e2 e3
    have e3b : x * 2 ^ n / 4294967296 < 4294967296 := Nat.lt_of_lt_of_le e3 (Nat.le_trans (Nat.pow_le_pow_right (by omega) (show n <= 32 by omega)) (by omega))
    have e4 : x * 2 ^ n < 18446744073709551616 := by omega
    clear hbl
    go_wp2_with fail
    go_roundw
    case rel => exact ⟨i + 1, x * 2 ^ n / 4294967296, by go_num, by rw [wrap_pow x n e4, out_pow x n e3b], e3, hlt, by rw [in_pow, e1]; exact S⟩
    case measure => simp [intOf]; omega
  . obtain rfl : i = xs.length := by omega
    have fz := hrow.frozen xs.length
    have hcell := hrow.cell (k := xs.length) (by omega)
    generalize zs[xs.length] = zi at hcell
    have a0 : (0 : Int) <= (xs.length : Int) := by omega
    have a2 : (xs.length : Int) < (xs.length : Int) + 1 := by omega
    have hk2 : k < 4294967296 := by
     have : 2 ^ n <= 2 ^ 31 := Nat.pow_le_pow_right (by omega) hn
     omega
    have hrow2 := hrow.set xs.length k
    have hb2 := hb.setCell (p := ⟨w.heap.size, xs.length, none⟩) (Nat.le_refl _) (.int .u32 (k : Int))
    have hval : val (zs.set xs.length k) = val xs * 2 ^ n := by
     have e := Z7 (zs := zs) (k := xs.length) (d := k) (by omega)
     rw [List.take_of_length_le (by simp; omega)] at e
     have e2 := HV.out
     rw [Z4 (xs := xs) (k := xs.length) (Nat.le_refl _)] at e2
     rw [e, XH, List.length_take, Nat.min_eq_left (by omega)]
     exact e2
    have HO := Hd (⟨zs.set xs.length k, by simp [hzl], Yn HZ.out hk2, hval, hrow2, hb2⟩ : ∃ zs', zs'.length = xs.length + 1 /\ Zj zs' /\ val zs' = val xs * 2 ^ n /\ YJ (wr.setCell ⟨w.heap.size, xs.length, none⟩ (.int .u32 (k : Int))) w.heap.size zs' /\ Below w.heap.size w (wr.setCell ⟨w.heap.size, xs.length, none⟩ (.int .u32 (k : Int))))
    clear hb2 hval hrow2 HV HZ HX
    go_wp2_with fail
    go_ret
    obtain ⟨zs', h1, h2, h3, h4, h5⟩ := HO.out
    exact ⟨w.heap.size, zs', rfl, Nat.le_refl _, h1, h2, h3, h4, h5⟩
end Go.Proofs.YtdonecnhdkjniaaGreatDoor
