/- Several texts in one: Row, RefAdd, Front, Short, Shl. -/
import Derived.Test.YtdonecnhdkjniaaGreatDoorGy03
set_option maxRecDepth 100000
set_option maxHeartbeats 8000000
namespace Go.Proofs.YtdonecnhdkjniaaGreatDoor
open Go.RowKit

structure Yr (w : World) (g : Nat) (zs : List Nat) : Prop where
 blk : Z2 w g 109 (Zv zs).toArray
theorem Yr.lt {w : World} {g : Nat} {zs : List Nat} (h : Yr w g zs) : g < w.heap.size := h.blk.lt
theorem Yr.below {w w' : World} {g : Nat} {zs : List Nat} (h : Yr w g zs) (hb : Below w.heap.size w w') : Yr w' g zs := ⟨h.blk.below hb h.blk.lt⟩
theorem Yr.alloc {w : World} {g : Nat} {zs : List Nat} (h : Yr w g zs) (o : Obj) : Yr (w.alloc o) g zs := ⟨h.blk.alloc o⟩
theorem Yr.cell {w : World} {g : Nat} {zs : List Nat} (h : Yr w g zs) {k : Nat} (hk : k < zs.length) : w.cell? ⟨g, k, none⟩ = some (.int .u32 zs[k]) := by
 rw [h.blk.cell, List.getElem?_toArray, Y2 hk]
theorem Yr.frozen {w : World} {g : Nat} {zs : List Nat} (h : Yr w g zs) (k : Nat) : w.frozen? ⟨g, k, none⟩ = false := h.blk.frozen k
theorem Yr.set {w : World} {g : Nat} {zs : List Nat} (h : Yr w g zs) (k d : Nat) : Yr (w.setCell ⟨g, k, none⟩ (.int .u32 (d : Int))) g (zs.set k d) := by
 have e : (Zv (zs.set k d)).toArray = (Zv zs).toArray.setIfInBounds k (.int .u32 (d : Int)) := by
  simp [Zv, List.map_set]
 exact ⟨by rw [e]; exact h.blk.set_ k _⟩
theorem Yr.made (w : World) (n : Nat) : Yr (w.alloc (.cells (madeCells #[.int .u32 0] n) 109)) w.heap.size (List.replicate n 0) := by
 have e : (Zv (List.replicate n 0)).toArray = madeCells #[.int .u32 0] n := by
  apply Array.ext
  . simp [Zv, size_madeCells]
  . intro i h1 h2
    have e : i % 1 = 0 := Nat.mod_one i
    simp [Zv, madeCells, e]
 exact ⟨by rw [e]; exact Z2.new w _ _⟩
theorem Yr.own {w : World} {g base : Nat} {zs : List Nat} (h : Yr w g zs) (hb : base <= g) {n : Nat} (hn : n <= zs.length) (hm : zs.length <= 70368744177664) :
  w.ownsRow base 109 1 (.slice (some ⟨g, 0, none⟩) n zs.length) n (Zv (zs.take n)) := by
 refine ⟨by rw [ZP, List.length_take]; omega, .inr ⟨g, zs.length, (Zv zs).toArray, rfl, hb, h.blk, hn, by unfold maxLen; omega, by simp [Zv], by simp [X9]⟩⟩

structure Js (w : World) (base : Nat) (v : Value) (n L : Nat) : Prop where
 form : ∃ A c zs, v = .slice A zs.length c /\ Zj zs /\ val zs = n /\ zs.length <= L /\ zs.length <= c /\ c <= 9223372036854775807 /\ w.ownsRow base 109 1 (.slice A zs.length c) zs.length (Zv zs)
theorem Js.below {w w' : World} {base : Nat} {v : Value} {n L : Nat} (h : Js w base v n L) (hb : Below w.heap.size w w') : Js w' base v n L := by
 obtain ⟨A, c, zs, h1, h2, h3, h4, h5, h6, h7⟩ := h.form
 exact ⟨A, c, zs, h1, h2, h3, h4, h5, h6, XK h7 hb⟩
theorem Js.base {w : World} {b b' : Nat} {v : Value} {n L : Nat} (h : Js w b v n L) (hb : b' <= b) : Js w b' v n L := by
 obtain ⟨A, c, zs, h1, h2, h3, h4, h5, h6, h7⟩ := h.form
 refine ⟨A, c, zs, h1, h2, h3, h4, h5, h6, h7.1, ?_⟩
 rcases h7.2 with h8 | ⟨g, cap, cur, k1, k2, k3⟩
 . exact .inl h8
 . exact .inr ⟨g, cap, cur, k1, Nat.le_trans hb k2, k3⟩
theorem Yr.ownL {w : World} {g base : Nat} {zs : List Nat} (h : Yr w g zs) (hb : base <= g) (hm : zs.length <= 70368744177664) (hz : Zj zs) : Js w base (.slice (some ⟨g, 0, none⟩) zs.length zs.length) (val zs) zs.length := by
 have := h.own hb (Nat.le_refl _) hm
 rw [List.take_length] at this
 exact ⟨_, _, zs, rfl, hz, rfl, Nat.le_refl _, Nat.le_refl _, by omega, this⟩
theorem Yr.ownL_cut {w : World} {g base : Nat} {zs : List Nat} (h : Yr w g zs) (hb : base <= g) (hm : zs.length <= 70368744177664) (hz : Zj zs) : Js w base (.slice (some ⟨g, 0, none⟩) (Za (val zs)).length zs.length) (val zs) zs.length := by
 have hle := Xp hz
 have := h.own hb hle hm
 rw [<- XL hz] at this
 exact ⟨_, _, Za (val zs), rfl, Y0 _, Z3 _, hle, hle, by omega, this⟩
theorem Yr.reads {w : World} {g : Nat} {zs : List Nat} (h : Yr w g zs) : ReadsU w w.heap.size (some ⟨g, 0, none⟩) zs := by
 refine ⟨by rw [ZP, Nat.mul_one], fun _ => ⟨⟨g, 0, none⟩, rfl, h.lt, fun j u hu => ?_⟩⟩
 have hj : j < zs.length := by
  have := (List.getElem?_eq_some_iff.1 hu).1
  rwa [ZP] at this
 rw [Y2 hj] at hu
 have e : (⟨g, 0, none⟩ : Addr).add j = ⟨g, j, none⟩ := by unfold Addr.add; split <;> simp_all
 rw [e, <- hu]
 exact h.cell hj
def RetL (base : Nat) (w : World) (n L : Nat) (e : Ending) (w' : World) : Prop := ∃ v, e = .returned v /\ Js w' base v n L /\ Below w.heap.size w w'

theorem Yu (neg : Bool) (v : Value) (n L base : Nat) (w : World) (h : Js w base v n L) :
   Calls Tryz.prog 161 #[.bool neg, v] w (Z1 base w (if neg then -(n : Int) else n)) := by
 obtain ⟨A, c, zs, rfl, h2, h3, h4, h5, h6, h7⟩ := h.form
 have hr : Zr w A c zs := ⟨h2, h5, h6, ZL.of_own h7⟩
 subst h3
 by_cases h0 : val zs = 0
 . refine (YT neg A c zs w hr h0).mono ?_
   rintro e w' ⟨rfl, hb⟩
   rw [h0]
   exact ⟨_, rfl, by cases neg <;> exact Zc.nought _ _, hb⟩
 . refine (Xb neg A c zs w hr h0).mono ?_
   rintro e w' ⟨rfl, hb⟩
   exact ⟨_, rfl, Zc.signed h2 (XK h7 hb) h5 h6 rfl h0, hb⟩
theorem ZO {zs : List Nat} {k d : Nat} (h : k < zs.length) : (zs.set k d).take (k + 1) = zs.take k ++ [d] := by
 rw [List.take_succ_eq_append_getElem (by simpa using h), List.take_set_of_le (Nat.le_refl _)]
 simp

structure Y6 (w : World) (base : Nat) (v : Value) (n : Nat) : Prop where
 form : ∃ A c, v = .slice A (Za n).length c /\ (Za n).length <= c /\ c <= 9223372036854775807 /\ w.ownsRow base 109 1 (.slice A (Za n).length c) (Za n).length (Zv (Za n))
theorem Y6.below {w w' : World} {base n : Nat} {v : Value} (h : Y6 w base v n) (hb : Below w.heap.size w w') : Y6 w' base v n := by
 obtain ⟨A, c, h1, h2, h3, h4⟩ := h.form
 exact ⟨A, c, h1, h2, h3, XK h4 hb⟩
theorem Y6.base {w : World} {b b' n : Nat} {v : Value} (h : Y6 w b v n) (hb : b' <= b) : Y6 w b' v n := by
 obtain ⟨A, c, h1, h2, h3, h4⟩ := h.form
 refine ⟨A, c, h1, h2, h3, h4.1, ?_⟩
 rcases h4.2 with h8 | ⟨g, cap, cur, k1, k2, k3⟩
 . exact .inl h8
 . exact .inr ⟨g, cap, cur, k1, Nat.le_trans hb k2, k3⟩
theorem Y6.raw {w : World} {base n : Nat} {v : Value} (h : Y6 w base v n) : ∃ A c, v = .slice A (Za n).length c /\ Zr w A c (Za n) := by
 obtain ⟨A, c, h1, h2, h3, h4⟩ := h.form
 exact ⟨A, c, h1, Y0 _, h2, h3, ZL.of_own h4⟩
theorem Y6.ownL {w : World} {base n L : Nat} {v : Value} (h : Y6 w base v n) (hL : (Za n).length <= L) : Js w base v n L := by
 obtain ⟨A, c, h1, h2, h3, h4⟩ := h.form
 exact ⟨A, c, Za n, h1, Y0 _, Z3 _, hL, h2, h3, h4⟩
theorem Y6.raw_ {w : World} {base n c : Nat} {A : Option Addr} (h : Y6 w base (.slice A (Za n).length c) n) : Zr w A c (Za n) := by
 obtain ⟨A', c', h1, h2⟩ := h.raw
 injection h1 with a1 a2 a3
 subst a1 a3
 exact h2
theorem natL_mono {a b : Nat} (h : a <= b) : (Za a).length <= (Za b).length := by
 rw [Z4]
 refine Nat.lt_of_le_of_lt h ?_
 have := YR (Y0 b)
 rwa [Z3] at this
def RetN (base : Nat) (w : World) (n : Nat) (e : Ending) (w' : World) : Prop := ∃ v, e = .returned v /\ Y6 w' base v n /\ Below w.heap.size w w'


theorem Z2.stays {w w' : World} {g : Nat} {t : TypeId} {cs : Array Value} {row : Option Nat} (h : Z2 w g t cs) (hg : w.grownBy w' row) (hn : some g ≠ row) : Z2 w' g t cs := (hg.block g h.lt hn).trans h

structure ZU (w : World) (g cap : Nat) (zs : List Nat) : Prop where
 ex : ∃ rest : List Value, zs.length + rest.length = cap /\ Z2 w g 109 (Zv zs ++ rest).toArray
theorem Yr.front {w : World} {g : Nat} {zs : List Nat} (h : Yr w g zs) : ZU w g zs.length zs := ⟨[], rfl, by simpa using h.blk⟩
theorem ZU.lt {w : World} {g cap : Nat} {zs : List Nat} (h : ZU w g cap zs) : g < w.heap.size := by
 obtain ⟨rest, -, hb⟩ := h.ex
 exact hb.lt
theorem ZU.fits {w : World} {g cap : Nat} {zs : List Nat} (h : ZU w g cap zs) : zs.length <= cap := by
 obtain ⟨rest, he, -⟩ := h.ex
 omega
theorem ZU.cell {w : World} {g cap : Nat} {zs : List Nat} (h : ZU w g cap zs) {k : Nat} (hk : k < zs.length) : w.cell? ⟨g, k, none⟩ = some (.int .u32 zs[k]) := by
 obtain ⟨rest, -, hb⟩ := h.ex
 rw [hb.cell, List.getElem?_toArray, List.getElem?_append_left (by rw [ZP]; exact hk), Y2 hk]
theorem ZU.frozen {w : World} {g cap : Nat} {zs : List Nat} (h : ZU w g cap zs) (k : Nat) : w.frozen? ⟨g, k, none⟩ = false := by
 obtain ⟨rest, -, hb⟩ := h.ex
 exact hb.frozen k
theorem ZU.set {w : World} {g cap : Nat} {zs : List Nat} (h : ZU w g cap zs) {k : Nat} (hk : k < zs.length) (d : Nat) : ZU (w.setCell ⟨g, k, none⟩ (.int .u32 (d : Int))) g cap (zs.set k d) := by
 obtain ⟨rest, he, hb⟩ := h.ex
 refine ⟨rest, by simpa using he, ?_⟩
 have e : (Zv (zs.set k d) ++ rest).toArray = (Zv zs ++ rest).toArray.setIfInBounds k (.int .u32 (d : Int)) := by
  rw [List.setIfInBounds_toArray, List.set_append_left _ _ (by rw [ZP]; exact hk)]
  simp [Zv, List.map_set]
 rw [e]
 exact hb.set_ k _
theorem ZU.stays {w w' : World} {g cap : Nat} {zs : List Nat} {row : Option Nat} (h : ZU w g cap zs) (hg : w.grownBy w' row) (hn : some g ≠ row) : ZU w' g cap zs := by
 obtain ⟨rest, he, hb⟩ := h.ex
 exact ⟨rest, he, hb.stays hg hn⟩
theorem ZU.below {w w' : World} {g cap : Nat} {zs : List Nat} (h : ZU w g cap zs) (hb : Below w.heap.size w w') : ZU w' g cap zs := by
 obtain ⟨rest, he, hk⟩ := h.ex
 exact ⟨rest, he, hk.below hb hk.lt⟩
theorem ZU.alloc {w : World} {g cap : Nat} {zs : List Nat} (h : ZU w g cap zs) (o : Obj) : ZU (w.alloc o) g cap zs := h.below ((Below.refl _ _).alloc (Nat.le_refl _) o)
theorem ZU.cut {w : World} {g cap : Nat} {zs : List Nat} (h : ZU w g cap zs) (n : Nat) : ZU w g cap (zs.take n) := by
 obtain ⟨rest, he, hb⟩ := h.ex
 refine ⟨Zv (zs.drop n) ++ rest, by simp [ZP]; omega, ?_⟩
 rw [<- List.append_assoc, show Zv (zs.take n) ++ Zv (zs.drop n) = Zv zs by rw [Zv, Zv, <- List.map_append, List.take_append_drop]; rfl]
 exact hb
theorem ZU.own {w : World} {g cap base : Nat} {zs : List Nat} (h : ZU w g cap zs) (hb : base <= g) {n : Nat} (hn : n <= zs.length) (hm : cap <= 9223372036854775807) :
  w.ownsRow base 109 1 (.slice (some ⟨g, 0, none⟩) n cap) n (Zv (zs.take n)) := by
 obtain ⟨rest, he, hk⟩ := h.ex
 refine ⟨by rw [ZP, List.length_take]; omega, .inr ⟨g, cap, (Zv zs ++ rest).toArray, rfl, hb, hk, by omega, by unfold maxLen; omega, by simp [Zv]; omega, ?_⟩⟩
 rw [Nat.mul_one, X9, List.take_append_of_le_length (by rw [ZP]; exact hn)]
theorem ZU.reads {w : World} {g cap : Nat} {zs : List Nat} (h : ZU w g cap zs) : ReadsU w w.heap.size (some ⟨g, 0, none⟩) zs := by
 refine ⟨by rw [ZP, Nat.mul_one], fun _ => ⟨⟨g, 0, none⟩, rfl, h.lt, fun j u hu => ?_⟩⟩
 have hj : j < zs.length := by
  have := (List.getElem?_eq_some_iff.1 hu).1
  rwa [ZP] at this
 rw [Y2 hj] at hu
 have e : (⟨g, 0, none⟩ : Addr).add j = ⟨g, j, none⟩ := by unfold Addr.add; split <;> simp_all
 rw [e, <- hu]
 exact h.cell hj
theorem ZU.raw {w : World} {g cap : Nat} {zs : List Nat} (h : ZU w g cap zs) (hm : cap <= 9223372036854775807) (hz : Zj zs) : Zr w (some ⟨g, 0, none⟩) cap zs := ⟨hz, h.fits, hm, h.reads⟩

structure OwnX (w : World) (base : Nat) (v : Value) (zs : List Nat) : Prop where
 limbs : Zj zs
 form : ∃ A c, v = .slice A zs.length c /\ zs.length <= c /\ c <= 9223372036854775807 /\ w.ownsRow base 109 1 (.slice A zs.length c) zs.length (Zv zs)
theorem OwnX.front {w : World} {base : Nat} {v : Value} {zs : List Nat} (h : OwnX w base v zs) (h0 : zs ≠ []) : ∃ g cap, v = .slice (some ⟨g, 0, none⟩) zs.length cap /\ base <= g /\ cap <= 9223372036854775807 /\ ZU w g cap zs := by
 obtain ⟨A, c, h1, h2, h3, h4⟩ := h.form
 have hne : zs.length ≠ 0 := fun h => h0 (List.eq_nil_of_length_eq_zero h)
 rcases h4.2 with ⟨k1, k2⟩ | ⟨g, cap, cur, k1, k2, k3, k4, k5, k6, k7⟩
 . exact absurd k2 hne
 . rw [h1, k1]
   refine ⟨g, cap, rfl, k2, by simp only [maxLen] at k5; omega, cur.toList.drop zs.length, ?_, ?_⟩
   . have : cur.toList.length = cap := by rw [Array.length_toList]; omega
     rw [List.length_drop]; omega
   . rw [Nat.mul_one] at k7
     rw [<- k7, List.take_append_drop]
     exact k3
theorem OwnX.of_own {w : World} {base : Nat} {v : Value} {zs : List Nat} (hz : Zj zs) (h : w.ownsRow base 109 1 v zs.length (Zv zs)) : OwnX w base v zs := by
 rcases h.2 with ⟨rfl, k2⟩ | ⟨g, cap, cur, rfl, k2, k3, k4, k5, k6, k7⟩
 . obtain rfl := List.eq_nil_of_length_eq_zero k2
   exact ⟨hz, none, 0, rfl, Nat.le_refl _, by omega, h⟩
 . exact ⟨hz, _, cap, rfl, k4, by simp only [maxLen] at k5; omega, h⟩
theorem XF (A : Option Addr) (c : Nat) (xs : List Nat) (hl : xs.length <= 1073741824) (w : World) (h : Zr w A c xs) :
   Calls Tryz.prog 162 #[.slice A xs.length c] w fun e w' => ∃ v, e = .returned v /\ OwnX w' w.heap.size v xs /\ Below w.heap.size w w' := by
 have qT : ∀ (w : World) (A : Option Addr) (n c : Nat), (binOp .eql 22 (.slice A n c) (.slice none 0 0)).run Tryz.prog w = .ok (.bool A.isNone) w := fun w A n c => Lib.run_eql_slice_nil w _ _ A n c 0 0 Tryz.underlying22
 rcases A with _ | ad
 . have hx : xs = [] := by
    rcases Nat.eq_zero_or_pos xs.length with h0 | h0
    . exact List.eq_nil_of_length_eq_zero h0
    . obtain ⟨ad, e, -⟩ := h.reads.get h0
      cases e
   subst hx
   have hl0 := h.limbs
   clear h
   go_enter Tryz.func162, Tryz.ntmps162
   go_wp2_with fail
   go_ret
   exact ⟨_, rfl, ⟨hl0, none, 0, rfl, Nat.le_refl _, by omega, World.ownsRow_nil _ _ _ _⟩, Below.refl _ _⟩
 . obtain ⟨i0, hi, hz0, hz1, hz2⟩ := info_parts Xr
   have hc := h.cap
   have HX := Hd h
   clear h
   go_enter Tryz.func162, Tryz.ntmps162
   go_wp2_with (at_builtin; refine Y7 _ rfl (.tmp 5) (.tmp 6) _ rfl w.heap.size 109 i0 _ 1 4 Tryz.underlying22 hi hz0 hz1 hz2 rfl (by omega) _ 0 _ rfl (World.ownsRow_made w #[] 0 (Nat.le_refl _) (by unfold maxLen; omega) rfl) _ (some ad) xs.length c (Zv xs) rfl ((HX.out.alloc _).reads) (by intro u hu; simp [Zv] at hu; obtain ⟨x, -, rfl⟩ := hu; simp [Value.oneCell']) (by unfold maxLen; omega) (by omega) (by simp) ?_; intro v' w' ho' hg' hat')
   go_ret
   refine ⟨_, rfl, OwnX.of_own HX.out.limbs (by simpa using ho'), ?_⟩
   exact below_more (World.ownsRow_made (size := 1) w #[] 0 (Nat.le_refl _) (by unfold maxLen; omega) rfl) ((Below.refl _ _).alloc (Nat.le_refl _) _) (Nat.le_refl _) (by simp) hg'

theorem or_join (h l : Nat) (hh : h < 4294967296) (hl : l < 4294967296) : bits .or .u64 ((h : Int) * 4294967296) (l : Int) = ((h * 4294967296 + l : Nat) : Int) := by
 have e := bits_or_u64_nat (h * 4294967296) l (by omega) (by omega)
 have e2 : h * 4294967296 ||| l = h * 4294967296 + l := by
  have := Nat.shiftLeft_add_eq_or_of_lt (i := 32) (b := l) (by omega) h
  rw [Nat.shiftLeft_eq] at this
  exact this.symm
 rw [e2] at e
 rw [<- e]
 simp

theorem bits_Div32 (h l y : Nat) (hh : h < y) (hl : l < 4294967296) (hy : y < 4294967296) (w : World) :
  Calls Tryz.prog 208 #[.int .u32 h, .int .u32 l, .int .u32 y] w fun e w' => e = .returned (.tuple #[.int .u32 ((h * 4294967296 + l) / y : Nat), .int .u32 ((h * 4294967296 + l) % y : Nat)]) /\ Below w.heap.size w w' /\ w.grownBy w' none := by
 have hy0 : (0 : Int) < (y : Int) := by omega
 have hyh : (h : Int) < (y : Int) := by omega
 have ej := or_join h l (by omega) hl
 have hq : (h * 4294967296 + l) / y < 4294967296 := by
  rw [Nat.div_lt_iff_lt_mul (by omega)]
  have := Nat.mul_le_mul_left 4294967296 (show h + 1 <= y from hh)
  omega
 have hr : (h * 4294967296 + l) % y < y := Nat.mod_lt _ (by omega)
 have hm : h * 4294967296 + l < 18446744073709551616 := by omega
 generalize hM : h * 4294967296 + l = M at *
 go_enter Tryz.func208, Tryz.ntmps208
 go_wp2_with fail
 go_quiet (fail)
 go_wp2_with fail
 go_ret2
 have e1 : IntKind.u64.wrap ((M : Int) / (y : Int)) % 4294967296 = ((M / y : Nat) : Int) := by
  rw [IntKind.wrap_u64, <- Int.natCast_ediv]
  generalize M / y = q at hq
  omega
 have e2 : (M : Int) % (y : Int) = ((M % y : Nat) : Int) := by rw [<- Int.natCast_emod]
 exact ⟨two_eq e1 e2, Yf (Below.refl _ _) _, ⟨rfl, rfl, rfl, Nat.le_refl _, fun _ _ _ => rfl⟩⟩

theorem val_drop_set {zs : List Nat} {k d : Nat} (h : k < zs.length) : val ((zs.set k d).drop k) = d + 4294967296 * val (zs.drop (k + 1)) := by
 rw [List.drop_eq_getElem_cons (by simpa using h), val]
 rw [List.getElem_set_self, List.drop_set_of_lt (by omega)]
theorem short_step {Q R A d x : Nat} (h : Q * d + R = A) : ((R * 4294967296 + x) / d + 4294967296 * Q) * d + (R * 4294967296 + x) % d = x + 4294967296 * A := by
 have e := Nat.div_add_mod (R * 4294967296 + x) d
 rw [Nat.add_mul, Nat.mul_assoc 4294967296 Q d]
 rw [Nat.mul_comm d] at e
 generalize (R * 4294967296 + x) / d * d = a at *
 generalize Q * d = c at *
 omega

theorem grown_set {w0 w : World} {g : Nat} (h : w0.grownBy w (some g)) (k : Nat) (u : Value) : w0.grownBy (w.setCell ⟨g, k, none⟩ u) (some g) :=
 ⟨h.os, h.tape, h.output, by simpa [World.setCell] using h.size, fun b hb hn => (Below.heap_setCell _ ⟨g, k, none⟩ _ _ (fun e => hn (by rw [e]))).trans (h.block b hb hn)⟩
theorem grown_then {w0 w w' : World} {row : Option Nat} (h : w0.grownBy w row) (k : w.grownBy w' none) : w0.grownBy w' row :=
 ⟨k.os.trans h.os, k.tape.trans h.tape, k.output.trans h.output, Nat.le_trans h.size k.size, fun b hb hn => (k.block b (Nat.lt_of_lt_of_le hb h.size) (by simp)).trans (h.block b hb hn)⟩
theorem grown_below {w0 w : World} {g B : Nat} (h : w0.grownBy w (some g)) (hB : B <= g) (hs : B <= w0.heap.size) : Below B w0 w := (Below.refl B w0).grown h hs (fun k hk => by injection hk with hk; omega)

structure Shorted (w0 wr : World) (g cap : Nat) (zs : List Nat) (d k R : Nat) (zs' : List Nat) : Prop where
 len : zs'.length = zs.length
 limbs : Zj zs'
 row : ZU wr g cap zs'
 low : w0.grownBy wr (some g)
 here : zs'.take k = zs.take k
 done : val (zs'.drop k) * d + R = val (zs.drop k)
 rest : R < d
theorem Shorted.step {w0 wr wr' : World} {g cap : Nat} {zs zs' : List Nat} {d k R : Nat} (h : Shorted w0 wr g cap zs d (k + 1) R zs') (hk : k < zs.length) (hz : Zj zs) (hg : wr.grownBy wr' none) :
   Shorted w0 (wr'.setCell ⟨g, k, none⟩ (.int .u32 (((R * 4294967296 + zs[k]) / d : Nat) : Int))) g cap zs d k ((R * 4294967296 + zs[k]) % d) (zs'.set k ((R * 4294967296 + zs[k]) / d)) := by
 have hR := h.rest
 have hx := Zx hz hk
 have hq : (R * 4294967296 + zs[k]) / d < 4294967296 := by
   rw [Nat.div_lt_iff_lt_mul (by omega)]
   have := Nat.mul_le_mul_left 4294967296 (show R + 1 <= d from hR)
   omega
 have hrow : ZU wr' g cap zs' := h.row.stays hg (by simp)
 refine ⟨by simp [h.len], Yb h.limbs hq, hrow.set (by rw [h.len]; exact hk) _, grown_set (grown_then h.low hg) k _, ?_, ?_, Nat.mod_lt _ (by omega)⟩
 . have e := h.here
   rw [List.take_set_of_le (Nat.le_refl _)]
   have := congrArg (List.take k) e
   rwa [List.take_take, List.take_take, Nat.min_eq_left (by omega)] at this
 . rw [val_drop_set (by rw [h.len]; exact hk), YV hk]
   exact short_step h.done

theorem exact_short (g cap c d : Nat) (zs : List Nat) (hd : 0 < d) (hd2 : d < 4294967296) (hz : Zj zs) (hl : zs.length <= 1152921504606846976) (w : World) (h : ZU w g cap zs) :
  Calls Tryz.prog 165 #[.slice (some ⟨g, 0, none⟩) zs.length c, .int .u32 d] w fun e w' => e = .returned (.int .u32 ((val zs % d : Nat) : Int)) /\ ∃ zs', zs'.length = zs.length /\ Zj zs' /\ val zs' = val zs / d /\ ZU w' g cap zs' /\ w.grownBy w' (some g) := by
 have H0 := Hd (⟨zs, rfl, hz, h, World.grownBy.refl w _, rfl, by rw [List.drop_length]; simp [val], hd⟩ : ∃ zs', Shorted w w g cap zs d zs.length 0 zs')
 have HZ := Hd hz
 clear h hz
 go_enter Tryz.func165, Tryz.ntmps165
 go_wp2_with fail
 go_loopw [5, 6] (fun r s wr => ∃ k R : Nat, ∃ i : Int, s = .int .i64 i /\ i = (k : Int) - 1 /\ r = .int .u32 R /\ k <= zs.length /\ R < d /\ Hid (∃ zs', Shorted w wr g cap zs d k R zs')) (fun _ s _ => (intOf s + 1).toNat)
 case atStart => exact ⟨zs.length, 0, _, rfl, by omega, rfl, Nat.le_refl _, hd, H0⟩
 case round =>
  obtain ⟨k, R, i, rfl, hik, rfl, hk, hR, HR⟩ := hrel
  clear H0
  obtain ⟨zs', hs⟩ := HR.out
  have HS := Hd hs
  clear HR hs
  cases k with
  | zero =>
   obtain rfl : i = -1 := by omega
   clear hik
   have hv := HS.out.done
   have hres : (R : Nat) = val zs % d /\ val zs' = val zs / d := by
    simp only [List.drop_zero] at hv
    rw [<- hv]
    constructor
    . rw [Nat.mul_add_mod_self_right, Nat.mod_eq_of_lt hR]
    . rw [Nat.add_comm, Nat.add_mul_div_right _ _ hd, Nat.div_eq_of_lt hR, Nat.zero_add]
   have HV := Hd hres
   clear hres hv
   go_wp2_with fail
   go_ret
   exact ⟨by rw [HV.out.1]; rfl, zs', HS.out.len, HS.out.limbs, HV.out.2, HS.out.row, HS.out.low⟩
  | succ j =>
   obtain rfl : i = (j : Int) := by omega
   clear hik
   have a0 : (0 : Int) <= (j : Int) := by omega
   have a1 : (j : Int) < (zs.length : Int) := by omega
   have hj : j < zs.length := by omega
   have hj2 : j < zs'.length := by rw [HS.out.len]; exact hj
   have fz := HS.out.row.frozen j
   have hcell := HS.out.row.cell hj2
   have hsame : zs'[j] = zs[j] := by
    have e := congrArg (fun l : List Nat => l[j]?) HS.out.here
    simp only [List.getElem?_take, if_pos (Nat.lt_succ_self j)] at e
    rw [List.getElem?_eq_getElem hj2, List.getElem?_eq_getElem hj] at e
    exact Option.some.inj e
   rw [hsame] at hcell
   have hx := Zx HZ.out hj
   have S := Hd (fun (wr' : World) (hg : wr.grownBy wr' none) => HS.out.step hj HZ.out hg)
   have hR2 := (HS.out.step hj HZ.out (World.grownBy.refl wr none)).rest
   generalize zs[j] = x at hcell hx S hR2
   have C := Hd (fun V => bits_Div32 R x d hR hx hd2 V)
   have hlt := HS.out.row.lt
   generalize (R * 4294967296 + x) / d = qq at C S
   generalize (R * 4294967296 + x) % d = rr at C S hR2
   have HROW := Hd HS.out.row
   clear hsame HS
   go_wp2_with (first
    | (go_at_call 208; with_reducible refine (C.out _).mono ?_; rintro e w' ⟨rfl, hbx, hgx⟩; have hrow' : ZU w' g cap zs' := HROW.out.stays hgx (by simp); have fz2 := hrow'.frozen j; have hcell2 : w'.cell? ⟨g, j, none⟩ = some (.int .u32 x) := (World.cell?_of_block (hgx.block g hlt (by simp))).trans hcell; have hlt2 := hrow'.lt; clear hrow'))
   go_roundw
   case rel => exact ⟨j, rr, _, rfl, rfl, rfl, by omega, hR2, Hd ⟨_, S.out w' hgx⟩⟩
   case measure => simp [intOf]

structure ShortedTo (w0 wr : World) (g : Nat) (xs : List Nat) (d k R : Nat) (zs' : List Nat) : Prop where
 len : zs'.length = xs.length
 limbs : Zj zs'
 row : Yr wr g zs'
 low : Below w0.heap.size w0 wr
 done : val (zs'.drop k) * d + R = val (xs.drop k)
 rest : R < d

theorem or_u32_nat (a b : Nat) (ha : a < 4294967296) (hb : b < 4294967296) : bits .or .u32 (a : Int) (b : Int) = ((a ||| b : Nat) : Int) := by
 have hx : a ||| b < 2 ^ 32 := Nat.or_lt_two_pow (by omega) (by omega)
 have h1 : (BitVec.ofInt 32 (a : Int)).toNat = a := by
  rw [BitVec.ofInt_natCast, BitVec.toNat_ofNat]; exact Nat.mod_eq_of_lt (by omega)
 have h2 : (BitVec.ofInt 32 (b : Int)).toNat = b := by
  rw [BitVec.ofInt_natCast, BitVec.toNat_ofNat]; exact Nat.mod_eq_of_lt (by omega)
 show IntKind.u32.wrap ((BitVec.ofInt 32 (a : Int) ||| BitVec.ofInt 32 (b : Int)).toNat : Int) = _
 rw [BitVec.toNat_or, h1, h2, IntKind.wrap_u32']
 omega
theorem shl_mod (u n : Nat) (hn : n <= 32) : u * 2 ^ n % 4294967296 = (u % 2 ^ (32 - n)) * 2 ^ n := by
 have e : (4294967296 : Nat) = 2 ^ (32 - n) * 2 ^ n := by rw [<- Nat.pow_add, show 32 - n + n = 32 by omega]
 rw [e, Nat.mul_mod_mul_right]
theorem or_low (a n c : Nat) (hc : c < 2 ^ n) : a * 2 ^ n ||| c = a * 2 ^ n + c := by
 have := Nat.shiftLeft_add_eq_or_of_lt (i := n) (b := c) hc a
 rw [Nat.shiftLeft_eq] at this
 exact this.symm
theorem up_digit (u n c : Nat) (hn : n <= 32) (hu : u < 4294967296) (hc : c < 2 ^ n) :
   bits .or .u32 (((u * 2 ^ n % 4294967296 : Nat) : Int)) (c : Int) = ((u * 2 ^ n % 4294967296 + c : Nat) : Int) /\ u * 2 ^ n % 4294967296 + c < 4294967296 /\ u * 2 ^ n / 4294967296 < 2 ^ n := by
 have hp : 2 ^ n <= 2 ^ 32 := Nat.pow_le_pow_right (by omega) hn
 have hle : u % 2 ^ (32 - n) + 1 <= 2 ^ (32 - n) := Nat.mod_lt _ (Nat.two_pow_pos _)
 have h2 := Nat.mul_le_mul_right (2 ^ n) hle
 rw [<- Nat.pow_add, show 32 - n + n = 32 by omega, Nat.add_mul, Nat.one_mul, <- shl_mod u n hn] at h2
 refine ⟨?_, by omega, ?_⟩
 . rw [or_u32_nat _ _ (by omega) (by omega), shl_mod u n hn, or_low _ _ _ hc]
 . rw [Nat.div_lt_iff_lt_mul (by omega), Nat.mul_comm (2 ^ n)]
   exact Nat.mul_lt_mul_of_pos_right hu (Nat.two_pow_pos _)
theorem up_step {zs : List Nat} {k c va n : Nat} (hk : zs.length = k) (u : Nat) (h : val zs + 4294967296 ^ k * c = va * 2 ^ n) :
  val (zs ++ [u * 2 ^ n % 4294967296 + c]) + 4294967296 ^ (k + 1) * (u * 2 ^ n / 4294967296) = (va + 4294967296 ^ k * u) * 2 ^ n := by
 subst hk
 rw [YU, Nat.add_mul, <- h, Nat.pow_succ]
 generalize 4294967296 ^ zs.length = P
 have e : P * 4294967296 * (u * 2 ^ n / 4294967296) + P * (u * 2 ^ n % 4294967296) = P * u * 2 ^ n := by
  rw [Nat.mul_assoc, <- Nat.mul_add, Nat.div_add_mod, Nat.mul_assoc]
 rw [Nat.mul_add]
 omega

theorem in_pow (x n : Nat) : (x : Int) * 2 ^ n % 4294967296 = ((x * 2 ^ n % 4294967296 : Nat) : Int) := by simp
theorem wrap_pow (x n : Nat) (h : x * 2 ^ n < 18446744073709551616) : IntKind.u64.wrap ((x : Int) * 2 ^ n) = ((x * 2 ^ n : Nat) : Int) := by
 have e : (x : Int) * 2 ^ n = ((x * 2 ^ n : Nat) : Int) := by simp
 rw [e, IntKind.wrap_u64]
 omega
theorem out_pow (x n : Nat) (h : x * 2 ^ n / 4294967296 < 4294967296) : ((x * 2 ^ n : Nat) : Int) / 4294967296 % 4294967296 = ((x * 2 ^ n / 4294967296 : Nat) : Int) := by omega

theorem exact_up (A : Option Addr) (c n : Nat) (xs : List Nat) (hn : n <= 31) (hl : xs.length <= 1073741824) (w : World) (h : Zr w A c xs) :
  Calls Tryz.prog 253 #[.slice A xs.length c, .int .u64 n] w fun e w' => ∃ g zs, e = .returned (.slice (some ⟨g, 0, none⟩) (xs.length + 1) (xs.length + 1)) /\ w.heap.size <= g /\ zs.length = xs.length + 1 /\ Zj zs /\ val zs = val xs * 2 ^ n /\ Yr w' g zs /\ Below w.heap.size w w' := by
 have HX := Hd h
 have hc := h.cap
 have hm := h.most
 clear h
 obtain ⟨i0, hi, hz0, hz1, hz2⟩ := info_parts Xr
 have hmk : ∀ W : World, (Instr.makeSlice 22 (.int .i64 ((xs.length : Int) + 1)) (.int .i64 ((xs.length : Int) + 1))).run Tryz.prog W = .ok (.slice (some ⟨W.heap.size, 0, none⟩) (xs.length + 1) (xs.length + 1)) (W.alloc (.cells (madeCells #[.int .u32 0] (xs.length + 1)) 109)) := fun W => by
  have h := YE (P := Tryz.prog) 22 109 i0 _ Tryz.underlying22 hi hz0 .i64 .i64 (xs.length + 1) (xs.length + 1) (by omega) (by rw [hz2]; omega) (by omega) W
  rw [show ((xs.length + 1 : Nat) : Int) = (xs.length : Int) + 1 by omega, hz1, Nat.mul_one] at h
  exact h
 have I0 : ∃ zs, zs.length = xs.length + 1 /\ Zj zs /\ Yr (w.alloc (.cells (madeCells #[.int .u32 0] (xs.length + 1)) 109)) w.heap.size zs /\ Below w.heap.size w (w.alloc (.cells (madeCells #[.int .u32 0] (xs.length + 1)) 109)) /\ val (zs.take 0) + 4294967296 ^ 0 * 0 = val (xs.take 0) * 2 ^ n :=
  ⟨_, by simp, YG _, Yr.made w _, (Below.refl _ _).alloc (Nat.le_refl _) _, by simp [val]⟩
 have H0 := Hd I0
 have hP := Nat.two_pow_pos n
 clear I0
 go_enter Tryz.func253, Tryz.ntmps253
 go_wp2_with fail
 clear hmk
 go_loopw [6, 15] (fun t s wr => ∃ i k : Nat, s = .int .i64 i /\ t = .int .u32 k /\ k < 2 ^ n /\ i <= xs.length /\ Hid (∃ zs, zs.length = xs.length + 1 /\ Zj zs /\ Yr wr w.heap.size zs /\ Below w.heap.size w wr /\ val (zs.take i) + 4294967296 ^ i * k = val (xs.take i) * 2 ^ n)) (fun _ s _ => xs.length - (intOf s).toNat)
 case atStart => exact ⟨0, 0, rfl, rfl, hP, Nat.zero_le _, H0⟩
 case round =>
  obtain ⟨i, k, rfl, rfl, hk, hi', HR⟩ := hrel
  clear H0
  obtain ⟨zs, hzl, hz, hrow, hb, hv⟩ := HR.out
  have HV := Hd hv
  have HZ := Hd hz
  clear HR hv hz
  by_cases hlt : i < xs.length
  . have a0 : (0 : Int) <= (i : Int) := by omega
    have a1 : (i : Int) < (xs.length : Int) := by omega
    have a2 : (i : Int) < (xs.length : Int) + 1 := by omega
    have fz := hrow.frozen i
    have hcell := hrow.cell (k := i) (by omega)
    obtain ⟨ad, rfl, hbl, hx⟩ := (HX.out.below hb).reads.get hlt
    have hbx := Zx HX.out.limbs hlt
    obtain ⟨e1, e2, e3⟩ := up_digit xs[i] n k (by omega) hbx hk
    have S := Hd (⟨zs.set i _, by simp [hzl], Yb HZ.out e2, hrow.set i _, hb.setCell (p := ⟨w.heap.size, i, none⟩) (Nat.le_refl _) _, by
      rw [ZO (by omega), up_step (zs := zs.take i) (k := i) (by rw [List.length_take]; omega) xs[i] HV.out, Zs hlt]⟩ : ∃ zs', zs'.length = xs.length + 1 /\ Zj zs' /\ Yr (wr.setCell ⟨w.heap.size, i, none⟩ (.int .u32 ((xs[i] * 2 ^ n % 4294967296 + k : Nat) : Int))) w.heap.size zs' /\ Below w.heap.size w (wr.setCell ⟨w.heap.size, i, none⟩ (.int .u32 ((xs[i] * 2 ^ n % 4294967296 + k : Nat) : Int))) /\ val (zs'.take (i + 1)) + 4294967296 ^ (i + 1) * (xs[i] * 2 ^ n / 4294967296) = val (xs.take (i + 1)) * 2 ^ n)
    generalize zs[i] = zi at hcell
    generalize xs[i] = x at hx hbx S e1 e2 e3
    have e3b : x * 2 ^ n / 4294967296 < 4294967296 := Nat.lt_of_lt_of_le e3 (Nat.le_trans (Nat.pow_le_pow_right (by omega) (show n <= 32 by omega)) (by omega))
    have e4 : x * 2 ^ n < 18446744073709551616 := by omega
    clear hbl
    go_wp2_with fail
    go_roundw
    case rel => exact ⟨i + 1, x * 2 ^ n / 4294967296, by go_num, by rw [wrap_pow x n e4, out_pow x n e3b], e3, hlt, by rw [in_pow, e1]; exact S⟩
    case measure => simp [intOf]; omega
  . obtain rfl : i = xs.length := by omega
    have fz := hrow.frozen xs.length
    have hcell := hrow.cell (k := xs.length) (by omega)
    generalize zs[xs.length] = zi at hcell
    have a0 : (0 : Int) <= (xs.length : Int) := by omega
    have a2 : (xs.length : Int) < (xs.length : Int) + 1 := by omega
    have hk2 : k < 4294967296 := by
     have : 2 ^ n <= 2 ^ 31 := Nat.pow_le_pow_right (by omega) hn
     omega
    have hrow2 := hrow.set xs.length k
    have hb2 := hb.setCell (p := ⟨w.heap.size, xs.length, none⟩) (Nat.le_refl _) (.int .u32 (k : Int))
    have hval : val (zs.set xs.length k) = val xs * 2 ^ n := by
     have e := ZO (zs := zs) (k := xs.length) (d := k) (by omega)
     rw [List.take_of_length_le (by simp; omega)] at e
     have e2 := HV.out
     rw [Yd (xs := xs) (k := xs.length) (Nat.le_refl _)] at e2
     rw [e, YU, List.length_take, Nat.min_eq_left (by omega)]
     exact e2
    have HO := Hd (⟨zs.set xs.length k, by simp [hzl], Yb HZ.out hk2, hval, hrow2, hb2⟩ : ∃ zs', zs'.length = xs.length + 1 /\ Zj zs' /\ val zs' = val xs * 2 ^ n /\ Yr (wr.setCell ⟨w.heap.size, xs.length, none⟩ (.int .u32 (k : Int))) w.heap.size zs' /\ Below w.heap.size w (wr.setCell ⟨w.heap.size, xs.length, none⟩ (.int .u32 (k : Int))))
    clear hb2 hval hrow2 HV HZ HX
    go_wp2_with fail
    go_ret
    obtain ⟨zs', h1, h2, h3, h4, h5⟩ := HO.out
    exact ⟨w.heap.size, zs', rfl, Nat.le_refl _, h1, h2, h3, h4, h5⟩
end Go.Proofs.YtdonecnhdkjniaaGreatDoor
