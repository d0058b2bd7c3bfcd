/- Several texts in one: Twin2, DivRows. -/
import Derived.Test.YtpcdiijmhllejaaDoorBk13
import Derived.Test.YtpcdiijmhllejaaDoorBk15
import Derived.Test.YtpcdiijmhllejaaDoorBk10
import Derived.Test.YtpcdiijmhllejaaDoorBk16
import Derived.Test.YtpcdiijmhllejaaDoorBk03
import Derived.WalkMore
import Derived.Deep.RegionWith
import Derived.Deep.RegionHeld3
import Derived.Deep.DeepCutAuto
import Derived.Deep.CutBlock
/- More of copies and sizes, for the laws' walks. -/
namespace Go.Proofs.YtpcdiijmhllejaaDoor
open Go.RowKit

theorem Reads.new2 (w : World) (t : TypeId) (a b : Value) : Reads (w.alloc (.cells #[a, b] t)) (w.heap.size + 1) 1 (some ⟨w.heap.size, 0, none⟩) 2 [a, b] :=
  ⟨rfl, fun _ => ⟨⟨w.heap.size, 0, none⟩, rfl, by simp, fun j u hu => by
    have hj : j < 2 := (List.getElem?_eq_some_iff.1 hu).1
    rw [show (⟨w.heap.size, 0, none⟩ : Addr).add j = ⟨w.heap.size, j, none⟩ by unfold Addr.add; split <;> simp_all, (Blk.new w t #[a, b]).cell j, ← hu]
    simp⟩⟩
theorem below_one {W w : World} (h : Below W.heap.size W w) (o : Obj) : Below W.heap.size W (w.alloc o) := h.alloc h.size o
theorem below_two {W w : World} (h : Below W.heap.size W w) (o p : Obj) : Below W.heap.size W ((w.alloc o).alloc p) := (h.alloc h.size o).alloc (by have := h.size; simp; omega) p

theorem TwinAt.far2 {w : World} {g g' : Nat} {xs : List Nat} (h : TwinAt w g xs) (hn : g ≠ g') (a b : Value) : TwinAt ((w.setCell ⟨g', 0, none⟩ a).setCell ⟨g', 1, none⟩ b) g xs := ⟨h.blk.far2 hn a b⟩
theorem Pair.new' {w : World} {g : Nat} (h : g = w.heap.size) (t : TypeId) (a b : Value) : Pair (w.alloc (.cells #[a, b] t)) g t a b := h ▸ Pair.new w t a b
theorem keep_of {W w' : World} (q : Below W.heap.size W w') : Below W.heap.size W w' ∧ ∀ b o, b < W.heap.size → w'.cell? ⟨b, o, none⟩ = W.cell? ⟨b, o, none⟩ :=
  ⟨q, fun b o h => q.cell (p := ⟨b, o, none⟩) h⟩

end Go.Proofs.YtpcdiijmhllejaaDoor

/- For divide of package exact: its blocks, the divisor added back. -/
namespace Go.Proofs.YtpcdiijmhllejaaDoor
open Go.RowKit

theorem bits_Lead (t b : Nat) (ht : t < 4294967296) (hb : b = 32 - Lib.bitLen t) (hb2 : Lib.bitLen t ≤ 32) (w : World) :
    Calls Tryd.prog 62 #[.int .u32 t] w fun e w' => e = .returned (.int .i64 b) ∧ w = w' := by
  refine (Tryd.bits_LeadingZeros32 t w (by omega) (by omega)).mono ?_
  rintro e w' ⟨rfl, rfl⟩
  refine ⟨?_, rfl⟩
  rw [Int.toNat_natCast, hb]
  have : (32 : Int) - (Lib.bitLen t : Int) = ((32 - Lib.bitLen t : Nat) : Int) := by omega
  rw [this]
theorem bitLen32 (t : Nat) (ht : t < 4294967296) (h0 : t ≠ 0) : Lib.bitLen t ≤ 32 ∧ 1 ≤ Lib.bitLen t ∧ 2 ^ Lib.bitLen t ≤ 2 * t ∧ t < 2 ^ Lib.bitLen t := by
  have h1 : t < 2 ^ Lib.bitLen t := bla_lt 64 t (by omega)
  have hpos : 1 ≤ Lib.bitLen t := by
    rcases Nat.eq_zero_or_pos (Lib.bitLen t) with h | h
    · rw [h] at h1; omega
    · exact h
  have h2 := bla_ge 64 t (Lib.bitLen t - 1) (by show Lib.bitLen t - 1 < Lib.bitLen t; omega)
  have e : 2 ^ Lib.bitLen t = 2 * 2 ^ (Lib.bitLen t - 1) := by
    rw [← Nat.pow_succ', show (Lib.bitLen t - 1).succ = Lib.bitLen t by omega]
  refine ⟨?_, hpos, by omega, h1⟩
  rcases Nat.lt_or_ge 32 (Lib.bitLen t) with h | h
  · have : 2 ^ 32 ≤ 2 ^ (Lib.bitLen t - 1) := Nat.pow_le_pow_right (by omega) (by omega)
    omega
  · exact h

theorem cut_top {zd : List Nat} {k : Nat} (h : zd.length = k + 1) (hl : Limbs zd) (hv : val zd < 4294967296 ^ k) : ∃ ds, zd = ds ++ [0] ∧ ds.length = k ∧ Limbs ds ∧ val ds = val zd := by
  have e := List.take_append_drop k zd
  have e2 : zd.drop k = [zd[k]] := by
    rw [List.drop_eq_getElem_cons (by omega), List.drop_of_length_le (by omega)]
  have hv2 := val_take_more (xs := zd) (k := k) (by omega)
  rw [List.take_of_length_le (by omega)] at hv2
  have h0 : zd[k] = 0 := by
    rcases Nat.eq_zero_or_pos zd[k] with h | h
    · exact h
    · exfalso
      have := Nat.le_mul_of_pos_right (4294967296 ^ k) h
      generalize 4294967296 ^ k = P at *
      omega
  rw [h0, Nat.mul_zero, Nat.add_zero] at hv2
  rw [h0] at e2
  refine ⟨zd.take k, by rw [← e2, e], by simp [List.length_take]; omega, limbs_take hl k, hv2.symm⟩
theorem top_big {ds : List Nat} {k : Nat} (h : ds.length = k + 1) (hl : Limbs ds) (hv : 2147483648 * 4294967296 ^ k ≤ val ds) : 2147483648 ≤ ds[k] := by
  have hv2 := val_take_more (xs := ds) (k := k) (by omega)
  rw [List.take_of_length_le (by omega)] at hv2
  have h1 := val_lt (limbs_take hl k)
  rw [List.length_take, Nat.min_eq_left (by omega)] at h1
  generalize ds[k] = t at *
  rcases Nat.lt_or_ge t 2147483648 with h2 | h2
  · exfalso
    have h3 := Nat.mul_le_mul_left (4294967296 ^ k) (show t + 1 ≤ 2147483648 from h2)
    rw [Nat.mul_add, Nat.mul_one, Nat.mul_comm _ 2147483648] at h3
    generalize 4294967296 ^ k * t = a at *
    generalize 4294967296 ^ k = P at *
    omega
  · exact h2
theorem split3 (zs : List Nat) (i n : Nat) (h : i + n ≤ zs.length) : ∃ pre ps post, zs = pre ++ ps ++ post ∧ pre.length = i ∧ ps.length = n :=
  ⟨zs.take i, (zs.drop i).take n, (zs.drop i).drop n, by rw [List.append_assoc, List.take_append_drop, List.take_append_drop], by simp [List.length_take]; omega, by simp [List.length_take]; omega⟩

theorem grown_drewN {w0 w : World} {row : Option Nat} (h : w0.grownBy w row) (n : Nat) : w0.grownBy (w.drewN n) row := ⟨h.os, h.tape, h.output, h.size, h.block⟩

theorem down_digit (N n : Nat) : (N : Int) / 2 ^ n % 4294967296 = ((N / 2 ^ n % 4294967296 : Nat) : Int) := by simp
theorem Row.far {w : World} {g : Nat} {zs : List Nat} (h : Row w g zs) {p : Addr} (hp : g ≠ p.block) (u : Value) : Row (w.setCell p u) g zs := ⟨h.blk.far hp u⟩

/-- The three blocks of a division: the number, the quotient, the divisor. -/
structure Rows3 (w wr : World) (gl gq gd : Nat) (zs qs ds : List Nat) : Prop where
  rl : Row wr gl zs
  rq : Row wr gq qs
  rd : Row wr gd (ds ++ [0])
  low : Below w.heap.size w wr
  nlq : gl ≠ gq
  ndq : gd ≠ gq
  nld : gl ≠ gd
  bl : w.heap.size ≤ gl
  bq : w.heap.size ≤ gq
section
variable {w wr wr' : World} {gl gq gd : Nat} {zs qs ds : List Nat}
theorem Rows3.stays (h : Rows3 w wr gl gq gd zs qs ds) (hg : wr.grownBy wr' none) : Rows3 w wr' gl gq gd zs qs ds :=
  ⟨h.rl.stays hg (by simp), h.rq.stays hg (by simp), h.rd.stays hg (by simp), h.low.grown hg h.low.size (fun k hk => by cases hk), h.nlq, h.ndq, h.nld, h.bl, h.bq⟩
theorem Rows3.lessed {zs' : List Nat} (h : Rows3 w wr gl gq gd zs qs ds) (hg : wr.grownBy wr' (some gl)) (hr : Row wr' gl zs') : Rows3 w wr' gl gq gd zs' qs ds :=
  ⟨hr, h.rq.stays hg (by have := h.nlq; simp; omega), h.rd.stays hg (by have := h.nld; simp; omega), h.low.grown hg h.low.size (fun k hk => by injection hk with hk; rw [← hk]; exact h.bl), h.nlq, h.ndq, h.nld, h.bl, h.bq⟩
theorem Rows3.setq (h : Rows3 w wr gl gq gd zs qs ds) (i d : Nat) : Rows3 w (wr.setCell ⟨gq, i, none⟩ (.int .u32 (d : Int))) gl gq gd zs (qs.set i d) ds :=
  ⟨h.rl.far h.nlq _, h.rq.set i d, h.rd.far h.ndq _, h.low.setCell (p := ⟨gq, i, none⟩) h.bq _, h.nlq, h.ndq, h.nld, h.bl, h.bq⟩
theorem Rows3.setl {pre ps post : List Nat} (h : Rows3 w wr gl gq gd (pre ++ ps ++ post) qs ds) {k : Nat} (hk : k < ps.length) (d : Nat) : Rows3 w (wr.setCell ⟨gl, pre.length + k, none⟩ (.int .u32 (d : Int))) gl gq gd (pre ++ ps.set k d ++ post) qs ds :=
  ⟨h.rl.mid_set hk d, h.rq.far (Ne.symm h.nlq) _, h.rd.far (Ne.symm h.nld) _, h.low.setCell (p := ⟨gl, pre.length + k, none⟩) h.bl _, h.nlq, h.ndq, h.nld, h.bl, h.bq⟩
end

/-- While divide is at work. -/
structure Dw (w wr : World) (gl gq gd r : Nat) (zl0 ds : List Nat) (Y k : Nat) (zs qs : List Nat) : Prop where
  dv : Dv zl0 zs qs Y k
  rows : Rows3 w wr gl gq gd zs qs ds
  qlen : qs.length = r

/-- While the divisor is added back. -/
structure Backed (w wv : World) (gl gq gd : Nat) (pre ps' post qs ds : List Nat) (k c : Nat) (ps'' : List Nat) : Prop where
  len : ps''.length = ps'.length
  limbs : Limbs ps''
  rows : Rows3 w wv gl gq gd (pre ++ ps'' ++ post) qs ds
  rest : ps''.drop k = ps'.drop k
  done : val (ps''.take k) + 4294967296 ^ k * c = val (ps'.take k) + val (ds.take k)
theorem Backed.step {w wv : World} {gl gq gd : Nat} {pre ps' post qs ds ps'' : List Nat} {k c : Nat} (h : Backed w wv gl gq gd pre ps' post qs ds k c ps'') (hk : k < ps'.length) (hkd : k < ds.length) (s : Nat) (hs : s = ps'[k] + ds[k] + c) :
    Backed w (wv.setCell ⟨gl, pre.length + k, none⟩ (.int .u32 ((s % 4294967296 : Nat) : Int))) gl gq gd pre ps' post qs ds (k + 1) (s / 4294967296) (ps''.set k (s % 4294967296)) := by
  have hk2 : k < ps''.length := by rw [h.len]; exact hk
  refine ⟨by simp [h.len], limbs_set h.limbs (Nat.mod_lt _ (by omega)), h.rows.setl hk2 _, drop_set_next h.rest, ?_⟩
  rw [set_take_more hk2, add_step (zs := ps''.take k) (k := k) (by rw [List.length_take]; omega) s h.done (ps'[k] + ds[k]) (by rw [hs]), val_take_more hk, val_take_more hkd, Nat.mul_add]
  omega
theorem back_val {F V U Y P g cc : Nat} (h1 : F + P * cc = V + Y) (h2 : V + g * Y = U + P) (hF : F < P) (hV : V < P) (hlow : g * Y < U + Y) (hcc : cc ≤ 1) : 1 ≤ g ∧ F + (g - 1) * Y = U ∧ F < Y := by
  have hg : 1 ≤ g := by
    rcases Nat.eq_zero_or_pos g with rfl | h
    · simp at h2; omega
    · exact h
  obtain ⟨g, rfl⟩ : ∃ g', g = g' + 1 := ⟨g - 1, by omega⟩
  rw [Nat.add_mul, Nat.one_mul] at h2 hlow
  have hc : cc = 1 := by
    rcases (by omega : cc = 0 ∨ cc = 1) with rfl | rfl
    · exfalso
      rw [Nat.mul_zero] at h1
      omega
    · rfl
  subst hc
  rw [Nat.mul_one] at h1
  simp only [Nat.add_sub_cancel]
  omega
theorem Backed.stop {w wv : World} {gl gq gd : Nat} {pre ps' post qs ds ps'' : List Nat} {c : Nat} (h : Backed w wv gl gq gd pre ps' post qs ds ds.length c ps'') (hl : ps'.length = ds.length + 1) (x : Nat) (hx : x = at0 ps' ds.length) :
    (ps''.set ds.length ((x + c) % 4294967296)).length = ps'.length ∧ Limbs (ps''.set ds.length ((x + c) % 4294967296)) ∧ Rows3 w (wv.setCell ⟨gl, pre.length + ds.length, none⟩ (.int .u32 (((x + c) % 4294967296 : Nat) : Int))) gl gq gd (pre ++ ps''.set ds.length ((x + c) % 4294967296) ++ post) qs ds ∧
      val (ps''.set ds.length ((x + c) % 4294967296)) + 4294967296 ^ (ds.length + 1) * ((x + c) / 4294967296) = val ps' + val ds := by
  have hk2 : ds.length < ps''.length := by rw [h.len]; omega
  have hk3 : ds.length < ps'.length := by omega
  refine ⟨by simp [h.len], limbs_set h.limbs (Nat.mod_lt _ (by omega)), h.rows.setl hk2 _, ?_⟩
  have e := set_take_more (zs := ps'') (k := ds.length) (d := (x + c) % 4294967296) hk2
  rw [List.take_of_length_le (by simp [h.len]; omega)] at e
  have e3 := h.done
  rw [val_take_all (xs := ds) (k := ds.length) (Nat.le_refl _)] at e3
  have e2 := val_take_more hk3
  rw [List.take_of_length_le (by omega), ← at0_lt hk3, ← hx] at e2
  rw [e, add_step (zs := ps''.take ds.length) (k := ds.length) (by rw [List.length_take]; omega) (x + c) e3 x rfl, e2]
  omega

end Go.Proofs.YtpcdiijmhllejaaDoor
