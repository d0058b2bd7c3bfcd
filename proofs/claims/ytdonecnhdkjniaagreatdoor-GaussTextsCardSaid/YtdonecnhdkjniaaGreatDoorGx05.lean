/- Several texts in one: Less, Knuth, DivLaw, Add, RefBits. -/
import Derived.Test.YtdonecnhdkjniaaGreatDoorGx04
set_option maxRecDepth 100000
set_option maxHeartbeats 8000000
namespace Go.Proofs.YtdonecnhdkjniaaGreatDoor
open Go.RowKit

theorem set_mid (pre ps post : List Nat) (k d : Nat) (hk : k < ps.length) : (pre ++ ps ++ post).set (pre.length + k) d = pre ++ ps.set k d ++ post := by
 rw [List.append_assoc, List.set_append_right _ _ (by omega), Nat.add_sub_cancel_left, List.set_append_left _ _ hk, List.append_assoc]
theorem get_mid (pre ps post : List Nat) (k : Nat) (hk : k < ps.length) (h : pre.length + k < (pre ++ ps ++ post).length) : (pre ++ ps ++ post)[pre.length + k] = ps[k] := by
 have e : (pre ++ ps ++ post)[pre.length + k]? = ps[k]? := by
  rw [List.append_assoc, List.getElem?_append_right (by omega), Nat.add_sub_cancel_left, List.getElem?_append_left hk]
 rw [List.getElem?_eq_getElem h, List.getElem?_eq_getElem hk] at e
 exact Option.some.inj e
theorem YJ.mid_cell {w : World} {g : Nat} {pre ps post : List Nat} (h : YJ w g (pre ++ ps ++ post)) {k : Nat} (hk : k < ps.length) : w.cell? ⟨g, pre.length + k, none⟩ = some (.int .u32 ps[k]) := by
 rw [h.cell (k := pre.length + k) (by simp; omega), get_mid _ _ _ _ hk]
theorem YJ.mid_set {w : World} {g : Nat} {pre ps post : List Nat} (h : YJ w g (pre ++ ps ++ post)) {k : Nat} (hk : k < ps.length) (d : Nat) : YJ (w.setCell ⟨g, pre.length + k, none⟩ (.int .u32 (d : Int))) g (pre ++ ps.set k d ++ post) := by
 have := h.set (pre.length + k) d
 rwa [set_mid _ _ _ _ _ hk] at this
theorem YJ.head_cell {w : World} {g : Nat} {ds es : List Nat} (h : YJ w g (ds ++ es)) {k : Nat} (hk : k < ds.length) : w.cell? ⟨g, k, none⟩ = some (.int .u32 ds[k]) := by
 rw [h.cell (k := k) (by simp; omega), List.getElem_append_left hk]
theorem YJ.stays {w w' : World} {g : Nat} {zs : List Nat} {row : Option Nat} (h : YJ w g zs) (hg : w.grownBy w' row) (hn : some g ≠ row) : YJ w' g zs := ⟨h.blk.stays hg hn⟩
theorem JE {a b : List Nat} {k : Nat} (h : a.drop k = b.drop k) (ha : k < a.length) (hb : k < b.length) : a[k] = b[k] := by
 rw [List.drop_eq_getElem_cons ha, List.drop_eq_getElem_cons hb] at h
 exact (List.cons.inj h).1
theorem J9 {a b : List Nat} {k d : Nat} (h : a.drop k = b.drop k) : (a.set k d).drop (k + 1) = b.drop (k + 1) := by
 rw [List.drop_set_of_lt (by omega)]
 have := congrArg (List.drop 1) h
 simpa [List.drop_drop, Nat.add_comm] using this

theorem less_digit (x y : Nat) (hx : x < 4294967296) (hy : y <= 4294967296) :
   IntKind.u64.wrap ((x : Int) - (y : Int)) % 4294967296 = (((x + 4294967296 - y) % 4294967296 : Nat) : Int) /\ IntKind.u64.wrap ((x : Int) - (y : Int)) / 9223372036854775808 = (((if x < y then 1 else 0) : Nat) : Int) /\ (x + 4294967296 - y) % 4294967296 + y = x + 4294967296 * (if x < y then 1 else 0) := by
 rw [IntKind.wrap_u64]
 refine ⟨by omega, ?_, ?_⟩
 . split <;> omega
 . split <;> omega
structure Lessed (w0 wr : World) (g : Nat) (pre ps post ds : List Nat) (q k b : Nat) (ps' : List Nat) : Prop where
 len : ps'.length = ps.length
 limbs : Zj ps'
 row : YJ wr g (pre ++ ps' ++ post)
 low : w0.grownBy wr (some g)
 rest : ps'.drop k = ps.drop k
 done : val (ps'.take k) + q * val (ds.take k) = val (ps.take k) + 4294967296 ^ k * b
theorem less_val {P a qd c b q v x d s nn : Nat} (h : a + qd = c + P * b) (hs : s = b + q * v) (hd : d + s % 4294967296 = x + 4294967296 * nn) :
  a + P * d + (qd + q * (P * v)) = c + P * x + P * 4294967296 * (s / 4294967296 + nn) := by
 have e := Nat.div_add_mod s 4294967296
 have e2 : d + s = x + 4294967296 * (s / 4294967296 + nn) := by omega
 have e3 : P * (d + s) = P * (x + 4294967296 * (s / 4294967296 + nn)) := by rw [e2]
 rw [hs, Nat.mul_add, Nat.mul_add, Nat.mul_add, <- Nat.mul_assoc P 4294967296] at e3
 rw [<- hs] at e3
 have e4 : q * (P * v) = P * (q * v) := by rw [Nat.mul_left_comm]
 rw [e4]
 omega
theorem Lessed.step {w0 wr : World} {g : Nat} {pre ps post ds ps' : List Nat} {q k b : Nat} (h : Lessed w0 wr g pre ps post ds q k b ps') (hk : k < ps.length) (hkd : k < ds.length) (s d nn : Nat) (hs : s = b + q * ds[k]) (hdl : d < 4294967296) (hd : d + s % 4294967296 = ps[k] + 4294967296 * nn) :
  Lessed w0 (wr.setCell ⟨g, pre.length + k, none⟩ (.int .u32 (d : Int))) g pre ps post ds q (k + 1) (s / 4294967296 + nn) (ps'.set k d) := by
 have hk2 : k < ps'.length := by rw [h.len]; exact hk
 refine ⟨by simp [h.len], Yn h.limbs hdl, h.row.mid_set hk2 d, grown_set h.low _ _, J9 h.rest, ?_⟩
 rw [Z7 hk2, XH, List.length_take, Nat.min_eq_left (by omega), Zx hkd, Zx hk, Nat.mul_add q, Nat.pow_succ]
 exact less_val h.done hs hd

theorem exact_less (g gd c cd q : Nat) (pre ps post ds es : List Nat) (hq : q < 4294967296) (hne : gd ≠ g) (hp : ps.length = ds.length + 1) (hps : Zj ps) (hds : Zj ds) (hl : ds.length <= 1073741824) (w : World) (h : YJ w g (pre ++ ps ++ post)) (h2 : YJ w gd (ds ++ es)) :
  Calls Tryz.prog 254 #[.slice (some ⟨g, pre.length, none⟩) (ds.length + 1) c, .slice (some ⟨gd, 0, none⟩) ds.length cd, .int .u64 q] w fun e w' => ∃ ps' nn, e = .returned (.bool nn) /\ ps'.length = ps.length /\ Zj ps' /\ YJ w' g (pre ++ ps' ++ post) /\ w.grownBy w' (some g) /\ val ps' + q * val ds = val ps + 4294967296 ^ (ds.length + 1) * (if nn = true then 1 else 0) := by
 have H0 := Hd (⟨rfl, hps, h, World.grownBy.refl w _, rfl, by simp [val]⟩ : Lessed w w g pre ps post ds q 0 0 ps)
 have HP := Hd hps
 have HD := Hd hds
 have H2 := Hd h2
 clear h hps hds h2
 go_enter Tryz.func254, Tryz.ntmps254
 go_wp2_with fail
 go_loopw [7, 14] (fun t s wr => ∃ k b : Nat, s = .int .i64 k /\ t = .int .u64 b /\ b <= 4294967296 /\ k <= ds.length /\ Hid (∃ ps', Lessed w wr g pre ps post ds q k b ps')) (fun _ s _ => ds.length - (intOf s).toNat)
 case atStart => exact ⟨0, 0, rfl, rfl, by omega, Nat.zero_le _, Hd ⟨_, H0.out⟩⟩
 case round =>
  obtain ⟨k, b, rfl, rfl, hb, hk, HR⟩ := hrel
  clear H0
  obtain ⟨ps', hs⟩ := HR.out
  have HS := Hd hs
  clear HR hs
  by_cases hlt : k < ds.length
  . have a0 : (0 : Int) <= (k : Int) := by omega
    have a1 : (k : Int) < (ds.length : Int) := by omega
    have a2 : (k : Int) < (ds.length : Int) + 1 := by omega
    have fz := HS.out.row.frozen (pre.length + k)
    have hk2 : k < ps'.length := by rw [HS.out.len]; omega
    have hk3 : k < ps.length := by omega
    have hcell := HS.out.row.mid_cell hk2
    rw [JE HS.out.rest hk2 hk3] at hcell
    have hx := Zs HP.out hk3
    have hv := Zs HD.out hlt
    have hcd := (H2.out.stays HS.out.low (by simpa using hne)).head_cell hlt
    have hlt3 := HS.out.row.lt
    have hlt4 := (H2.out.stays HS.out.low (by simpa using hne)).lt
    have S := Hd (fun s d nn h1 h2 h3 => HS.out.step hk3 hlt s d nn h1 h2 h3)
    generalize ps[k] = x at hcell hx S
    generalize ds[k] = v at hcd hv S
    have hqv : q * v <= 4294967295 * 4294967295 := Nat.mul_le_mul (by omega) (by omega)
    obtain ⟨k1, k2, k3⟩ := less_digit x ((b + q * v) % 4294967296) hx (Nat.le_of_lt (Nat.mod_lt _ (by omega)))
    have S2 := Hd (S.out _ _ _ rfl (Nat.mod_lt _ (by omega)) k3)
    have e0 : (b : Int) + (q : Int) * (v : Int) = ((b + q * v : Nat) : Int) := by simp
    have e1 : ((b + q * v : Nat) : Int) % 4294967296 = (((b + q * v) % 4294967296 : Nat) : Int) := by omega
    have hs2 : b + q * v <= 18446744069414584321 := by omega
    have hn2 : (if x < (b + q * v) % 4294967296 then 1 else 0) <= 1 := by split <;> omega
    generalize (if x < (b + q * v) % 4294967296 then 1 else 0) = nn at k2 S2 hn2
    generalize (x + 4294967296 - (b + q * v) % 4294967296) % 4294967296 = dd at k1 S2
    have K := Hd (And.intro e0 (And.intro e1 (And.intro k1 k2)))
    have hb2 : (b + q * v) / 4294967296 + nn <= 4294967296 := by omega
    have hw : IntKind.u64.wrap (((b + q * v : Nat) : Int) / 4294967296 + (nn : Int)) = (((b + q * v) / 4294967296 + nn : Nat) : Int) := by
      rw [IntKind.wrap_u64]; omega
    have HW := Hd hw
    clear HS S e0 e1 k1 k2 hw k3
    go_wp2_with fail
    go_roundw
    case rel =>
      obtain ⟨e0, e1, k1, k2⟩ := K.out
      rw [e0, e1, k1, k2, HW.out]
      exact ⟨k + 1, (b + q * v) / 4294967296 + nn, by go_num, rfl, hb2, hlt, Hd ⟨_, S2.out⟩⟩
    case measure => simp [intOf]; omega
  . obtain rfl : k = ds.length := by omega
    have hk2 : ds.length < ps'.length := by rw [HS.out.len]; omega
    have hk3 : ds.length < ps.length := by omega
    have a0 : (0 : Int) <= (ds.length : Int) := by omega
    have a2 : (ds.length : Int) < (ds.length : Int) + 1 := by omega
    have fz := HS.out.row.frozen (pre.length + ds.length)
    have hcell := HS.out.row.mid_cell hk2
    rw [JE HS.out.rest hk2 hk3] at hcell
    have hx := Zs HP.out hk3
    have hlt3 := HS.out.row.lt
    obtain ⟨k1, k2, k3⟩ := less_digit ps[ds.length] b hx hb
    have hfin : ∀ dd nn : Nat, dd < 4294967296 -> dd + b = ps[ds.length] + 4294967296 * nn -> (ps'.set ds.length dd).length = ps.length /\ Zj (ps'.set ds.length dd) /\ YJ (wr.setCell ⟨g, pre.length + ds.length, none⟩ (.int .u32 (dd : Int))) g (pre ++ ps'.set ds.length dd ++ post) /\ w.grownBy (wr.setCell ⟨g, pre.length + ds.length, none⟩ (.int .u32 (dd : Int))) (some g) /\ val (ps'.set ds.length dd) + q * val ds = val ps + 4294967296 ^ (ds.length + 1) * nn := fun dd nn h1 h3 => by
      refine ⟨by simp [HS.out.len], Yn HS.out.limbs h1, HS.out.row.mid_set hk2 dd, grown_set HS.out.low _ _, ?_⟩
      have e := Z7 (zs := ps') (k := ds.length) (d := dd) hk2
      rw [List.take_of_length_le (by simp [HS.out.len]; omega)] at e
      have e2 := Zx hk3
      rw [List.take_of_length_le (by omega)] at e2
      have e3 := HS.out.done
      rw [Z4 (xs := ds) (k := ds.length) (Nat.le_refl _)] at e3
      rw [e, XH, List.length_take, Nat.min_eq_left (by omega), e2, Nat.pow_succ]
      generalize 4294967296 ^ ds.length = P at *
      have e4 : P * (dd + b) = P * (ps[ds.length] + 4294967296 * nn) := by rw [h3]
      rw [Nat.mul_add, Nat.mul_add, <- Nat.mul_assoc] at e4
      omega
    have F := Hd (hfin _ _ (Nat.mod_lt _ (by omega)) k3)
    generalize ps[ds.length] = x at hcell hx k1 k2 F
    have K1 := Hd k1
    clear HS hfin k3 k1
    by_cases hneg : x < b
    . rw [if_pos hneg] at k2 F
      go_wp2_with fail
      go_ret
      obtain ⟨f1, f2, f3, f4, f5⟩ := F.out
      exact ⟨_, true, rfl, f1, f2, by rw [K1.out]; exact f3, by rw [K1.out]; exact f4, f5⟩
    . rw [if_neg hneg] at F
      have e1 : (x : Int) - (b : Int) = (((x + 4294967296 - b) % 4294967296 : Nat) : Int) := by omega
      have e2 : ((x : Int) - (b : Int)) / 9223372036854775808 = 0 := by omega
      have E1 := Hd e1
      clear e1 k2 K1
      go_wp2_with fail
      go_ret
      obtain ⟨f1, f2, f3, f4, f5⟩ := F.out
      exact ⟨_, false, rfl, f1, f2, by rw [E1.out]; exact f3, by rw [E1.out]; exact f4, f5⟩

structure Yo (top d2 P Dr head u2 Ur D U : Nat) : Prop where
 hD : D = (top * 4294967296 + d2) * P + Dr
 hDr : Dr < P
 hd2 : d2 < 4294967296
 htop : 2147483648 <= top
 htop2 : top < 4294967296
 hU : U = (head * 4294967296 + u2) * P + Ur
 hUr : Ur < P
 hu2 : u2 < 4294967296
 hlt : U < 4294967296 * D

section
variable {top d2 P Dr head u2 Ur D U : Nat}
theorem Yo.posP (h : Yo top d2 P Dr head u2 Ur D U) : 0 < P := by have := h.hDr; omega
theorem Yo.leD (h : Yo top d2 P Dr head u2 Ur D U) : (top * 4294967296 + d2) * P <= D := by rw [h.hD]; omega
theorem Yo.ltU (h : Yo top d2 P Dr head u2 Ur D U) : U < (head * 4294967296 + u2 + 1) * P := by
 have := h.hUr
 rw [h.hU, Nat.add_mul _ 1 P]; omega
theorem Yo.start (h : Yo top d2 P Dr head u2 Ur D U) : U < (head / top + 1) * D := by
 have h1 : head + 1 <= (head / top + 1) * top := by
  have e := Nat.div_add_mod head top
  have e2 := Nat.mod_lt head (show 0 < top by have := h.htop; omega)
  rw [Nat.add_mul, Nat.one_mul, Nat.mul_comm (head / top)]; omega
 have h2 : (head * 4294967296 + u2 + 1) <= (head / top + 1) * (top * 4294967296 + d2) := by
  have e : (head + 1) * 4294967296 <= (head / top + 1) * top * 4294967296 := Nat.mul_le_mul_right _ h1
  have e2 : (head / top + 1) * (top * 4294967296 + d2) = (head / top + 1) * top * 4294967296 + (head / top + 1) * d2 := by rw [Nat.mul_add, Nat.mul_assoc]
  have := h.hu2
  rw [e2]; omega
 have h3 := Nat.mul_le_mul_right P h2
 have h4 := Nat.mul_le_mul_left (head / top + 1) h.leD
 have h5 := h.ltU
 rw [Nat.mul_assoc] at h3
 omega
theorem Yo.less (h : Yo top d2 P Dr head u2 Ur D U) {g rest : Nat} (hg : g * top + rest = head) (hc : 4294967296 <= g ∨ rest * 4294967296 + u2 < g * d2) : U < g * D := by
 rcases hc with hc | hc
 . have := Nat.mul_le_mul_right D hc
   have := h.hlt
   omega
 . have h2 : head * 4294967296 + u2 + 1 <= g * (top * 4294967296 + d2) := by
    have e2 : g * (top * 4294967296 + d2) = g * top * 4294967296 + g * d2 := by rw [Nat.mul_add, Nat.mul_assoc]
    rw [e2, <- hg]
    generalize g * top = a at *
    generalize g * d2 = c at *
    omega
   have h3 := Nat.mul_le_mul_right P h2
   have h4 := Nat.mul_le_mul_left g h.leD
   have h5 := h.ltU
   rw [Nat.mul_assoc] at h3
   omega
theorem Yo.head_lt (h : Yo top d2 P Dr head u2 Ur D U) : head < 4294967296 * (top + 1) := by
 have h1 : head * 4294967296 * P <= U := by
  rw [h.hU, Nat.add_mul]; omega
 have h2 : D < (top + 1) * 4294967296 * P := by
  have e : (top * 4294967296 + d2 + 1) * P <= (top + 1) * 4294967296 * P := Nat.mul_le_mul_right P (by have := h.hd2; omega)
  have := h.hDr
  rw [h.hD]
  rw [Nat.add_mul _ 1 P] at e
  omega
 have h3 : 4294967296 * D <= 4294967296 * ((top + 1) * 4294967296 * P) := Nat.mul_le_mul_left _ (Nat.le_of_lt h2)
 have h4 := h.hlt
 have h5 : head * 4294967296 * P < 4294967296 * (top + 1) * 4294967296 * P := by
  have e : 4294967296 * ((top + 1) * 4294967296 * P) = 4294967296 * (top + 1) * 4294967296 * P := by simp only [Nat.mul_assoc]
  omega
 have h6 := Nat.lt_of_mul_lt_mul_right h5
 omega
theorem Yo.brk (h : Yo top d2 P Dr head u2 Ur D U) {g rest : Nat} (hg : g * top + rest = head) (hr : 4294967296 <= rest + top) : g <= 4294967296 := by
 rcases Nat.lt_or_ge 4294967296 g with h1 | h1
 . exfalso
   have e := Nat.mul_le_mul_right top (show 4294967297 <= g from h1)
   have e2 := h.head_lt
   omega
 . exact h1
theorem Yo.done (h : Yo top d2 P Dr head u2 Ur D U) {g rest : Nat} (hg : g * top + rest = head) (hgB : g < 4294967296) (hc : 4294967296 <= rest ∨ g * d2 <= rest * 4294967296 + u2) : g * D < U + D := by
 have h1 : g * d2 <= rest * 4294967296 + u2 := by
  rcases hc with hc | hc
  . have e : g * d2 <= 4294967295 * 4294967295 := Nat.mul_le_mul (by omega) (by have := h.hd2; omega)
    omega
  . exact hc
 have h2 : g * (top * 4294967296 + d2) <= head * 4294967296 + u2 := by
  have e2 : g * (top * 4294967296 + d2) = g * top * 4294967296 + g * d2 := by rw [Nat.mul_add, Nat.mul_assoc]
  rw [e2, <- hg]
  generalize g * top = a at *
  generalize g * d2 = c at *
  omega
 have h3 := Nat.mul_le_mul_right P h2
 have h4 : g * Dr <= 4294967295 * P := Nat.mul_le_mul (by omega) (Nat.le_of_lt h.hDr)
 have h5 : g * D = g * (top * 4294967296 + d2) * P + g * Dr := by rw [h.hD, Nat.mul_add, Nat.mul_assoc]
 have h6 : 4294967296 * P <= D := by
  have e : 4294967296 * P <= (top * 4294967296 + d2) * P := Nat.mul_le_mul_right P (by have := h.htop; omega)
  exact Nat.le_trans e h.leD
 have h7 := h.posP
 have h8 : (head * 4294967296 + u2) * P <= U := by rw [h.hU]; omega
 omega
end

theorem val_take2 {xs : List Nat} {m : Nat} (h : xs.length = m + 2) : val xs = (xs[m + 1] * 4294967296 + xs[m]) * 4294967296 ^ m + val (xs.take m) := by
 have e1 := Zx (xs := xs) (k := m + 1) (by omega)
 have e2 := Zx (xs := xs) (k := m) (by omega)
 rw [List.take_of_length_le (by omega)] at e1
 rw [e1, e2, Nat.pow_succ, Nat.add_mul]
 have a1 : 4294967296 ^ m * 4294967296 * xs[m + 1] = xs[m + 1] * 4294967296 * 4294967296 ^ m := by rw [Nat.mul_right_comm, Nat.mul_comm (4294967296 ^ m), Nat.mul_right_comm]
 have a2 : 4294967296 ^ m * xs[m] = xs[m] * 4294967296 ^ m := Nat.mul_comm _ _
 omega
theorem val_take3 {xs : List Nat} {m : Nat} (h : xs.length = m + 3) : val xs = ((xs[m + 2] * 4294967296 + xs[m + 1]) * 4294967296 + xs[m]) * 4294967296 ^ m + val (xs.take m) := by
 have e1 := Zx (xs := xs) (k := m + 2) (by omega)
 rw [List.take_of_length_le (by omega)] at e1
 have e2 := val_take2 (xs := xs.take (m + 2)) (m := m) (by simp [List.length_take]; omega)
 simp only [List.getElem_take, List.take_take, Nat.min_eq_left (show m <= m + 2 by omega)] at e2
 rw [e1, e2]
 have a1 : 4294967296 ^ (m + 2) * xs[m + 2] = xs[m + 2] * 4294967296 * 4294967296 * 4294967296 ^ m := by
  rw [Nat.pow_succ, Nat.pow_succ]
  generalize 4294967296 ^ m = P
  generalize xs[m + 2] = x
  grind
 simp only [Nat.add_mul] at *
 omega
theorem digits_of {ds ps : List Nat} {m : Nat} (hd : ds.length = m + 2) (hp : ps.length = m + 3) (hdl : Zj ds) (hpl : Zj ps) (htop : 2147483648 <= ds[m + 1]) (hlt : val ps < 4294967296 * val ds) :
   Yo ds[m + 1] ds[m] (4294967296 ^ m) (val (ds.take m)) (ps[m + 2] * 4294967296 + ps[m + 1]) ps[m] (val (ps.take m)) (val ds) (val ps) := by
 refine ⟨val_take2 hd, ?_, Zs hdl _, htop, Zs hdl _, val_take3 hp, ?_, Zs hpl _, hlt⟩
 . have := Y7 (YG hdl m)
   rwa [List.length_take, Nat.min_eq_left (by omega)] at this
 . have := Y7 (YG hpl m)
   rwa [List.length_take, Nat.min_eq_left (by omega)] at this

structure Guess (top head D U g r : Nat) : Prop where
 eq : g * top + r = head
 small : r < 4294967296
 high : U < (g + 1) * D
section
variable {top d2 P Dr head u2 Ur D U : Nat}
theorem Yo.guess0 (h : Yo top d2 P Dr head u2 Ur D U) : Guess top head D U (head / top) (head % top) :=
 ⟨by rw [Nat.mul_comm]; exact Nat.div_add_mod head top, by have := Nat.mod_lt head (show 0 < top by have := h.htop; omega); have := h.htop2; omega, h.start⟩
structure Guessed (D U g : Nat) : Prop where
 limb : g < 4294967296
 high : U < (g + 1) * D
 low : g * D < U + D
theorem Yo.stop (h : Yo top d2 P Dr head u2 Ur D U) {g r : Nat} (k : Guess top head D U g r) (h1 : g < 4294967296) (h2 : g * d2 <= r * 4294967296 + u2) : Guessed D U g :=
 ⟨h1, k.high, h.done k.eq h1 (.inr h2)⟩
theorem Yo.down (h : Yo top d2 P Dr head u2 Ur D U) {g r : Nat} (k : Guess top head D U g r) (hc : 4294967296 <= g ∨ r * 4294967296 + u2 < g * d2) :
  1 <= g /\ (r + top < 4294967296 -> Guess top head D U (g - 1) (r + top)) /\ (4294967296 <= r + top -> Guessed D U (g - 1)) := by
 have hl := h.less k.eq hc
 have hg : 1 <= g := by
  rcases Nat.eq_zero_or_pos g with rfl | h0
  . omega
  . exact h0
 obtain ⟨g, rfl⟩ : ∃ g', g = g' + 1 := ⟨g - 1, by omega⟩
 have e : g * top + (r + top) = head := by have := k.eq; rw [Nat.add_mul] at this; omega
 refine ⟨hg, fun hr => ⟨by simpa using e, hr, by simpa using hl⟩, fun hr => ?_⟩
 have hb := h.brk k.eq hr
 exact ⟨by simp; omega, by simpa using hl, by simpa using h.done e (by omega) (.inl hr)⟩
end

structure Dv (zl0 zs qs : List Nat) (Y k : Nat) : Prop where
 len : zs.length = zl0.length
 limbs : Zj zs
 limbsq : Zj qs
 same : zs.take k = zl0.take k
 eq : val (qs.drop k) * Y + val (zs.drop k) = val (zl0.drop k)
 lt : val (zs.drop k) < Y
theorem drop_pre (pre mid : List Nat) (i : Nat) (h : pre.length = i) : (pre ++ mid).drop i = mid := by
 subst h; simp
theorem Dv.part {zl0 pre ps post qs : List Nat} {Y i D : Nat} (h : Dv zl0 (pre ++ ps ++ post) qs Y (i + 1)) (hpre : pre.length = i) (hps : ps.length = D + 1) (hY : Y < 4294967296 ^ D) :
   val post = 0 /\ val ps < 4294967296 * Y /\ Zj ps /\ val ps = val ((pre ++ ps ++ post).drop i) := by
 have hl := h.limbs
 rw [List.append_assoc, Yh, Yh] at hl
 have e0 : (pre ++ ps ++ post).drop i = ps ++ post := by rw [List.append_assoc, drop_pre _ _ _ hpre]
 obtain ⟨p, pt, rfl⟩ : ∃ p pt, ps = p :: pt := by
   match ps, hps with
   | p :: pt, _ => exact ⟨p, pt, rfl⟩
 have e1 : (pre ++ (p :: pt) ++ post).drop (i + 1) = pt ++ post := by
   have := congrArg (List.drop 1) e0
   rw [List.drop_drop] at this
   simpa using this
 have hlt := h.lt
 rw [e1, YK] at hlt
 have hpt : pt.length = D := by simpa using hps
 rw [hpt] at hlt
 have hz : val post = 0 := by
   rcases Nat.eq_zero_or_pos (val post) with h0 | h0
   . exact h0
   . exfalso
     have h1 : 4294967296 ^ D <= 4294967296 ^ D * val post := Nat.le_mul_of_pos_right _ h0
     generalize 4294967296 ^ D = P at h1 hY hlt
     omega
 rw [hz, Nat.mul_zero, Nat.add_zero] at hlt
 have hp := hl.2.1 p (by simp)
 refine ⟨hz, ?_, hl.2.1, ?_⟩
 . simp only [val]
   clear hY hz e0 e1
   omega
 . rw [e0, YK, hz, Nat.mul_zero, Nat.add_zero]
theorem Dv.step {zl0 pre ps ps' post qs : List Nat} {Y i D q : Nat} (h : Dv zl0 (pre ++ ps ++ post) qs Y (i + 1)) (hpre : pre.length = i) (hps : ps.length = D + 1) (hY : Y < 4294967296 ^ D)
   (hps' : ps'.length = ps.length) (hl' : Zj ps') (hq : q < 4294967296) (hv : val ps' + q * Y = val ps) (hlt : val ps' < Y) (hi : i < qs.length) :
   Dv zl0 (pre ++ ps' ++ post) (qs.set i q) Y i := by
 obtain ⟨hz, -, -, hval⟩ := h.part hpre hps hY
 have hl := h.limbs
 rw [List.append_assoc, Yh, Yh] at hl
 have hlen := h.len
 have hi2 : i < (pre ++ ps ++ post).length := by simp; omega
 have hi3 : i < zl0.length := by rw [<- hlen]; exact hi2
 have hat : (pre ++ ps ++ post)[i] = zl0[i] := by
   have e := congrArg (fun l : List Nat => l[i]?) h.same
   simp only [List.getElem?_take, if_pos (Nat.lt_succ_self i)] at e
   rw [List.getElem?_eq_getElem hi2, List.getElem?_eq_getElem hi3] at e
   exact Option.some.inj e
 have e0 : val ((pre ++ ps' ++ post).drop i) = val ps' := by rw [List.append_assoc, drop_pre _ _ _ hpre, YK, hz, Nat.mul_zero, Nat.add_zero]
 refine ⟨?_, ?_, Yn h.limbsq hq, ?_, ?_, by rw [e0]; exact hlt⟩
 . rw [<- hlen]; simp [hps']
 . rw [List.append_assoc, Yh, Yh]; exact ⟨hl.1, hl', hl.2.2⟩
 . have e := congrArg (List.take i) h.same
   rw [List.take_take, List.take_take, Nat.min_eq_left (by omega)] at e
   rw [<- e, List.append_assoc, List.append_assoc, <- hpre, List.take_left, List.take_left]
 . rw [e0, Jz hi, Yz hi3]
   have e1 := h.eq
   have e2 : val ps = zl0[i] + 4294967296 * val ((pre ++ ps ++ post).drop (i + 1)) := by rw [hval, Yz hi2, hat]
   rw [Nat.add_mul, Nat.mul_assoc]
   omega

theorem down_step {V k n : Nat} (r0 r1 rest : Nat) (hn : n <= 32) (hV : V / 4294967296 ^ k = r0 + 4294967296 * (r1 + 4294967296 * rest)) :
  V / 2 ^ n % 4294967296 ^ (k + 1) = V / 2 ^ n % 4294967296 ^ k + 4294967296 ^ k * ((r1 * 4294967296 + r0) / 2 ^ n % 4294967296) := by
 have e1 : V / 2 ^ n / 4294967296 ^ k = V / 4294967296 ^ k / 2 ^ n := by rw [Nat.div_div_eq_div_mul, Nat.div_div_eq_div_mul, Nat.mul_comm]
 rw [Nat.pow_succ, Nat.mod_mul, e1, hV]
 have e2 : r0 + 4294967296 * (r1 + 4294967296 * rest) = (r1 * 4294967296 + r0) + 2 ^ n * (2 ^ (32 - n) * (4294967296 * rest)) := by
  rw [<- Nat.mul_assoc (2 ^ n), <- Nat.pow_add, show n + (32 - n) = 32 by omega]
  omega
 rw [e2, Nat.add_mul_div_left _ _ (Nat.two_pow_pos n)]
 have e3 : 2 ^ (32 - n) * (4294967296 * rest) = 4294967296 * (2 ^ (32 - n) * rest) := Nat.mul_left_comm _ _ _
 rw [e3, Nat.add_mul_mod_self_left]
theorem val_div_drop (xs : List Nat) (hx : Zj xs) (k : Nat) (hk : k <= xs.length) : val xs / 4294967296 ^ k = val (xs.drop k) := by
 rw [val_part xs k hk, Nat.add_mul_div_left _ _ (Nat.pow_pos (by omega)), Nat.div_eq_of_lt, Nat.zero_add]
 have := Y7 (YG hx k)
 rwa [List.length_take, Nat.min_eq_left hk] at this
theorem val_drop_two (xs : List Nat) (k : Nat) (hk : k < xs.length) : val (xs.drop k) = xs[k] + 4294967296 * (JU xs (k + 1) + 4294967296 * val (xs.drop (k + 2))) := by
 rw [Yz hk]
 rcases Nat.lt_or_ge (k + 1) xs.length with h | h
 . rw [Yz h, Yk h]
 . rw [List.drop_of_length_le h, List.drop_of_length_le (by omega), Je h]; simp [val]
structure Jx (r0 zs : List Nat) (n k : Nat) : Prop where
 len : zs.length = r0.length
 limbs : Zj zs
 rest : zs.drop k = r0.drop k
 done : val (zs.take k) = val r0 / 2 ^ n % 4294967296 ^ k
theorem Jx.step {r0 zs : List Nat} {n k : Nat} (h : Jx r0 zs n k) (hr : Zj r0) (hn : n <= 32) (hk : k < r0.length) :
  Jx r0 (zs.set k ((JU r0 (k + 1) * 4294967296 + r0[k]) / 2 ^ n % 4294967296)) n (k + 1) := by
 have hk2 : k < zs.length := by rw [h.len]; exact hk
 refine ⟨by simp [h.len], Yn h.limbs (Nat.mod_lt _ (by omega)), J9 h.rest, ?_⟩
 rw [Z7 hk2, XH, List.length_take, Nat.min_eq_left (by omega), h.done, down_step r0[k] (JU r0 (k + 1)) (val (r0.drop (k + 2))) hn (by rw [val_div_drop _ hr _ (by omega), val_drop_two _ _ hk])]
theorem Jx.start (r0 : List Nat) (hr : Zj r0) (n : Nat) : Jx r0 r0 n 0 := ⟨rfl, hr, rfl, by simp [val, Nat.mod_one]⟩
theorem Jx.val_end {r0 zs : List Nat} {n : Nat} (h : Jx r0 zs n r0.length) (hr : Zj r0) : val zs = val r0 / 2 ^ n := by
 have e := h.done
 rw [List.take_of_length_le (by rw [h.len]; omega)] at e
 rw [e, Nat.mod_eq_of_lt]
 exact Nat.lt_of_le_of_lt (Nat.div_le_self _ _) (Y7 hr)

structure Lifted (ys : List Nat) (n m : Nat) : Prop where
 hn : n <= 31
 low : 2147483648 * 4294967296 ^ m <= val ys * 2 ^ n
 high : val ys * 2 ^ n < 4294967296 ^ (m + 1)
theorem lifted {ys : List Nat} {m : Nat} (hy : Zj ys) (hl : ys.length = m + 1) (n b : Nat) (hb : n + b = 32) (h1 : 2 ^ b <= 2 * ys[m]) (h2 : ys[m] < 2 ^ b) (hb0 : 1 <= b) : Lifted ys n m := by
 have e := Zx (xs := ys) (k := m) (by omega)
 rw [List.take_of_length_le (by omega)] at e
 have hlt := Y7 (YG hy m)
 rw [List.length_take, Nat.min_eq_left (by omega)] at hlt
 have hp : 2 ^ b * 2 ^ n = 4294967296 := by rw [<- Nat.pow_add, show b + n = 32 by omega]
 refine ⟨by omega, ?_, ?_⟩
 . have a1 : 2 ^ b * 2 ^ n <= 2 * ys[m] * 2 ^ n := Nat.mul_le_mul_right _ h1
   have a2 : 2147483648 <= ys[m] * 2 ^ n := by rw [hp, Nat.mul_assoc] at a1; omega
   have a3 := Nat.mul_le_mul_right (4294967296 ^ m) a2
   have a4 : ys[m] * 2 ^ n * 4294967296 ^ m = 4294967296 ^ m * ys[m] * 2 ^ n := by rw [Nat.mul_comm (4294967296 ^ m), Nat.mul_right_comm]
   have a5 : 4294967296 ^ m * ys[m] * 2 ^ n <= val ys * 2 ^ n := Nat.mul_le_mul_right _ (by omega)
   omega
 . have a1 : val ys + 1 <= 4294967296 ^ m * 2 ^ b := by
    have := Nat.mul_le_mul_left (4294967296 ^ m) (show ys[m] + 1 <= 2 ^ b from h2)
    rw [Nat.mul_add] at this
    omega
   have a2 := Nat.mul_le_mul_right (2 ^ n) a1
   rw [Nat.mul_assoc, hp, Nat.add_mul, <- Nat.pow_succ] at a2
   have := Nat.two_pow_pos n
   omega
theorem Dv.start {xs ys zl0 : List Nat} {n m : Nat} (h : Lifted ys n m) (hx : Zj xs) (hxl : m + 1 <= xs.length) (hzl : zl0.length = xs.length + 1) (hz : Zj zl0) (hzv : val zl0 = val xs * 2 ^ n) (qs : List Nat) (hq : Zj qs) (hql : qs.length = xs.length - m) :
  Dv zl0 zl0 qs (val ys * 2 ^ n) (xs.length - m) := by
 refine ⟨rfl, hz, hq, rfl, by rw [List.drop_of_length_le (by omega)]; simp [val], ?_⟩
 have h1 := val_part zl0 (xs.length - m) (by omega)
 have h2 : val (zl0.drop (xs.length - m)) * 4294967296 ^ (xs.length - m) < 4294967296 ^ xs.length * 2 ^ n := by
  have := Nat.mul_lt_mul_of_pos_right (Y7 hx) (Nat.two_pow_pos n)
  rw [Nat.mul_comm]
  omega
 have h3 : 4294967296 ^ xs.length = 4294967296 ^ m * 4294967296 ^ (xs.length - m) := by rw [<- Nat.pow_add, show m + (xs.length - m) = xs.length by omega]
 rw [h3, Nat.mul_right_comm] at h2
 have h4 := Nat.lt_of_mul_lt_mul_right h2
 have h5 : 2 ^ n <= 2 ^ 31 := Nat.pow_le_pow_right (by omega) h.hn
 have h6 := Nat.mul_le_mul_left (4294967296 ^ m) h5
 have := h.low
 omega
theorem Dv.stop {zl0 zs qs : List Nat} {X Y n : Nat} (h : Dv zl0 zs qs (Y * 2 ^ n) 0) (hv : val zl0 = X * 2 ^ n) : val qs = X / Y /\ val zs = X % Y * 2 ^ n := by
 have e := h.eq
 have hl := h.lt
 simp only [List.drop_zero] at e hl
 rw [hv] at e
 have hp := Nat.two_pow_pos n
 have hY : 0 < Y := by
   rcases Nat.eq_zero_or_pos Y with rfl | h0
   . simp at hl
   . exact h0
 have e1 : X * 2 ^ n / (Y * 2 ^ n) = X / Y := Nat.mul_div_mul_right _ _ hp
 have e2 : X * 2 ^ n % (Y * 2 ^ n) = X % Y * 2 ^ n := Nat.mul_mod_mul_right _ _ _
 rw [<- e1, <- e2, <- e]
 have hpos : 0 < Y * 2 ^ n := Nat.mul_pos hY hp
 constructor
 . rw [Nat.add_comm, Nat.add_mul_div_right _ _ hpos, Nat.div_eq_of_lt hl, Nat.zero_add]
 . rw [Nat.mul_add_mod_self_right, Nat.mod_eq_of_lt hl]

theorem exact_add_ge (A B : Option Addr) (c d : Nat) (xs ys : List Nat) (hle : ys.length <= xs.length) (hl : xs.length <= 1073741824) (w : World) (h : Zm w A c xs) (g : Zm w B d ys) :
  Calls Tryz.prog 264 #[.slice A xs.length c, .slice B ys.length d] w (RetL w.heap.size w (val xs + val ys) (xs.length + 1)) := by
 have HX := Hd h
 have HY := Hd g
 have hc := h.cap
 have hm := h.most
 have hd := g.cap
 have hn := g.most
 have hcond : decide (xs.length < ys.length) = false := by simp; omega
 clear h g
 obtain ⟨i0, hi, hz0, hz1, hz2⟩ := info_parts YC
 have hmk : ∀ W : World, (Instr.makeSlice 22 (.int .i64 ((xs.length : Int) + 1)) (.int .i64 ((xs.length : Int) + 1))).run Tryz.prog W = .ok (.slice (some ⟨W.heap.size, 0, none⟩) (xs.length + 1) (xs.length + 1)) (W.alloc (.cells (madeCells #[.int .u32 0] (xs.length + 1)) 109)) := fun W => by
  have h := Ye (P := Tryz.prog) 22 109 i0 _ Tryz.underlying22 hi hz0 .i64 .i64 (xs.length + 1) (xs.length + 1) (by omega) (by rw [hz2]; omega) (by omega) W
  rw [show ((xs.length + 1 : Nat) : Int) = (xs.length : Int) + 1 by omega, hz1, Nat.mul_one] at h
  exact h
 have I0 : ∃ zs, zs.length = xs.length + 1 /\ Zj zs /\ YJ (w.alloc (.cells (madeCells #[.int .u32 0] (xs.length + 1)) 109)) w.heap.size zs /\ Below w.heap.size w (w.alloc (.cells (madeCells #[.int .u32 0] (xs.length + 1)) 109)) /\ val (zs.take 0) + 4294967296 ^ 0 * 0 = val (xs.take 0) + val (ys.take 0) :=
  ⟨_, by simp, Yr _, YJ.made w _, (Below.refl _ _).alloc (Nat.le_refl _) _, rfl⟩
 have H0 := Hd I0
 clear I0
 go_enter Tryz.func264, Tryz.ntmps264
 go_wp2_with fail
 clear hmk
 go_loopw [6, 22] (fun t s wr => ∃ i k : Nat, s = .int .i64 i /\ t = .int .u32 k /\ k <= 1 /\ i <= xs.length /\ Hid (∃ zs, zs.length = xs.length + 1 /\ Zj zs /\ YJ wr w.heap.size zs /\ Below w.heap.size w wr /\ val (zs.take i) + 4294967296 ^ i * k = val (xs.take i) + val (ys.take i))) (fun _ s _ => xs.length - (intOf s).toNat)
 case atStart => exact ⟨0, 0, rfl, rfl, by omega, Nat.zero_le _, H0⟩
 case round =>
  obtain ⟨i, k, rfl, rfl, hk, hi', HR⟩ := hrel
  clear H0
  obtain ⟨zs, hzl, hz, hrow, hb, hv⟩ := HR.out
  have HV := Hd hv
  have HZ := Hd hz
  clear HR hv hz
  by_cases hlt : i < xs.length
  . have a0 : (0 : Int) <= (i : Int) := by omega
    have a1 : (i : Int) < (xs.length : Int) := by omega
    have a2 : (i : Int) < (xs.length : Int) + 1 := by omega
    have fz := hrow.frozen i
    have hcell := hrow.cell (k := i) (by omega)
    obtain ⟨ad, rfl, hbl, hx⟩ := (HX.out.below hb).reads.get hlt
    have hbx := Hd (Zs HX.out.limbs hlt)
    have step : ∀ y : Nat, y = JU ys i -> y < 4294967296 -> ∃ zs', zs'.length = xs.length + 1 /\ Zj zs' /\ YJ (wr.setCell ⟨w.heap.size, i, none⟩ (.int .u32 (((xs[i] + y + k) % 4294967296 : Nat) : Int))) w.heap.size zs' /\ Below w.heap.size w (wr.setCell ⟨w.heap.size, i, none⟩ (.int .u32 (((xs[i] + y + k) % 4294967296 : Nat) : Int))) /\ val (zs'.take (i + 1)) + 4294967296 ^ (i + 1) * ((xs[i] + y + k) / 4294967296) = val (xs.take (i + 1)) + val (ys.take (i + 1)) := fun y hy hy2 =>
      ⟨zs.set i _, by simp [hzl], Yn HZ.out (Nat.mod_lt _ (by omega)), hrow.set i _, hb.setCell (p := ⟨w.heap.size, i, none⟩) (Nat.le_refl _) _, by
       rw [Z7 (by omega), add_step (zs := zs.take i) (k := i) (by rw [List.length_take]; omega) (xs[i] + y + k) HV.out (xs[i] + y) rfl, Zx hlt, Xu ys i, <- hy, Nat.mul_add]
       omega⟩
    have HS := Hd step
    have hq : k <= 1 := hk
    clear step
    generalize zs[i] = zi at hcell
    generalize hxe : xs[i] = x at hx hbx HS
    clear hxe
    by_cases hy : i < ys.length
    . obtain ⟨bd, rfl, hbl2, hy'⟩ := (HY.out.below hb).reads.get hy
      have b1 : (i : Int) < (ys.length : Int) := by omega
      have hby := Hd (Zs HY.out.limbs hy)
      have S := Hd (HS.out ys[i] (Yk hy).symm (Zs HY.out.limbs hy))
      clear HS
      generalize hye : ys[i] = y at hy' hby S
      clear hye
      have C := Hd (fun V => bits_Add32 x y k hbx.out hby.out hq V)
      have hq2 : (x + y + k) / 4294967296 <= 1 := by have := hbx.out; have := hby.out; omega
      generalize (x + y + k) / 4294967296 = cc at C S hq2
      generalize (x + y + k) % 4294967296 = dd at C S
      clear hbl hbl2
      go_wp2_with (first | (go_at_call 255; with_reducible refine (C.out _).mono ?_; rintro e w' ⟨rfl, rfl⟩))
      go_roundw
      case rel => exact ⟨i + 1, cc, by go_num, rfl, hq2, hlt, S⟩
      case measure => simp [intOf]; omega
    . have b1 : (ys.length : Int) <= (i : Int) := by omega
      have S := Hd (HS.out 0 (Je (by omega)).symm (by omega))
      clear HS
      have C := Hd (fun V => bits_Add32_0 x k hbx.out hq V)
      have hq2 : (x + 0 + k) / 4294967296 <= 1 := by have := hbx.out; omega
      generalize (x + 0 + k) / 4294967296 = cc at C S hq2
      generalize (x + 0 + k) % 4294967296 = dd at C S
      clear hbl
      go_wp2_with (first | (go_at_call 255; with_reducible refine (C.out _).mono ?_; rintro e w' ⟨rfl, rfl⟩))
      go_roundw
      case rel => exact ⟨i + 1, cc, by go_num, rfl, hq2, hlt, S⟩
      case measure => simp [intOf]; omega
  . obtain rfl : i = xs.length := by omega
    have fz := hrow.frozen xs.length
    have hcell := hrow.cell (k := xs.length) (by omega)
    generalize zs[xs.length] = zi at hcell
    have a0 : (0 : Int) <= (xs.length : Int) := by omega
    have a2 : (xs.length : Int) < (xs.length : Int) + 1 := by omega
    have hrow2 := hrow.set xs.length k
    have hb2 := hb.setCell (p := ⟨w.heap.size, xs.length, none⟩) (Nat.le_refl _) (.int .u32 (k : Int))
    have hval : val (zs.set xs.length k) = val xs + val ys := by
      have e := Z7 (zs := zs) (k := xs.length) (d := k) (by omega)
      rw [List.take_of_length_le (by simp; omega)] at e
      have e2 := HV.out
      rw [Z4 (xs := xs) (k := xs.length) (Nat.le_refl _), Z4 (xs := ys) (k := xs.length) (by omega)] at e2
      rw [e, XH, List.length_take, Nat.min_eq_left (by omega)]
      exact e2
    have hown := hrow2.ownL (base := w.heap.size) (Nat.le_refl _) (by simp; omega) (Yn HZ.out (by omega))
    rw [hval, List.length_set, hzl] at hown
    have HO := Hd hown
    have HB := Hd hb2
    clear hown hb2 hval hrow2 HV HZ HX HY
    go_wp2_with fail
    go_ret
    exact ⟨_, rfl, HO.out, HB.out⟩

theorem exact_add_lt (A B : Option Addr) (c d : Nat) (xs ys : List Nat) (hle : xs.length < ys.length) (hl : ys.length <= 1073741824) (w : World) (h : Zm w A c xs) (g : Zm w B d ys) :
  Calls Tryz.prog 264 #[.slice A xs.length c, .slice B ys.length d] w (RetL w.heap.size w (val ys + val xs) (ys.length + 1)) := by
 have HX := Hd g
 have HY := Hd h
 have hc := h.cap
 have hm := h.most
 have hd := g.cap
 have hn := g.most
 have hcond : decide (xs.length < ys.length) = true := by simp; omega
 clear h g
 obtain ⟨i0, hi, hz0, hz1, hz2⟩ := info_parts YC
 have hmk : ∀ W : World, (Instr.makeSlice 22 (.int .i64 ((ys.length : Int) + 1)) (.int .i64 ((ys.length : Int) + 1))).run Tryz.prog W = .ok (.slice (some ⟨W.heap.size, 0, none⟩) (ys.length + 1) (ys.length + 1)) (W.alloc (.cells (madeCells #[.int .u32 0] (ys.length + 1)) 109)) := fun W => by
  have h := Ye (P := Tryz.prog) 22 109 i0 _ Tryz.underlying22 hi hz0 .i64 .i64 (ys.length + 1) (ys.length + 1) (by omega) (by rw [hz2]; omega) (by omega) W
  rw [show ((ys.length + 1 : Nat) : Int) = (ys.length : Int) + 1 by omega, hz1, Nat.mul_one] at h
  exact h
 have I0 : ∃ zs, zs.length = ys.length + 1 /\ Zj zs /\ YJ (w.alloc (.cells (madeCells #[.int .u32 0] (ys.length + 1)) 109)) w.heap.size zs /\ Below w.heap.size w (w.alloc (.cells (madeCells #[.int .u32 0] (ys.length + 1)) 109)) /\ val (zs.take 0) + 4294967296 ^ 0 * 0 = val (ys.take 0) + val (xs.take 0) :=
  ⟨_, by simp, Yr _, YJ.made w _, (Below.refl _ _).alloc (Nat.le_refl _) _, rfl⟩
 have H0 := Hd I0
 clear I0
 go_enter Tryz.func264, Tryz.ntmps264
 go_wp2_with fail
 clear hmk
 go_loopw [6, 22] (fun t s wr => ∃ i k : Nat, s = .int .i64 i /\ t = .int .u32 k /\ k <= 1 /\ i <= ys.length /\ Hid (∃ zs, zs.length = ys.length + 1 /\ Zj zs /\ YJ wr w.heap.size zs /\ Below w.heap.size w wr /\ val (zs.take i) + 4294967296 ^ i * k = val (ys.take i) + val (xs.take i))) (fun _ s _ => ys.length - (intOf s).toNat)
 case atStart => exact ⟨0, 0, rfl, rfl, by omega, Nat.zero_le _, H0⟩
 case round =>
  obtain ⟨i, k, rfl, rfl, hk, hi', HR⟩ := hrel
  clear H0
  obtain ⟨zs, hzl, hz, hrow, hb, hv⟩ := HR.out
  have HV := Hd hv
  have HZ := Hd hz
  clear HR hv hz
  by_cases hlt : i < ys.length
  . have a0 : (0 : Int) <= (i : Int) := by omega
    have a1 : (i : Int) < (ys.length : Int) := by omega
    have a2 : (i : Int) < (ys.length : Int) + 1 := by omega
    have fz := hrow.frozen i
    have hcell := hrow.cell (k := i) (by omega)
    obtain ⟨ad, rfl, hbl, hx⟩ := (HX.out.below hb).reads.get hlt
    have hbx := Hd (Zs HX.out.limbs hlt)
    have step : ∀ y : Nat, y = JU xs i -> y < 4294967296 -> ∃ zs', zs'.length = ys.length + 1 /\ Zj zs' /\ YJ (wr.setCell ⟨w.heap.size, i, none⟩ (.int .u32 (((ys[i] + y + k) % 4294967296 : Nat) : Int))) w.heap.size zs' /\ Below w.heap.size w (wr.setCell ⟨w.heap.size, i, none⟩ (.int .u32 (((ys[i] + y + k) % 4294967296 : Nat) : Int))) /\ val (zs'.take (i + 1)) + 4294967296 ^ (i + 1) * ((ys[i] + y + k) / 4294967296) = val (ys.take (i + 1)) + val (xs.take (i + 1)) := fun y hy hy2 =>
      ⟨zs.set i _, by simp [hzl], Yn HZ.out (Nat.mod_lt _ (by omega)), hrow.set i _, hb.setCell (p := ⟨w.heap.size, i, none⟩) (Nat.le_refl _) _, by
       rw [Z7 (by omega), add_step (zs := zs.take i) (k := i) (by rw [List.length_take]; omega) (ys[i] + y + k) HV.out (ys[i] + y) rfl, Zx hlt, Xu xs i, <- hy, Nat.mul_add]
       omega⟩
    have HS := Hd step
    have hq : k <= 1 := hk
    clear step
    generalize zs[i] = zi at hcell
    generalize hxe : ys[i] = x at hx hbx HS
    clear hxe
    by_cases hy : i < xs.length
    . obtain ⟨bd, rfl, hbl2, hy'⟩ := (HY.out.below hb).reads.get hy
      have b1 : (i : Int) < (xs.length : Int) := by omega
      have hby := Hd (Zs HY.out.limbs hy)
      have S := Hd (HS.out xs[i] (Yk hy).symm (Zs HY.out.limbs hy))
      clear HS
      generalize hye : xs[i] = y at hy' hby S
      clear hye
      have C := Hd (fun V => bits_Add32 x y k hbx.out hby.out hq V)
      have hq2 : (x + y + k) / 4294967296 <= 1 := by have := hbx.out; have := hby.out; omega
      generalize (x + y + k) / 4294967296 = cc at C S hq2
      generalize (x + y + k) % 4294967296 = dd at C S
      clear hbl hbl2
      go_wp2_with (first | (go_at_call 255; with_reducible refine (C.out _).mono ?_; rintro e w' ⟨rfl, rfl⟩))
      go_roundw
      case rel => exact ⟨i + 1, cc, by go_num, rfl, hq2, hlt, S⟩
      case measure => simp [intOf]; omega
    . have b1 : (xs.length : Int) <= (i : Int) := by omega
      have S := Hd (HS.out 0 (Je (by omega)).symm (by omega))
      clear HS
      have C := Hd (fun V => bits_Add32_0 x k hbx.out hq V)
      have hq2 : (x + 0 + k) / 4294967296 <= 1 := by have := hbx.out; omega
      generalize (x + 0 + k) / 4294967296 = cc at C S hq2
      generalize (x + 0 + k) % 4294967296 = dd at C S
      clear hbl
      go_wp2_with (first | (go_at_call 255; with_reducible refine (C.out _).mono ?_; rintro e w' ⟨rfl, rfl⟩))
      go_roundw
      case rel => exact ⟨i + 1, cc, by go_num, rfl, hq2, hlt, S⟩
      case measure => simp [intOf]; omega
  . obtain rfl : i = ys.length := by omega
    have fz := hrow.frozen ys.length
    have hcell := hrow.cell (k := ys.length) (by omega)
    generalize zs[ys.length] = zi at hcell
    have a0 : (0 : Int) <= (ys.length : Int) := by omega
    have a2 : (ys.length : Int) < (ys.length : Int) + 1 := by omega
    have hrow2 := hrow.set ys.length k
    have hb2 := hb.setCell (p := ⟨w.heap.size, ys.length, none⟩) (Nat.le_refl _) (.int .u32 (k : Int))
    have hval : val (zs.set ys.length k) = val ys + val xs := by
      have e := Z7 (zs := zs) (k := ys.length) (d := k) (by omega)
      rw [List.take_of_length_le (by simp; omega)] at e
      have e2 := HV.out
      rw [Z4 (xs := ys) (k := ys.length) (Nat.le_refl _), Z4 (xs := xs) (k := ys.length) (by omega)] at e2
      rw [e, XH, List.length_take, Nat.min_eq_left (by omega)]
      exact e2
    have hown := hrow2.ownL (base := w.heap.size) (Nat.le_refl _) (by simp; omega) (Yn HZ.out (by omega))
    rw [hval, List.length_set, hzl] at hown
    have HO := Hd hown
    have HB := Hd hb2
    clear hown hb2 hval hrow2 HV HZ HX HY
    go_wp2_with fail
    go_ret
    exact ⟨_, rfl, HO.out, HB.out⟩

theorem exact_add (A B : Option Addr) (c d : Nat) (xs ys : List Nat) (hx : xs.length <= 1073741824) (hy : ys.length <= 1073741824) (w : World) (h : Zm w A c xs) (g : Zm w B d ys) :
   Calls Tryz.prog 264 #[.slice A xs.length c, .slice B ys.length d] w (RetL w.heap.size w (val xs + val ys) (max xs.length ys.length + 1)) := by
 by_cases hle : ys.length <= xs.length
 . rw [Nat.max_eq_left hle]
   exact exact_add_ge A B c d xs ys hle hx w h g
 . rw [Nat.max_eq_right (by omega), Nat.add_comm (val xs)]
   exact exact_add_lt A B c d xs ys (by omega) hy w h g

theorem exact_sub (A B : Option Addr) (c d : Nat) (xs ys : List Nat) (hle : ys.length <= xs.length) (hvl : val ys <= val xs) (hl : xs.length <= 1073741824) (w : World) (h : Zm w A c xs) (g : Zm w B d ys) :
  Calls Tryz.prog 265 #[.slice A xs.length c, .slice B ys.length d] w (RetL w.heap.size w (val xs - val ys) xs.length) := by
 have HX := Hd h
 have HY := Hd g
 have hc := h.cap
 have hm := h.most
 have hd := g.cap
 have hn := g.most
 have HVL := Hd hvl
 clear h g hvl
 obtain ⟨i0, hi, hz0, hz1, hz2⟩ := info_parts YC
 have hmk : ∀ W : World, (Instr.makeSlice 22 (.int .i64 (xs.length : Int)) (.int .i64 (xs.length : Int))).run Tryz.prog W = .ok (.slice (some ⟨W.heap.size, 0, none⟩) xs.length xs.length) (W.alloc (.cells (madeCells #[.int .u32 0] xs.length) 109)) := fun W => by
  have h := Ye (P := Tryz.prog) 22 109 i0 _ Tryz.underlying22 hi hz0 .i64 .i64 xs.length xs.length (by omega) (by rw [hz2]; omega) (by omega) W
  rw [hz1, Nat.mul_one] at h
  exact h
 have I0 : ∃ zs, zs.length = xs.length /\ Zj zs /\ YJ (w.alloc (.cells (madeCells #[.int .u32 0] xs.length) 109)) w.heap.size zs /\ Below w.heap.size w (w.alloc (.cells (madeCells #[.int .u32 0] xs.length) 109)) /\ val (zs.take 0) + val (ys.take 0) = val (xs.take 0) + 4294967296 ^ 0 * 0 :=
  ⟨_, by simp, Yr _, YJ.made w _, (Below.refl _ _).alloc (Nat.le_refl _) _, rfl⟩
 have H0 := Hd I0
 clear I0
 go_enter Tryz.func265, Tryz.ntmps265
 go_wp2_with fail
 clear hmk
 go_loopw [6, 14] (fun t s wr => ∃ i k : Nat, s = .int .i64 i /\ t = .int .u32 k /\ k <= 1 /\ i <= xs.length /\ Hid (∃ zs, zs.length = xs.length /\ Zj zs /\ YJ wr w.heap.size zs /\ Below w.heap.size w wr /\ val (zs.take i) + val (ys.take i) = val (xs.take i) + 4294967296 ^ i * k)) (fun _ s _ => xs.length - (intOf s).toNat)
 case atStart => exact ⟨0, 0, rfl, rfl, by omega, Nat.zero_le _, H0⟩
 case round =>
  obtain ⟨i, k, rfl, rfl, hk, hi', HR⟩ := hrel
  clear H0
  obtain ⟨zs, hzl, hz, hrow, hb, hv⟩ := HR.out
  have HV := Hd hv
  have HZ := Hd hz
  clear HR hv hz
  by_cases hlt : i < xs.length
  . have a0 : (0 : Int) <= (i : Int) := by omega
    have a1 : (i : Int) < (xs.length : Int) := by omega
    have fz := hrow.frozen i
    have hcell := hrow.cell (k := i) (by omega)
    obtain ⟨ad, rfl, hbl, hx⟩ := (HX.out.below hb).reads.get hlt
    have hbx := Hd (Zs HX.out.limbs hlt)
    have step : ∀ y dd cc : Nat, y = JU ys i -> dd < 4294967296 -> dd + y + k = xs[i] + 4294967296 * cc -> ∃ zs', zs'.length = xs.length /\ Zj zs' /\ YJ (wr.setCell ⟨w.heap.size, i, none⟩ (.int .u32 (dd : Int))) w.heap.size zs' /\ Below w.heap.size w (wr.setCell ⟨w.heap.size, i, none⟩ (.int .u32 (dd : Int))) /\ val (zs'.take (i + 1)) + val (ys.take (i + 1)) = val (xs.take (i + 1)) + 4294967296 ^ (i + 1) * cc := fun y dd cc hy hd hcc =>
      ⟨zs.set i _, by simp [hzl], Yn HZ.out hd, hrow.set i _, hb.setCell (p := ⟨w.heap.size, i, none⟩) (Nat.le_refl _) _, by
        rw [Z7 (by omega), Zx hlt, Xu ys i, <- hy, sub_step (zs := zs.take i) (k := i) (by rw [List.length_take]; omega) HV.out xs[i] y dd cc hcc]⟩
    have HS := Hd step
    have hq : k <= 1 := hk
    clear step
    generalize zs[i] = zi at hcell
    generalize hxe : xs[i] = x at hx hbx HS
    clear hxe
    by_cases hy : i < ys.length
    . obtain ⟨bd, rfl, hbl2, hy'⟩ := (HY.out.below hb).reads.get hy
      have b1 : (i : Int) < (ys.length : Int) := by omega
      have hby := Hd (Zs HY.out.limbs hy)
      have S := Hd (HS.out ys[i] ((x + 4294967296 - ys[i] - k) % 4294967296) (if x < ys[i] + k then 1 else 0) (Yk hy).symm (Nat.mod_lt _ (by omega)) (by have := hbx.out; have := hby.out; split <;> omega))
      clear HS
      generalize hye : ys[i] = y at hy' hby S
      clear hye
      have C := Hd (fun V => bits_Sub32 x y k hbx.out hby.out hq V)
      have hq2 : (if x < y + k then 1 else 0) <= 1 := by split <;> omega
      generalize (if x < y + k then 1 else 0) = cc at C S hq2
      generalize (x + 4294967296 - y - k) % 4294967296 = dd at C S
      clear hbl hbl2
      go_wp2_with (first | (go_at_call 284; with_reducible refine (C.out _).mono ?_; rintro e w' ⟨rfl, rfl⟩))
      go_roundw
      case rel => exact ⟨i + 1, cc, by go_num, rfl, hq2, hlt, S⟩
      case measure => simp [intOf]; omega
    . have b1 : (ys.length : Int) <= (i : Int) := by omega
      have S := Hd (HS.out 0 ((x + 4294967296 - 0 - k) % 4294967296) (if x < 0 + k then 1 else 0) (Je (by omega)).symm (Nat.mod_lt _ (by omega)) (by have := hbx.out; split <;> omega))
      clear HS
      have C := Hd (fun V => bits_Sub32_0 x k hbx.out hq V)
      have hq2 : (if x < 0 + k then 1 else 0) <= 1 := by split <;> omega
      generalize (if x < 0 + k then 1 else 0) = cc at C S hq2
      generalize (x + 4294967296 - 0 - k) % 4294967296 = dd at C S
      clear hbl
      go_wp2_with (first | (go_at_call 284; with_reducible refine (C.out _).mono ?_; rintro e w' ⟨rfl, rfl⟩))
      go_roundw
      case rel => exact ⟨i + 1, cc, by go_num, rfl, hq2, hlt, S⟩
      case measure => simp [intOf]; omega
  . obtain rfl : i = xs.length := by omega
    have hval : val zs = val xs - val ys := by
      have e2 := HV.out
      rw [<- hzl, Z4 (xs := zs) (k := zs.length) (Nat.le_refl _), hzl, Z4 (xs := xs) (k := xs.length) (Nat.le_refl _), Z4 (xs := ys) (k := xs.length) (by omega)] at e2
      have e3 := Y7 HZ.out
      rw [hzl] at e3
      have e4 := HVL.out
      rcases (by omega : k = 0 ∨ k = 1) with rfl | rfl
      . omega
      . generalize 4294967296 ^ xs.length = P at *
        omega
    have hown := hrow.ownL_cut (base := w.heap.size) (Nat.le_refl _) (by omega) HZ.out
    have htrim := fun V (e : V = wr) => JL (some ⟨w.heap.size, 0, none⟩) zs.length zs HZ.out (Nat.le_refl _) (by omega) V.heap.size V (e ▸ hrow.reads)
    rw [hzl] at htrim hown
    have C := Hd (htrim wr rfl)
    have HO := Hd hown
    have HE := Hd hval
    have HB := Hd hb
    clear hown htrim hval HV HZ HX HY hrow hb
    go_wp2_with (first | (go_at_call 163; with_reducible refine C.out.mono ?_; rintro e w' ⟨rfl, rfl⟩))
    go_ret
    exact ⟨_, rfl, by rw [<- HE.out]; exact HO.out, HB.out⟩

theorem bitLen_step (y : Nat) (h0 : y ≠ 0) (h : y < 4294967296) : Lib.bitLen y = Lib.bitLen (y / 2) + 1 := by
 rw [Lib.bitLen_half y h0 (by omega)]; omega

theorem ref_Bits_more (neg : Bool) (A : Option Addr) (c : Nat) (xs : List Nat) (w : World) (h : Zm w A c xs) (k : Nat) (hk : xs.length = k + 1) (hl : xs.length <= 268435456) :
  Calls Tryz.prog 258 #[.agg #[.bool neg, .slice A xs.length c]] w fun e w' => e = .returned (.int .i64 (32 * (k : Int) + (Lib.bitLen (xs[k]) : Nat))) /\ Below w.heap.size w w' := by
 have h1 := h.cap
 have h2 := h.most
 have hlim := Zs h.limbs (k := k) (by omega)
 obtain ⟨ad, rfl, hbl, hcell⟩ := h.reads.get (k := k) (by omega)
 have hbk : (ad.add k).block < w.heap.size := by rw [Z9]; exact hbl
 generalize xs[k] = y at hcell hlim ⊢
 rw [hk] at h1 hl ⊢
 clear h hk
 have hy := bitLen_le64 y
 go_enter Tryz.func258, Tryz.ntmps258
 go_wp2_with fail
 go_loop [3, 4] (fun n t => ∃ z : Nat, t = .int .u32 z /\ z <= y /\ Lib.bitLen z <= Lib.bitLen y /\ n = .int .i64 (32 * (k : Int) + ((Lib.bitLen y - Lib.bitLen z : Nat) : Int))) (fun _ t => (intOf t).toNat)
 case atStart => exact ⟨y, rfl, Nat.le_refl _, Nat.le_refl _, by rw [Nat.sub_self]; simp⟩
 case round =>
  obtain ⟨z, rfl, hz, hle, rfl⟩ := hrel
  by_cases h0 : z = 0
  . subst h0
    go_wp2_with fail
    go_ret
    exact ⟨rfl, by repeat (first | exact Below.refl _ _ | refine Below.alloc ?_ (by simp; try omega) _)⟩
  . have hpos : 0 < z := by omega
    have hs := bitLen_step z h0 (by omega)
    have HS := Hd hs
    have e : 32 * (k : Int) + ((Lib.bitLen y - Lib.bitLen z : Nat) : Int) + 1 = 32 * (k : Int) + ((Lib.bitLen y - Lib.bitLen (z / 2) : Nat) : Int) := by omega
    have HE := Hd e
    have hl2 : Lib.bitLen (z / 2) <= Lib.bitLen y := by omega
    have hlz : Lib.bitLen y - Lib.bitLen z <= 64 := by omega
    clear hs e h0
    generalize Lib.bitLen y - Lib.bitLen z = d at *
    go_wp2_with fail
    go_round
    case rel => exact ⟨z / 2, by go_num, by omega, hl2, by rw [HE.out]⟩
    case measure => simp [intOf]; omega

theorem ref_Bits_any (neg : Bool) (A : Option Addr) (c : Nat) (xs : List Nat) (w : World) (h : Zm w A c xs) (hl : xs.length <= 268435456) :
   Calls Tryz.prog 258 #[.agg #[.bool neg, .slice A xs.length c]] w fun e w' => e = .returned (.int .i64 (Xs xs)) /\ Below w.heap.size w w' := by
 rcases Nat.eq_zero_or_pos xs.length with h0 | h0
 . have e : (Xs xs : Int) = 0 := by simp [Xs, h0]
   rw [e, h0]
   clear h h0 hl e
   go_enter Tryz.func258, Tryz.ntmps258
   go_wp2
   go_ret
   exact ⟨rfl, by repeat (first | exact Below.refl _ _ | apply ZT | refine Below.alloc ?_ (by simp; try omega) _)⟩
 . obtain ⟨k, hk⟩ : ∃ k, xs.length = k + 1 := ⟨xs.length - 1, by omega⟩
   have e : (Xs xs : Int) = 32 * (k : Int) + (Lib.bitLen (xs[k]) : Nat) := by
    simp [Xs, hk, Y5 hk]
   rw [e]
   exact ref_Bits_more neg A c xs w h k hk hl
end Go.Proofs.YtdonecnhdkjniaaGreatDoor
