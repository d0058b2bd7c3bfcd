/- Several texts in one: Shl, Less. -/
import Derived.Test.YtbdliabfdplohaaDoorBt13
set_option maxRecDepth 100000
set_option maxHeartbeats 8000000
/- Limbs times 2^n: exact.up. -/
namespace Go.Proofs.YtbdliabfdplohaaDoor
open Go.RowKit

/- Limbs less q times others, from a place on, in place: exact.less. -/

theorem set_mid (pre ps post : List Nat) (k d : Nat) (hk : k < ps.length) : (pre ++ ps ++ post).set (pre.length + k) d = pre ++ ps.set k d ++ post := by
  rw [List.append_assoc, List.set_append_right _ _ (by omega), Nat.add_sub_cancel_left, List.set_append_left _ _ hk, List.append_assoc]
theorem Row.mid_set {w : World} {g : Nat} {pre ps post : List Nat} (h : Row w g (pre ++ ps ++ post)) {k : Nat} (hk : k < ps.length) (d : Nat) : Row (w.setCell ⟨g, pre.length + k, none⟩ (.int .u32 (d : Int))) g (pre ++ ps.set k d ++ post) := by
  have := h.set (pre.length + k) d
  rwa [set_mid _ _ _ _ _ hk] at this
theorem Row.stays {w w' : World} {g : Nat} {zs : List Nat} {row : Option Nat} (h : Row w g zs) (hg : w.grownBy w' row) (hn : some g ≠ row) : Row w' g zs := ⟨h.blk.stays hg hn⟩
theorem drop_set_next {a b : List Nat} {k d : Nat} (h : a.drop k = b.drop k) : (a.set k d).drop (k + 1) = b.drop (k + 1) := by
  rw [List.drop_set_of_lt (by omega)]
  have := congrArg (List.drop 1) h
  simpa [List.drop_drop, Nat.add_comm] using this

structure Lessed (w0 wr : World) (g : Nat) (pre ps post ds : List Nat) (q k b : Nat) (ps' : List Nat) : Prop where
  len : ps'.length = ps.length
  limbs : Limbs ps'
  row : Row wr g (pre ++ ps' ++ post)
  low : w0.grownBy wr (some g)
  rest : ps'.drop k = ps.drop k
  done : val (ps'.take k) + q * val (ds.take k) = val (ps.take k) + 4294967296 ^ k * b
theorem less_val {P a qd c b q v x d s nn : Nat} (h : a + qd = c + P * b) (hs : s = b + q * v) (hd : d + s % 4294967296 = x + 4294967296 * nn) :
    a + P * d + (qd + q * (P * v)) = c + P * x + P * 4294967296 * (s / 4294967296 + nn) := by
  have e := Nat.div_add_mod s 4294967296
  have e2 : d + s = x + 4294967296 * (s / 4294967296 + nn) := by omega
  have e3 : P * (d + s) = P * (x + 4294967296 * (s / 4294967296 + nn)) := by rw [e2]
  rw [hs, Nat.mul_add, Nat.mul_add, Nat.mul_add, ← Nat.mul_assoc P 4294967296] at e3
  rw [← hs] at e3
  have e4 : q * (P * v) = P * (q * v) := by rw [Nat.mul_left_comm]
  rw [e4]
  omega
theorem Lessed.step {w0 wr : World} {g : Nat} {pre ps post ds ps' : List Nat} {q k b : Nat} (h : Lessed w0 wr g pre ps post ds q k b ps') (hk : k < ps.length) (hkd : k < ds.length) (s d nn : Nat) (hs : s = b + q * ds[k]) (hdl : d < 4294967296) (hd : d + s % 4294967296 = ps[k] + 4294967296 * nn) :
    Lessed w0 (wr.setCell ⟨g, pre.length + k, none⟩ (.int .u32 (d : Int))) g pre ps post ds q (k + 1) (s / 4294967296 + nn) (ps'.set k d) := by
  have hk2 : k < ps'.length := by rw [h.len]; exact hk
  refine ⟨by simp [h.len], limbs_set h.limbs hdl, h.row.mid_set hk2 d, grown_set h.low _ _, drop_set_next h.rest, ?_⟩
  rw [set_take_more hk2, val_snoc, List.length_take, Nat.min_eq_left (by omega), val_take_more hkd, val_take_more hk, Nat.mul_add q, Nat.pow_succ]
  exact less_val h.done hs hd

end Go.Proofs.YtbdliabfdplohaaDoor
