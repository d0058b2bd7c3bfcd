/- Several texts in one: Z, NV, KeptAt, Quad, BitsVal. -/
import Derived.Test.YtdonecnhdkjniaaGreatDoorGy12
set_option maxRecDepth 100000
set_option maxHeartbeats 8000000
namespace Go.Proofs.YtdonecnhdkjniaaGreatDoor
open Go.RowKit
theorem eplus (x y z : Int) (A B : Option Addr) (c d : Nat) (w : World) (h : Zr w A c (Za x.natAbs)) (g : Zr w B d (Za y.natAbs)) (hx : lz x <= 500000000) (hy : lz y <= 500000000) (hz : z = x + y) :
  Calls Tryz.prog 238 #[.agg #[.bool (decide (x < 0)), .slice A (Za x.natAbs).length c], .agg #[.bool (decide (y < 0)), .slice B (Za y.natAbs).length d]] w (Z1 w.heap.size w z) := by
 have := exact_Plus (decide (x < 0)) (decide (y < 0)) A B c d (Za x.natAbs) (Za y.natAbs) (Z6 _) (Z6 _) (by unfold lz at hx; omega) (by unfold lz at hy; omega) w h g
 rw [YN, YN, <- hz] at this
 exact this
theorem eminus (x y z : Int) (A B : Option Addr) (c d : Nat) (w : World) (h : Zr w A c (Za x.natAbs)) (g : Zr w B d (Za y.natAbs)) (hx : lz x <= 500000000) (hy : lz y <= 500000000) (hz : z = x - y) :
  Calls Tryz.prog 239 #[.agg #[.bool (decide (x < 0)), .slice A (Za x.natAbs).length c], .agg #[.bool (decide (y < 0)), .slice B (Za y.natAbs).length d]] w (Z1 w.heap.size w z) := by
 have := exact_Minus (decide (x < 0)) (decide (y < 0)) A B c d (Za x.natAbs) (Za y.natAbs) (Z6 _) (Z6 _) (by unfold lz at hx; omega) (by unfold lz at hy; omega) w h g
 rw [YN, YN, <- hz] at this
 exact this
theorem etimes (x y z : Int) (A B : Option Addr) (c d : Nat) (w : World) (h : Zr w A c (Za x.natAbs)) (g : Zr w B d (Za y.natAbs)) (hx : lz x <= 500000000) (hy : lz y <= 500000000) (hz : z = x * y) :
  Calls Tryz.prog 237 #[.agg #[.bool (decide (x < 0)), .slice A (Za x.natAbs).length c], .agg #[.bool (decide (y < 0)), .slice B (Za y.natAbs).length d]] w (Z1 w.heap.size w z) := by
 have := exact_Times (decide (x < 0)) (decide (y < 0)) A B c d (Za x.natAbs) (Za y.natAbs) (by unfold lz at hx; omega) (by unfold lz at hy; omega) w h g
 rw [YN, YN, <- hz] at this
 exact this
theorem edivide (x y q r : Int) (A B : Option Addr) (c d : Nat) (w : World) (h : Zr w A c (Za x.natAbs)) (g : Zr w B d (Za y.natAbs)) (hx : lz x <= 500000000) (hy : lz y <= 500000000) (hy0 : y ≠ 0) (hq : q = x.tdiv y) (hr : r = x.tmod y) :
  Calls Tryz.prog 181 #[.agg #[.bool (decide (x < 0)), .slice A (Za x.natAbs).length c], .agg #[.bool (decide (y < 0)), .slice B (Za y.natAbs).length d]] w (RetTwo w.heap.size w q r) := by
 have h0 : Za y.natAbs ≠ [] := fun e => by
  have := YL.1 e
  omega
 have := exact_Divide (decide (x < 0)) (decide (y < 0)) A B c d (Za x.natAbs) (Za y.natAbs) (Z6 _) (Z6 _) h0 (by unfold lz at hx; omega) (by unfold lz at hy; omega) w h g
 rw [YN, YN, <- hq, <- hr] at this
 exact this
theorem XI (x y z : Int) (A B : Option Addr) (c d : Nat) (w : World) (h : Zr w A c (Za x.natAbs)) (g : Zr w B d (Za y.natAbs)) (hx : lz x <= 500000000) (hy : lz y <= 500000000) (hz : z = ((Nat.gcd x.natAbs y.natAbs : Nat) : Int)) :
  Calls Tryz.prog 107 #[.agg #[.bool (decide (x < 0)), .slice A (Za x.natAbs).length c], .agg #[.bool (decide (y < 0)), .slice B (Za y.natAbs).length d]] w (Z1 w.heap.size w z) := by
 have := exact_Common (decide (x < 0)) (decide (y < 0)) A B c d (Za x.natAbs) (Za y.natAbs) (by unfold lz at hx; omega) (by unfold lz at hy; omega) w h g
 rw [Z3, Z3, <- hz] at this
 exact this
theorem ecmp (x y k : Int) (A B : Option Addr) (c d : Nat) (w : World) (h : Zr w A c (Za x.natAbs)) (g : Zr w B d (Za y.natAbs)) (hx : lz x <= 500000000) (hy : lz y <= 500000000) (hk : k = Xw x y) :
   Calls Tryz.prog 94 #[.agg #[.bool (decide (x < 0)), .slice A (Za x.natAbs).length c], .agg #[.bool (decide (y < 0)), .slice B (Za y.natAbs).length d]] w fun e w' => e = .returned (.int .i64 k) /\ Below w.heap.size w w' := by
 have s1 := sgn_z x
 have s2 := sgn_z y
 unfold lz at hx hy
 rcases Int.lt_trichotomy x.sign y.sign with hl | hl | hl
 . have := exact_Cmp_less (decide (x < 0)) (decide (y < 0)) A B c d (Za x.natAbs) (Za y.natAbs) _ _ hl s1 s2 w h g
   have e : k = -1 := by rw [hk]; exact cmpz_lt (sign_lt hl)
   rw [e]; exact this
 . have := exact_Cmp_same (decide (x < 0)) (decide (y < 0)) A B c d (Za x.natAbs) (Za y.natAbs) x.sign (sign_neg x) s1 (by rw [s2, hl]) (Z6 _) (Z6 _) (by omega) (by omega) w h g
   have e : (if decide (x < 0) = true then Y1 (val (Za y.natAbs)) (val (Za x.natAbs)) else Y1 (val (Za x.natAbs)) (val (Za y.natAbs))) = k := by
    rw [hk, Z3, Z3]
    exact (cmp_like hl).symm
   rw [e] at this
   exact this
 . have := exact_Cmp_more (decide (x < 0)) (decide (y < 0)) A B c d (Za x.natAbs) (Za y.natAbs) _ _ hl s1 s2 w h g
   have e : k = 1 := by rw [hk]; exact cmpz_gt (sign_lt hl)
   rw [e]; exact this
theorem Jp (x k : Int) (A : Option Addr) (c : Nat) (w : World) (h : Zr w A c (Za x.natAbs)) (hk : k = x.sign) :
  Calls Tryz.prog 93 #[.agg #[.bool (decide (x < 0)), .slice A (Za x.natAbs).length c]] w fun e w' => e = .returned (.int .i64 k) /\ Below w.heap.size w w' := by
 have := Ym (decide (x < 0)) A c _ w h
 rw [sgn_z, <- hk] at this
 exact this
theorem eof (n z : Int) (hz : z = n) (h1 : -9223372036854775808 <= n) (h2 : n <= 9223372036854775807) (w : World) : Calls Tryz.prog 95 #[.int .i64 n] w (Z1 w.heap.size w z) := by
 rw [hz]; exact exact_Of n h1 h2 w

structure NV (w : World) (g : Nat) (z : Int) (A : Option Addr) (c : Nat) : Prop where
 pair : Zp w g 24 (.bool (decide (z < 0))) (.slice A (Za z.natAbs).length c)
 raw : Zr w A c (Za z.natAbs)
theorem NV.below {w w' : World} {g : Nat} {z : Int} {A : Option Addr} {c : Nat} (h : NV w g z A c) (hb : Below w.heap.size w w') : NV w' g z A c := ⟨h.pair.below hb, h.raw.below hb⟩
theorem NV.of {w w' : World} {g : Nat} {z : Int} {A : Option Addr} {c : Nat} (h : Zr w A c (Za z.natAbs)) (hb : Below w.heap.size w w') (p : Zp w' g 24 (.bool (decide (z < 0))) (.slice A (Za z.natAbs).length c)) : NV w' g z A c := ⟨p, h.below hb⟩
structure NR (w : World) (g : Nat) (n : Bool) (A : Option Addr) (c : Nat) (xs : List Nat) : Prop where
 pair : Zp w g 24 (.bool n) (.slice A xs.length c)
 raw : Zr w A c xs

theorem Zq.cells {B : Nat} {w w' : World} (k : Zq B [] w w') : ∀ p : Addr, p.block < w.heap.size -> w'.cell? p = w.cell? p := fun p hp => by
 rcases k.block p.block hp with e | ⟨-, T, hT, -⟩
 . unfold World.cell?; rw [e]
 . cases hT
theorem YQ.keptNone {B : Nat} {w w' : World} {v : Value} {x : Int} (h : YQ w v x) (k : Zq B [] w w') : YQ w' v x := by
 obtain ⟨A, c, h1, h2⟩ := h.form
 exact ⟨A, c, h1, h2.limbs, h2.cap, h2.most, (h2.reads.keep k.cells).more k.size⟩

theorem Zc.rawAt {w : World} {base c : Nat} {A : Option Addr} {x : Int} (h : Zc w base (.agg #[.bool (decide (x < 0)), .slice A (Za x.natAbs).length c]) x) : Zr w A c (Za x.natAbs) := by
 obtain ⟨A', c', h1, h2⟩ := h.raw
 injection h1 with h1
 simp at h1
 obtain ⟨rfl, rfl⟩ := h1
 exact h2
theorem Zc.pairT {w : World} {base g : Nat} {v a b : Value} {x : Int} (h : Zc w base v x) (p : Zp w g 24 a b) (y z : Value) : Zc ((w.setCell ⟨g, 0, none⟩ y).setCell ⟨g, 1, none⟩ z) base v x := by
 obtain ⟨A, c, h1, h2, h3, h4⟩ := h.form
 exact ⟨A, c, h1, h2, h3, own_pair h4 (Xf h4 p.blk (by decide))⟩

structure Zw (w : World) (g : Nat) (a b c d : Value) : Prop where
 blk : Z2 w g 26 #[a, b, c, d]
theorem Zw.new (w : World) (a b c d : Value) : Zw (w.alloc (.cells #[a, b, c, d] 26)) w.heap.size a b c d := ⟨Z2.new w _ _⟩
theorem Zw.alloc {w : World} {g : Nat} {a b c d : Value} (h : Zw w g a b c d) (o : Obj) : Zw (w.alloc o) g a b c d := ⟨h.blk.alloc o⟩
theorem Zw.below {w w' : World} {g : Nat} {a b c d : Value} (h : Zw w g a b c d) (hb : Below w.heap.size w w') : Zw w' g a b c d := ⟨h.blk.below hb h.blk.lt⟩
theorem Zw.facts {w : World} {g : Nat} {a b c d : Value} (h : Zw w g a b c d) : g < w.heap.size /\ w.cell? ⟨g, 0, none⟩ = some a /\ w.cell? ⟨g, 1, none⟩ = some b /\ w.cell? ⟨g, 2, none⟩ = some c /\ w.cell? ⟨g, 3, none⟩ = some d /\
  w.frozen? ⟨g, 0, none⟩ = false /\ w.frozen? ⟨g, 1, none⟩ = false /\ w.frozen? ⟨g, 2, none⟩ = false /\ w.frozen? ⟨g, 3, none⟩ = false :=
 ⟨h.blk.lt, h.blk.cell 0, h.blk.cell 1, h.blk.cell 2, h.blk.cell 3, h.blk.frozen 0, h.blk.frozen 1, h.blk.frozen 2, h.blk.frozen 3⟩
theorem Zw.store {w : World} {g : Nat} {a b c d : Value} (h : Zw w g a b c d) (x y z u : Value) : Zw ((((w.setCell ⟨g, 0, none⟩ x).setCell ⟨g, 1, none⟩ y).setCell ⟨g, 2, none⟩ z).setCell ⟨g, 3, none⟩ u) g x y z u := ⟨h.blk.store4 rfl x y z u⟩
structure FV (w : World) (g : Nat) (n d : Int) (A : Option Addr) (c : Nat) (B : Option Addr) (e : Nat) : Prop where
 quad : Zw w g (.bool (decide (n < 0))) (.slice A (Za n.natAbs).length c) (.bool (decide (d < 0))) (.slice B (Za d.natAbs).length e)
 num : Zr w A c (Za n.natAbs)
 den : Zr w B e (Za d.natAbs)
theorem FV.below {w w' : World} {g : Nat} {n d : Int} {A : Option Addr} {c : Nat} {B : Option Addr} {e : Nat} (h : FV w g n d A c B e) (hb : Below w.heap.size w w') : FV w' g n d A c B e := ⟨h.quad.below hb, h.num.below hb, h.den.below hb⟩
structure ZV (w : World) (v : Value) (n d : Int) : Prop where
 form : ∃ A c B e, v = .agg #[.bool (decide (n < 0)), .slice A (Za n.natAbs).length c, .bool (decide (d < 0)), .slice B (Za d.natAbs).length e] /\ Zr w A c (Za n.natAbs) /\ Zr w B e (Za d.natAbs)
theorem ZV.below {w w' : World} {v : Value} {n d : Int} (h : ZV w v n d) (hb : Below w.heap.size w w') : ZV w' v n d := by
 obtain ⟨A, c, B, e, h1, h2, h3⟩ := h.form
 exact ⟨A, c, B, e, h1, h2.below hb, h3.below hb⟩
def RetFrac (w : World) (n d : Int) (e : Ending) (w' : World) : Prop := ∃ v, e = .returned v /\ ZV w' v n d /\ Below w.heap.size w w'
structure Ze (w : World) (base : Nat) (v : Value) (n d : Int) : Prop where
 form : ∃ A c B e, v = .agg #[.bool (decide (n < 0)), .slice A (Za n.natAbs).length c, .bool (decide (d < 0)), .slice B (Za d.natAbs).length e] /\ Zc w base (.agg #[.bool (decide (n < 0)), .slice A (Za n.natAbs).length c]) n /\ Zc w base (.agg #[.bool (decide (d < 0)), .slice B (Za d.natAbs).length e]) d /\ ∀ g, (Value.slice A (Za n.natAbs).length c).ownBlock = some g -> (Value.slice B (Za d.natAbs).length e).ownBlock ≠ some g
def ZE (base : Nat) (w : World) (n d : Int) (e : Ending) (w' : World) : Prop := ∃ v, e = .returned v /\ Ze w' base v n d /\ Below w.heap.size w w'
def RetFracOwn2 (base : Nat) (w : World) (n d k : Int) (e : Ending) (w' : World) : Prop := ∃ v, e = .returned (.tuple #[v, .int .i64 k]) /\ Ze w' base v n d /\ Below w.heap.size w w'

def ZK (n d : Int) : Int := ((Nat.gcd n.natAbs d.natAbs : Nat) : Int)
def Yx (n d : Int) : Int := if d < 0 then -(n.tdiv (ZK n d)) else n.tdiv (ZK n d)
def Yt (n d : Int) : Int := if d < 0 then -(d.tdiv (ZK n d)) else d.tdiv (ZK n d)
theorem YX {n d : Int} (h : d ≠ 0) : 0 < ZK n d := by
 unfold ZK
 have := Nat.gcd_pos_of_pos_right n.natAbs (show 0 < d.natAbs by omega)
 omega
theorem XH {n d : Int} (h : d ≠ 0) : lz (ZK n d) <= lz d := lz_mono (by
 unfold ZK
 rw [Int.natAbs_natCast]
 exact Nat.gcd_le_right _ (by omega))
theorem YY (n g : Int) : lz (n.tdiv g) <= lz n := lz_mono (by rw [Int.natAbs_tdiv]; exact Nat.div_le_self _ _)
theorem tdiv_sign {n d : Int} (h : d ≠ 0) : (d.tdiv (ZK n d)).sign = d.sign := by
 have hp := YX (n := n) h
 have hd : ZK n d ∣ d := by
  unfold ZK
  exact Int.natAbs_dvd_natAbs.1 (by rw [Int.natAbs_natCast]; exact Nat.gcd_dvd_right _ _)
 obtain ⟨k, hk⟩ := hd
 have e : d.tdiv (ZK n d) = k := by
  conv => lhs; arg 1; rw [hk]
  exact Int.mul_tdiv_cancel_left _ (by omega)
 rw [e]
 conv => rhs; rw [hk]
 rw [Int.sign_mul, Int.sign_eq_one_of_pos hp, Int.one_mul]

end Go.Proofs.YtdonecnhdkjniaaGreatDoor
