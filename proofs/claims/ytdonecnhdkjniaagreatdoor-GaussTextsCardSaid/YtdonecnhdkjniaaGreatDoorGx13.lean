/- Several texts in one: Z, NV, KeptAt, Quad, BitsVal. -/
import Derived.Test.YtdonecnhdkjniaaGreatDoorGx12
set_option maxRecDepth 100000
set_option maxHeartbeats 8000000
namespace Go.Proofs.YtdonecnhdkjniaaGreatDoor
open Go.RowKit
theorem eplus (x y z : Int) (A B : Option Addr) (c d : Nat) (w : World) (h : Zm w A c (Za x.natAbs)) (g : Zm w B d (Za y.natAbs)) (hx : lz x <= 500000000) (hy : lz y <= 500000000) (hz : z = x + y) :
  Calls Tryz.prog 238 #[.agg #[.bool (decide (x < 0)), .slice A (Za x.natAbs).length c], .agg #[.bool (decide (y < 0)), .slice B (Za y.natAbs).length d]] w (ZY w.heap.size w z) := by
 have := exact_Plus (decide (x < 0)) (decide (y < 0)) A B c d (Za x.natAbs) (Za y.natAbs) (ZB _) (ZB _) (by unfold lz at hx; omega) (by unfold lz at hy; omega) w h g
 rw [YV, YV, <- hz] at this
 exact this
theorem eminus (x y z : Int) (A B : Option Addr) (c d : Nat) (w : World) (h : Zm w A c (Za x.natAbs)) (g : Zm w B d (Za y.natAbs)) (hx : lz x <= 500000000) (hy : lz y <= 500000000) (hz : z = x - y) :
  Calls Tryz.prog 239 #[.agg #[.bool (decide (x < 0)), .slice A (Za x.natAbs).length c], .agg #[.bool (decide (y < 0)), .slice B (Za y.natAbs).length d]] w (ZY w.heap.size w z) := by
 have := exact_Minus (decide (x < 0)) (decide (y < 0)) A B c d (Za x.natAbs) (Za y.natAbs) (ZB _) (ZB _) (by unfold lz at hx; omega) (by unfold lz at hy; omega) w h g
 rw [YV, YV, <- hz] at this
 exact this
theorem etimes (x y z : Int) (A B : Option Addr) (c d : Nat) (w : World) (h : Zm w A c (Za x.natAbs)) (g : Zm w B d (Za y.natAbs)) (hx : lz x <= 500000000) (hy : lz y <= 500000000) (hz : z = x * y) :
  Calls Tryz.prog 237 #[.agg #[.bool (decide (x < 0)), .slice A (Za x.natAbs).length c], .agg #[.bool (decide (y < 0)), .slice B (Za y.natAbs).length d]] w (ZY w.heap.size w z) := by
 have := exact_Times (decide (x < 0)) (decide (y < 0)) A B c d (Za x.natAbs) (Za y.natAbs) (by unfold lz at hx; omega) (by unfold lz at hy; omega) w h g
 rw [YV, YV, <- hz] at this
 exact this
theorem ecommon (x y z : Int) (A B : Option Addr) (c d : Nat) (w : World) (h : Zm w A c (Za x.natAbs)) (g : Zm w B d (Za y.natAbs)) (hx : lz x <= 500000000) (hy : lz y <= 500000000) (hz : z = ((Nat.gcd x.natAbs y.natAbs : Nat) : Int)) :
  Calls Tryz.prog 107 #[.agg #[.bool (decide (x < 0)), .slice A (Za x.natAbs).length c], .agg #[.bool (decide (y < 0)), .slice B (Za y.natAbs).length d]] w (ZY w.heap.size w z) := by
 have := exact_Common (decide (x < 0)) (decide (y < 0)) A B c d (Za x.natAbs) (Za y.natAbs) (by unfold lz at hx; omega) (by unfold lz at hy; omega) w h g
 rw [Zi, Zi, <- hz] at this
 exact this
theorem ecmp (x y k : Int) (A B : Option Addr) (c d : Nat) (w : World) (h : Zm w A c (Za x.natAbs)) (g : Zm w B d (Za y.natAbs)) (hx : lz x <= 500000000) (hy : lz y <= 500000000) (hk : k = Jt x y) :
   Calls Tryz.prog 94 #[.agg #[.bool (decide (x < 0)), .slice A (Za x.natAbs).length c], .agg #[.bool (decide (y < 0)), .slice B (Za y.natAbs).length d]] w fun e w' => e = .returned (.int .i64 k) /\ Below w.heap.size w w' := by
 have s1 := sgn_z x
 have s2 := sgn_z y
 unfold lz at hx hy
 rcases Int.lt_trichotomy x.sign y.sign with hl | hl | hl
 . have := exact_Cmp_less (decide (x < 0)) (decide (y < 0)) A B c d (Za x.natAbs) (Za y.natAbs) _ _ hl s1 s2 w h g
   have e : k = -1 := by rw [hk]; exact cmpz_lt (sign_lt hl)
   rw [e]; exact this
 . have := exact_Cmp_same (decide (x < 0)) (decide (y < 0)) A B c d (Za x.natAbs) (Za y.natAbs) x.sign (sign_neg x) s1 (by rw [s2, hl]) (ZB _) (ZB _) (by omega) (by omega) w h g
   have e : (if decide (x < 0) = true then YE (val (Za y.natAbs)) (val (Za x.natAbs)) else YE (val (Za x.natAbs)) (val (Za y.natAbs))) = k := by
    rw [hk, Zi, Zi]
    exact (cmp_like hl).symm
   rw [e] at this
   exact this
 . have := exact_Cmp_more (decide (x < 0)) (decide (y < 0)) A B c d (Za x.natAbs) (Za y.natAbs) _ _ hl s1 s2 w h g
   have e : k = 1 := by rw [hk]; exact cmpz_gt (sign_lt hl)
   rw [e]; exact this
theorem esign (x k : Int) (A : Option Addr) (c : Nat) (w : World) (h : Zm w A c (Za x.natAbs)) (hk : k = x.sign) :
  Calls Tryz.prog 93 #[.agg #[.bool (decide (x < 0)), .slice A (Za x.natAbs).length c]] w fun e w' => e = .returned (.int .i64 k) /\ Below w.heap.size w w' := by
 have := YO (decide (x < 0)) A c _ w h
 rw [sgn_z, <- hk] at this
 exact this
theorem eof (n z : Int) (hz : z = n) (h1 : -9223372036854775808 <= n) (h2 : n <= 9223372036854775807) (w : World) : Calls Tryz.prog 95 #[.int .i64 n] w (ZY w.heap.size w z) := by
 rw [hz]; exact exact_Of n h1 h2 w

structure NV (w : World) (g : Nat) (z : Int) (A : Option Addr) (c : Nat) : Prop where
 pair : Zr w g 24 (.bool (decide (z < 0))) (.slice A (Za z.natAbs).length c)
 raw : Zm w A c (Za z.natAbs)
theorem NV.below {w w' : World} {g : Nat} {z : Int} {A : Option Addr} {c : Nat} (h : NV w g z A c) (hb : Below w.heap.size w w') : NV w' g z A c := ⟨h.pair.below hb, h.raw.below hb⟩
theorem NV.of {w w' : World} {g : Nat} {z : Int} {A : Option Addr} {c : Nat} (h : Zm w A c (Za z.natAbs)) (hb : Below w.heap.size w w') (p : Zr w' g 24 (.bool (decide (z < 0))) (.slice A (Za z.natAbs).length c)) : NV w' g z A c := ⟨p, h.below hb⟩
structure NR (w : World) (g : Nat) (n : Bool) (A : Option Addr) (c : Nat) (xs : List Nat) : Prop where
 pair : Zr w g 24 (.bool n) (.slice A xs.length c)
 raw : Zm w A c xs

theorem Zu.cells {B : Nat} {w w' : World} (k : Zu B [] w w') : ∀ p : Addr, p.block < w.heap.size -> w'.cell? p = w.cell? p := fun p hp => by
 rcases k.block p.block hp with e | ⟨-, T, hT, -⟩
 . unfold World.cell?; rw [e]
 . cases hT
theorem XS.keptNone {B : Nat} {w w' : World} {v : Value} {x : Int} (h : XS w v x) (k : Zu B [] w w') : XS w' v x := by
 obtain ⟨A, c, h1, h2⟩ := h.form
 exact ⟨A, c, h1, h2.limbs, h2.cap, h2.most, (h2.reads.keep k.cells).more k.size⟩

theorem Zc.rawAt {w : World} {base c : Nat} {A : Option Addr} {x : Int} (h : Zc w base (.agg #[.bool (decide (x < 0)), .slice A (Za x.natAbs).length c]) x) : Zm w A c (Za x.natAbs) := by
 obtain ⟨A', c', h1, h2⟩ := h.raw
 injection h1 with h1
 simp at h1
 obtain ⟨rfl, rfl⟩ := h1
 exact h2

structure Zz (w : World) (g : Nat) (a b c d : Value) : Prop where
 blk : ZJ w g 26 #[a, b, c, d]
theorem Zz.new (w : World) (a b c d : Value) : Zz (w.alloc (.cells #[a, b, c, d] 26)) w.heap.size a b c d := ⟨ZJ.new w _ _⟩
theorem Zz.alloc {w : World} {g : Nat} {a b c d : Value} (h : Zz w g a b c d) (o : Obj) : Zz (w.alloc o) g a b c d := ⟨h.blk.alloc o⟩
theorem Zz.below {w w' : World} {g : Nat} {a b c d : Value} (h : Zz w g a b c d) (hb : Below w.heap.size w w') : Zz w' g a b c d := ⟨h.blk.below hb h.blk.lt⟩
theorem Zz.facts {w : World} {g : Nat} {a b c d : Value} (h : Zz w g a b c d) : g < w.heap.size /\ w.cell? ⟨g, 0, none⟩ = some a /\ w.cell? ⟨g, 1, none⟩ = some b /\ w.cell? ⟨g, 2, none⟩ = some c /\ w.cell? ⟨g, 3, none⟩ = some d /\
  w.frozen? ⟨g, 0, none⟩ = false /\ w.frozen? ⟨g, 1, none⟩ = false /\ w.frozen? ⟨g, 2, none⟩ = false /\ w.frozen? ⟨g, 3, none⟩ = false :=
 ⟨h.blk.lt, h.blk.cell 0, h.blk.cell 1, h.blk.cell 2, h.blk.cell 3, h.blk.frozen 0, h.blk.frozen 1, h.blk.frozen 2, h.blk.frozen 3⟩
theorem Zz.store {w : World} {g : Nat} {a b c d : Value} (h : Zz w g a b c d) (x y z u : Value) : Zz ((((w.setCell ⟨g, 0, none⟩ x).setCell ⟨g, 1, none⟩ y).setCell ⟨g, 2, none⟩ z).setCell ⟨g, 3, none⟩ u) g x y z u := ⟨h.blk.store4 rfl x y z u⟩
theorem ZJ.mem {w : World} {g : Nat} {t : TypeId} {cs : Array Value} (h : ZJ w g t cs) {a : Addr} {v : Value} (hc : w.cell? a = some v) (e : a.block = g) : v ∈ cs := by
 subst e
 unfold ZJ at h
 unfold World.cell? at hc
 rw [h] at hc
 simp only at hc
 split at hc
 . cases hc
 . exact Array.mem_of_getElem? hc
theorem Zm.keepFar {w w' : World} {A : Option Addr} {c g : Nat} {xs : List Nat} (h : Zm w A c xs) (hs : w.heap.size <= w'.heap.size) (hg : ∀ b, b ≠ g -> w'.heap[b]? = w.heap[b]?) (hno : ∀ a k n, w.cell? a = some (.int k n) -> a.block ≠ g) : Zm w' A c xs := by
 refine ⟨h.limbs, h.cap, h.most, h.reads.1, fun h0 => ?_⟩
 obtain ⟨ad, e, hb, hc⟩ := h.reads.2 h0
 refine ⟨ad, e, Nat.lt_of_lt_of_le hb hs, fun j u hu => ?_⟩
 have h1 := hc j u hu
 have h2 : (ad.add j).block ≠ g := by
  have hj : j < xs.length := by
   have := (List.getElem?_eq_some_iff.1 hu).1
   rwa [ZI] at this
  rw [YY hj] at hu
  rw [<- hu] at h1
  exact hno _ _ _ h1
 unfold World.cell? at h1 ⊢
 rw [hg _ h2]
 exact h1
theorem Zm.pairT {w : World} {A : Option Addr} {c g : Nat} {xs : List Nat} (h : Zm w A c xs) {t : TypeId} {b1 : Bool} {A1 : Option Addr} {n1 c1 : Nat} (q : Zr w g t (.bool b1) (.slice A1 n1 c1)) (x y : Value) :
   Zm ((w.setCell ⟨g, 0, none⟩ x).setCell ⟨g, 1, none⟩ y) A c xs := by
 refine h.keepFar (g := g) (by simp [World.setCell]) (fun b hb => ?_) (fun a k n hc e => ?_)
 . rw [Below.heap_setCell _ ⟨g, 1, none⟩ y b hb, Below.heap_setCell _ ⟨g, 0, none⟩ x b hb]
 . have := q.blk.mem hc e
   simp at this
structure FV (w : World) (g : Nat) (n d : Int) (A : Option Addr) (c : Nat) (B : Option Addr) (e : Nat) : Prop where
 quad : Zz w g (.bool (decide (n < 0))) (.slice A (Za n.natAbs).length c) (.bool (decide (d < 0))) (.slice B (Za d.natAbs).length e)
 num : Zm w A c (Za n.natAbs)
 den : Zm w B e (Za d.natAbs)
theorem FV.below {w w' : World} {g : Nat} {n d : Int} {A : Option Addr} {c : Nat} {B : Option Addr} {e : Nat} (h : FV w g n d A c B e) (hb : Below w.heap.size w w') : FV w' g n d A c B e := ⟨h.quad.below hb, h.num.below hb, h.den.below hb⟩
structure Yq (w : World) (v : Value) (n d : Int) : Prop where
 form : ∃ A c B e, v = .agg #[.bool (decide (n < 0)), .slice A (Za n.natAbs).length c, .bool (decide (d < 0)), .slice B (Za d.natAbs).length e] /\ Zm w A c (Za n.natAbs) /\ Zm w B e (Za d.natAbs)
theorem Yq.below {w w' : World} {v : Value} {n d : Int} (h : Yq w v n d) (hb : Below w.heap.size w w') : Yq w' v n d := by
 obtain ⟨A, c, B, e, h1, h2, h3⟩ := h.form
 exact ⟨A, c, B, e, h1, h2.below hb, h3.below hb⟩
def RetFrac (w : World) (n d : Int) (e : Ending) (w' : World) : Prop := ∃ v, e = .returned v /\ Yq w' v n d /\ Below w.heap.size w w'
structure Zl (w : World) (base : Nat) (v : Value) (n d : Int) : Prop where
 form : ∃ A c B e, v = .agg #[.bool (decide (n < 0)), .slice A (Za n.natAbs).length c, .bool (decide (d < 0)), .slice B (Za d.natAbs).length e] /\ Zc w base (.agg #[.bool (decide (n < 0)), .slice A (Za n.natAbs).length c]) n /\ Zc w base (.agg #[.bool (decide (d < 0)), .slice B (Za d.natAbs).length e]) d /\ ∀ g, (Value.slice A (Za n.natAbs).length c).ownBlock = some g -> (Value.slice B (Za d.natAbs).length e).ownBlock ≠ some g
def Z3 (base : Nat) (w : World) (n d : Int) (e : Ending) (w' : World) : Prop := ∃ v, e = .returned v /\ Zl w' base v n d /\ Below w.heap.size w w'
def RetFracOwn2 (base : Nat) (w : World) (n d k : Int) (e : Ending) (w' : World) : Prop := ∃ v, e = .returned (.tuple #[v, .int .i64 k]) /\ Zl w' base v n d /\ Below w.heap.size w w'

def ZL (n d : Int) : Int := ((Nat.gcd n.natAbs d.natAbs : Nat) : Int)
def YX (n d : Int) : Int := if d < 0 then -(n.tdiv (ZL n d)) else n.tdiv (ZL n d)
def YP (n d : Int) : Int := if d < 0 then -(d.tdiv (ZL n d)) else d.tdiv (ZL n d)
theorem Km {n d : Int} (h : d ≠ 0) : 0 < ZL n d := by
 unfold ZL
 have := Nat.gcd_pos_of_pos_right n.natAbs (show 0 < d.natAbs by omega)
 omega
theorem gcdZ_lz {n d : Int} (h : d ≠ 0) : lz (ZL n d) <= lz d := lz_mono (by
 unfold ZL
 rw [Int.natAbs_natCast]
 exact Nat.gcd_le_right _ (by omega))
theorem JV (n g : Int) : lz (n.tdiv g) <= lz n := lz_mono (by rw [Int.natAbs_tdiv]; exact Nat.div_le_self _ _)
theorem tdiv_sign {n d : Int} (h : d ≠ 0) : (d.tdiv (ZL n d)).sign = d.sign := by
 have hp := Km (n := n) h
 have hd : ZL n d ∣ d := by
  unfold ZL
  exact Int.natAbs_dvd_natAbs.1 (by rw [Int.natAbs_natCast]; exact Nat.gcd_dvd_right _ _)
 obtain ⟨k, hk⟩ := hd
 have e : d.tdiv (ZL n d) = k := by
  conv => lhs; arg 1; rw [hk]
  exact Int.mul_tdiv_cancel_left _ (by omega)
 rw [e]
 conv => rhs; rw [hk]
 rw [Int.sign_mul, Int.sign_eq_one_of_pos hp, Int.one_mul]

theorem bits_val {n : Nat} (hn : 0 < n) : 1 <= Xs (Za n) /\ 2 ^ (Xs (Za n) - 1) <= n /\ n < 2 ^ Xs (Za n) := by
 have hl := Yt n
 have hc := ZB n
 have hne : Za n ≠ [] := fun e => by have := Ym.1 e; omega
 obtain ⟨ini, t, e⟩ : ∃ ini t, Za n = ini ++ [t] := ⟨(Za n).dropLast, (Za n).getLast hne, (List.dropLast_concat_getLast hne).symm⟩
 have hv := Zi n
 rw [e] at hl hc hv
 have ht0 : t ≠ 0 := hc t (by simp)
 have ht := (Yh.1 hl).2 t (by simp)
 obtain ⟨h1, h2, h3, h4⟩ := bitLen32 t ht ht0
 have hb : Xs (Za n) = 32 * ini.length + Lib.bitLen t := by
   unfold Xs
   rw [e, if_neg (by simp)]
   simp
 rw [YK] at hv
 have hs : val [t] = t := by simp [val]
 rw [hs] at hv
 have hlow := Y7 (Yh.1 hl).1
 rw [hb]
 rw [show (4294967296 : Nat) = 2 ^ 32 by decide, <- Nat.pow_mul] at hv hlow
 generalize hp : 32 * ini.length = p at *
 generalize hl' : Lib.bitLen t = l at *
 have e1 : 2 ^ (p + l) = 2 ^ p * 2 ^ l := Nat.pow_add _ _ _
 have e2 : 2 ^ l = 2 * 2 ^ (l - 1) := by rw [<- Nat.pow_succ']; congr 1; omega
 have e3 : 2 ^ (p + l - 1) = 2 ^ p * 2 ^ (l - 1) := by rw [<- Nat.pow_add]; congr 1; omega
 refine ⟨by omega, ?_, ?_⟩
 . rw [e3]
   have : 2 ^ p * 2 ^ (l - 1) <= 2 ^ p * t := Nat.mul_le_mul_left _ (by omega)
   omega
 . rw [e1]
   have : 2 ^ p * (t + 1) <= 2 ^ p * 2 ^ l := Nat.mul_le_mul_left _ h4
   rw [Nat.mul_add, Nat.mul_one] at this
   omega
end Go.Proofs.YtdonecnhdkjniaaGreatDoor
