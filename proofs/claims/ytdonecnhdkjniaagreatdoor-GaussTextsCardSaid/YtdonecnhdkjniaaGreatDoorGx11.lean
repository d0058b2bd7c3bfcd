/- Several texts in one: DivOps, Lz, Ints0, ZR, Append. -/
import Derived.Test.YtdonecnhdkjniaaGreatDoorGx10
set_option maxRecDepth 100000
set_option maxHeartbeats 8000000
namespace Go.Proofs.YtdonecnhdkjniaaGreatDoor
open Go.RowKit

def RetTwo3 (base : Nat) (w : World) (z1 z2 k : Int) (e : Ending) (w' : World) : Prop := ∃ v1 v2, e = .returned (.tuple #[v1, v2, .int .i64 k]) /\ J6 w' base v1 z1 v2 z2 /\ Below w.heap.size w w'
def RetBoth3 (base : Nat) (w : World) (z1 z2 k : Int) (e : Ending) (w' : World) : Prop := ∃ v1 v2, e = .returned (.tuple #[v1, v2, .int .i64 k]) /\ Zc w' base v1 z1 /\ Zc w' base v2 z2 /\ Below w.heap.size w w'
def RetAt2 (w : World) (z k : Int) (e : Ending) (w' : World) : Prop := ∃ v, e = .returned (.tuple #[v, .int .i64 k]) /\ XS w' v z /\ Below w.heap.size w w'
def quoV (n1 : Bool) (xs : List Nat) (n2 : Bool) (ys : List Nat) : Int := if okI n1 xs && okI n2 ys then (if ys.length = 0 then 0 else (Zv n1 xs).tdiv (Zv n2 ys)) else 0
def remV (n1 : Bool) (xs : List Nat) (n2 : Bool) (ys : List Nat) : Int := if okI n1 xs && okI n2 ys then (if ys.length = 0 then 0 else (Zv n1 xs).tmod (Zv n2 ys)) else 0
def quoE (n1 : Bool) (xs : List Nat) (n2 : Bool) (ys : List Nat) : Int := if okI n1 xs && okI n2 ys then (if ys.length = 0 then 3 else 0) else 1
def gcdV (n1 : Bool) (xs : List Nat) (n2 : Bool) (ys : List Nat) : Int := if okI n1 xs && okI n2 ys then ((Nat.gcd (val xs) (val ys) : Nat) : Int) else 0
def gcdE (n1 : Bool) (xs : List Nat) (n2 : Bool) (ys : List Nat) : Int := if okI n1 xs && okI n2 ys then 0 else 1

theorem ref_Common_left (n1 n2 : Bool) (A B : Option Addr) (c d : Nat) (xs ys : List Nat) (he : xs = []) (w : World) (h : Zm w A c xs) (g : Zm w B d ys) :
  Calls Tryz.prog 259 #[.agg #[.bool n1, .slice A xs.length c], .agg #[.bool n2, .slice B ys.length d]] w fun e w' => e = .returned (sv false B d ys) /\ Below w.heap.size w w' := by
 have hl1 : ((xs.length : Int) == 0) = true := by subst he; rfl
 have C1 := Hd (fun (V : World) (h : Zm V B d ys) => ref_signed_sv false B d ys V h)
 obtain ⟨b9, A9, k9, c9, hsv⟩ := sv_form false B d ys
 rw [hsv] at C1 ⊢
 clear he hsv
 have px := (((Zr.new w 24 (.bool n1) (.slice A xs.length c)).alloc (.cells #[.bool n2, .slice B ys.length d] 24)).alloc (.cells #[.bool false, .slice none 0 0] 24))
 have py := ((Zr.new (w.alloc (.cells #[.bool n1, .slice A xs.length c] 24)) 24 (.bool n2) (.slice B ys.length d)).alloc (.cells #[.bool false, .slice none 0 0] 24))
 have pq := (Zr.new ((w.alloc (.cells #[.bool n1, .slice A xs.length c] 24)).alloc (.cells #[.bool n2, .slice B ys.length d] 24)) 24 (.bool false) (.slice none 0 0))
 have rx := (((h.alloc (.cells #[.bool n1, .slice A xs.length c] 24)).alloc (.cells #[.bool n2, .slice B ys.length d] 24)).alloc (.cells #[.bool false, .slice none 0 0] 24))
 have ry := (((g.alloc (.cells #[.bool n1, .slice A xs.length c] 24)).alloc (.cells #[.bool n2, .slice B ys.length d] 24)).alloc (.cells #[.bool false, .slice none 0 0] 24))
 have b0 := (((Below.refl w.heap.size w).alloc (Nat.le_refl _) (.cells #[.bool n1, .slice A xs.length c] 24)).alloc (by simp) (.cells #[.bool n2, .slice B ys.length d] 24)).alloc (by simp; omega) (.cells #[.bool false, .slice none 0 0] 24)
 simp only [World.size_alloc] at py pq
 clear h g
 go_enter Tryz.func259, Tryz.ntmps259
 go_wp2_with fail
 obtain ⟨W, E⟩ : ∃ W, W = (((w.alloc (.cells #[.bool n1, .slice A xs.length c] 24)).alloc (.cells #[.bool n2, .slice B ys.length d] 24)).alloc (.cells #[.bool false, .slice none 0 0] 24)) := ⟨_, rfl⟩
 rw [<- E] at px py pq b0 rx ry ⊢
 have hsz : W.heap.size = w.heap.size + 3 := by rw [E]; simp
 clear E
 have PX := Hd px
 have PY := Hd py
 have PQ := Hd pq
 have B0 := Hd b0
 have RX := Hd rx
 have RY := Hd ry
 obtain ⟨l1, x0, x1, -, -⟩ := px.facts
 obtain ⟨l2, y0, y1, -, -⟩ := py.facts
 clear px py pq rx ry b0
 go_wp2_with fail
 refine (C1.out W RY.out).mono ?_
 rintro e w1 ⟨rfl, hb⟩
 have pq := PQ.out.below hb
 obtain ⟨l3, q0, q1, f0, f1⟩ := pq.facts
 have hq := pq.store (.bool b9) (.slice A9 k9 c9)
 have HB := Hd (ZW (Zb B0.out hb) (show w.heap.size <= w.heap.size + 1 + 1 by omega) (.bool b9) (.slice A9 k9 c9))
 have HQ := Hd hq
 clear pq hq hb C1 PX PY RX RY
 go_wp2_with fail
 obtain ⟨_, k0, k1, _, _⟩ := HQ.out.facts
 exact bodyPost_ret (by simp [results, Tryz.results259, go_sem, k0, k1]) rfl ⟨rfl, HB.out⟩

theorem ref_Common_right (n1 n2 : Bool) (A B : Option Addr) (c d : Nat) (xs ys : List Nat) (hne : xs ≠ []) (he : ys = []) (w : World) (h : Zm w A c xs) (g : Zm w B d ys) :
  Calls Tryz.prog 259 #[.agg #[.bool n1, .slice A xs.length c], .agg #[.bool n2, .slice B ys.length d]] w fun e w' => e = .returned (sv false A c xs) /\ Below w.heap.size w w' := by
 have hl1 : ((xs.length : Int) == 0) = false := by have : xs.length ≠ 0 := fun e => hne (List.eq_nil_of_length_eq_zero e); simp; omega
 have hl2 : ((ys.length : Int) == 0) = true := by subst he; rfl
 have C1 := Hd (fun (V : World) (h : Zm V A c xs) => ref_signed_sv false A c xs V h)
 obtain ⟨b9, A9, k9, c9, hsv⟩ := sv_form false A c xs
 rw [hsv] at C1 ⊢
 clear he hsv hne
 have px := (((Zr.new w 24 (.bool n1) (.slice A xs.length c)).alloc (.cells #[.bool n2, .slice B ys.length d] 24)).alloc (.cells #[.bool false, .slice none 0 0] 24))
 have py := ((Zr.new (w.alloc (.cells #[.bool n1, .slice A xs.length c] 24)) 24 (.bool n2) (.slice B ys.length d)).alloc (.cells #[.bool false, .slice none 0 0] 24))
 have pq := (Zr.new ((w.alloc (.cells #[.bool n1, .slice A xs.length c] 24)).alloc (.cells #[.bool n2, .slice B ys.length d] 24)) 24 (.bool false) (.slice none 0 0))
 have rx := (((h.alloc (.cells #[.bool n1, .slice A xs.length c] 24)).alloc (.cells #[.bool n2, .slice B ys.length d] 24)).alloc (.cells #[.bool false, .slice none 0 0] 24))
 have ry := (((g.alloc (.cells #[.bool n1, .slice A xs.length c] 24)).alloc (.cells #[.bool n2, .slice B ys.length d] 24)).alloc (.cells #[.bool false, .slice none 0 0] 24))
 have b0 := (((Below.refl w.heap.size w).alloc (Nat.le_refl _) (.cells #[.bool n1, .slice A xs.length c] 24)).alloc (by simp) (.cells #[.bool n2, .slice B ys.length d] 24)).alloc (by simp; omega) (.cells #[.bool false, .slice none 0 0] 24)
 simp only [World.size_alloc] at py pq
 clear h g
 go_enter Tryz.func259, Tryz.ntmps259
 go_wp2_with fail
 obtain ⟨W, E⟩ : ∃ W, W = (((w.alloc (.cells #[.bool n1, .slice A xs.length c] 24)).alloc (.cells #[.bool n2, .slice B ys.length d] 24)).alloc (.cells #[.bool false, .slice none 0 0] 24)) := ⟨_, rfl⟩
 rw [<- E] at px py pq b0 rx ry ⊢
 have hsz : W.heap.size = w.heap.size + 3 := by rw [E]; simp
 clear E
 have PX := Hd px
 have PY := Hd py
 have PQ := Hd pq
 have B0 := Hd b0
 have RX := Hd rx
 have RY := Hd ry
 obtain ⟨l1, x0, x1, -, -⟩ := px.facts
 obtain ⟨l2, y0, y1, -, -⟩ := py.facts
 clear px py pq rx ry b0
 go_wp2_with fail
 refine (C1.out W RX.out).mono ?_
 rintro e w1 ⟨rfl, hb⟩
 have pq := PQ.out.below hb
 obtain ⟨l3, q0, q1, f0, f1⟩ := pq.facts
 have hq := pq.store (.bool b9) (.slice A9 k9 c9)
 have HB := Hd (ZW (Zb B0.out hb) (show w.heap.size <= w.heap.size + 1 + 1 by omega) (.bool b9) (.slice A9 k9 c9))
 have HQ := Hd hq
 clear pq hq hb C1 PX PY RX RY
 go_wp2_with fail
 obtain ⟨_, k0, k1, _, _⟩ := HQ.out.facts
 exact bodyPost_ret (by simp [results, Tryz.results259, go_sem, k0, k1]) rfl ⟨rfl, HB.out⟩

def RetOf (A B : Option Addr) (c d : Nat) (xs ys : List Nat) (w : World) (z : Int) (e : Ending) (w' : World) : Prop := ∃ v, e = .returned v /\ (Zc w' w.heap.size v z ∨ (v = sv false A c xs /\ z = Zv false xs) ∨ (v = sv false B d ys /\ z = Zv false ys)) /\ Below w.heap.size w w'
theorem ref_Common (n1 n2 : Bool) (A B : Option Addr) (c d : Nat) (xs ys : List Nat) (hcx : ZU xs) (hcy : ZU ys) (hlx : xs.length <= 30000) (hly : ys.length <= 30000) (w : World) (h : Zm w A c xs) (g : Zm w B d ys) :
   Calls Tryz.prog 259 #[.agg #[.bool n1, .slice A xs.length c], .agg #[.bool n2, .slice B ys.length d]] w (RetOf A B c d xs ys w ((Nat.gcd (val xs) (val ys) : Nat) : Int)) := by
 by_cases hx : xs = []
 . refine (ref_Common_left n1 n2 A B c d xs ys hx w h g).mono ?_
   rintro e w' ⟨rfl, hb⟩
   exact ⟨_, rfl, .inr (.inr ⟨rfl, by subst hx; simp [val, Zv]⟩), hb⟩
 . by_cases hy : ys = []
   . refine (ref_Common_right n1 n2 A B c d xs ys hx hy w h g).mono ?_
     rintro e w' ⟨rfl, hb⟩
     exact ⟨_, rfl, .inr (.inl ⟨rfl, by subst hy; simp [val, Zv]⟩), hb⟩
   . refine (ref_Common_more n1 n2 A B c d xs ys hcx hcy hx hy hlx hly w h g).mono ?_
     rintro e w' ⟨v, rfl, hv, hb⟩
     exact ⟨v, rfl, .inl hv, hb⟩


def lz (z : Int) : Nat := (Za z.natAbs).length
theorem lz_le {z : Int} {k : Nat} : lz z <= k ↔ z.natAbs < 4294967296 ^ k := ZN
theorem lz_lt (z : Int) : z.natAbs < 4294967296 ^ lz z := lz_le.1 (Nat.le_refl _)
theorem lz_mono {x y : Int} (h : x.natAbs <= y.natAbs) : lz x <= lz y := lz_le.2 (Nat.lt_of_le_of_lt h (lz_lt y))
theorem lz_mul (x y : Int) : lz (x * y) <= lz x + lz y := by
 rw [lz_le, Int.natAbs_mul, Nat.pow_add]
 have h1 := lz_lt x
 have h2 := lz_lt y
 exact Nat.mul_lt_mul'' h1 h2
theorem lz_add (x y : Int) : lz (x + y) <= max (lz x) (lz y) + 1 := by
 rw [lz_le, Nat.pow_succ]
 have h1 : x.natAbs < 4294967296 ^ max (lz x) (lz y) := lz_le.1 (Nat.le_max_left _ _)
 have h2 : y.natAbs < 4294967296 ^ max (lz x) (lz y) := lz_le.1 (Nat.le_max_right _ _)
 have h3 := Int.natAbs_add_le x y
 generalize 4294967296 ^ max (lz x) (lz y) = p at *
 omega
theorem lz_neg (y : Int) : lz (-y) = lz y := by unfold lz; rw [Int.natAbs_neg]
theorem lz_sub (x y : Int) : lz (x - y) <= max (lz x) (lz y) + 1 := by
 have := lz_add x (-y)
 rw [lz_neg] at this
 exact this
theorem lz_small {z : Int} (h : z.natAbs < 18446744073709551616) : lz z <= 2 := lz_le.2 (by simpa using h)

theorem sgn_z (x : Int) : sgnI (decide (x < 0)) (Za x.natAbs) = x.sign := by
 unfold sgnI
 by_cases h0 : (Za x.natAbs).length = 0
 . rw [if_pos h0]
   have := Ym.1 (List.eq_nil_of_length_eq_zero h0)
   have : x = 0 := by omega
   subst this; rfl
 . rw [if_neg h0]
   have hn : x ≠ 0 := fun e => h0 (by rw [e]; decide)
   by_cases hl : x < 0
   . rw [if_pos (decide_eq_true hl), Int.sign_eq_neg_one_of_neg hl]
   . rw [if_neg (by simpa using hl), Int.sign_eq_one_of_pos (by omega)]
theorem XK (x : Int) : (x < 0 /\ x.sign = -1) ∨ (x = 0 /\ x.sign = 0) ∨ (0 < x /\ x.sign = 1) := by
 rcases Int.lt_trichotomy x 0 with h | h | h
 . exact .inl ⟨h, Int.sign_eq_neg_one_of_neg h⟩
 . exact .inr (.inl ⟨h, by rw [h]; rfl⟩)
 . exact .inr (.inr ⟨h, Int.sign_eq_one_of_pos h⟩)
theorem sign_lt {x y : Int} (h : x.sign < y.sign) : x < y := by
 have h1 := XK x
 have h2 := XK y
 omega
theorem sign_neg (x : Int) : x.sign = -1 /\ decide (x < 0) = true ∨ 0 <= x.sign /\ decide (x < 0) = false := by
 rcases XK x with ⟨h, e⟩ | ⟨h, e⟩ | ⟨h, e⟩
 . exact .inl ⟨e, decide_eq_true h⟩
 . exact .inr ⟨by omega, decide_eq_false (by omega)⟩
 . exact .inr ⟨by omega, decide_eq_false (by omega)⟩
theorem cmp_like {x y : Int} (h : x.sign = y.sign) : Jt x y = if decide (x < 0) = true then YE y.natAbs x.natAbs else YE x.natAbs y.natAbs := by
 have h1 := XK x
 have h2 := XK y
 unfold Jt YE
 by_cases hx : x < 0
 . rw [show decide (x < 0) = true from decide_eq_true hx, if_pos (rfl : true = true)]
   split <;> (try split) <;> (try split) <;> (try split) <;> omega
 . rw [show decide (x < 0) = false from decide_eq_false hx, if_neg Bool.false_ne_true]
   split <;> (try split) <;> (try split) <;> (try split) <;> omega
theorem rdivide (x y q r : Int) (A B : Option Addr) (c d : Nat) (w : World) (h : Zm w A c (Za x.natAbs)) (g : Zm w B d (Za y.natAbs)) (hx : lz x <= 500000000) (hy : lz y <= 500000000) (hy0 : y ≠ 0) (hq : q = x.tdiv y) (hr : r = x.tmod y) :
  Calls Tryz.prog 232 #[.agg #[.bool (decide (x < 0)), .slice A (Za x.natAbs).length c], .agg #[.bool (decide (y < 0)), .slice B (Za y.natAbs).length d]] w (RetBoth w.heap.size w q r) := by
 have h0 : Za y.natAbs ≠ [] := fun e => by
  have := Ym.1 e
  omega
 have := ref_Divide (decide (x < 0)) (decide (y < 0)) A B c d (Za x.natAbs) (Za y.natAbs) (ZB _) h0 (by unfold lz at hx; omega) (by unfold lz at hy; omega) w h g
 rw [YV, YV, <- hq, <- hr] at this
 exact this
theorem rcmp (x y k : Int) (A B : Option Addr) (c d : Nat) (w : World) (h : Zm w A c (Za x.natAbs)) (g : Zm w B d (Za y.natAbs)) (_ : lz x <= 500000000) (_ : lz y <= 500000000) (hk : k = Jt x y) :
   Calls Tryz.prog 260 #[.agg #[.bool (decide (x < 0)), .slice A (Za x.natAbs).length c], .agg #[.bool (decide (y < 0)), .slice B (Za y.natAbs).length d]] w fun e w' => e = .returned (.int .i64 k) /\ Below w.heap.size w w' := by
 have s1 := sgn_z x
 have s2 := sgn_z y
 rcases Int.lt_trichotomy x.sign y.sign with hl | hl | hl
 . have := ref_Cmp_less (decide (x < 0)) (decide (y < 0)) A B c d (Za x.natAbs) (Za y.natAbs) _ _ hl s1 s2 w h g
   have e : k = -1 := by rw [hk]; exact cmpz_lt (sign_lt hl)
   rw [e]; exact this
 . have := ref_Cmp_same (decide (x < 0)) (decide (y < 0)) A B c d (Za x.natAbs) (Za y.natAbs) x.sign (sign_neg x) s1 (by rw [s2, hl]) (ZB _) (ZB _) w h g
   have e : (if decide (x < 0) = true then YE (val (Za y.natAbs)) (val (Za x.natAbs)) else YE (val (Za x.natAbs)) (val (Za y.natAbs))) = k := by
    rw [hk, Zi, Zi]
    exact (cmp_like hl).symm
   rw [e] at this
   exact this
 . have := ref_Cmp_more (decide (x < 0)) (decide (y < 0)) A B c d (Za x.natAbs) (Za y.natAbs) _ _ hl s1 s2 w h g
   have e : k = 1 := by rw [hk]; exact cmpz_gt (sign_lt hl)
   rw [e]; exact this
theorem rsign (x k : Int) (A : Option Addr) (c : Nat) (w : World) (h : Zm w A c (Za x.natAbs)) (hk : k = x.sign) :
  Calls Tryz.prog 185 #[.agg #[.bool (decide (x < 0)), .slice A (Za x.natAbs).length c]] w fun e w' => e = .returned (.int .i64 k) /\ Below w.heap.size w w' := by
 have := Xa (decide (x < 0)) A c _ w h
 rw [sgn_z, <- hk] at this
 exact this
theorem rbits (x k : Int) (A : Option Addr) (c : Nat) (w : World) (h : Zm w A c (Za x.natAbs)) (hx : lz x <= 200000000) (hk : k = ((Xs (Za x.natAbs) : Nat) : Int)) :
  Calls Tryz.prog 258 #[.agg #[.bool (decide (x < 0)), .slice A (Za x.natAbs).length c]] w fun e w' => e = .returned (.int .i64 k) /\ Below w.heap.size w w' := by
 have := ref_Bits_any (decide (x < 0)) A c _ w h (by unfold lz at hx; omega)
 rw [<- hk] at this
 exact this
theorem rof (n z : Int) (hz : z = n) (h1 : -9223372036854775808 <= n) (h2 : n <= 9223372036854775807) (w : World) : Calls Tryz.prog 190 #[.int .i64 n] w (ZY w.heap.size w z) := by
 rw [hz]; exact ref_Of n h1 h2 w
section
variable {P : Program} (w : World)
def Grew (w : World) (v : Value) (n : Nat) (v' : Value) (w' : World) : Prop :=
 (∃ g cap, v = .slice (some ⟨g, 0, none⟩) n cap /\ v' = .slice (some ⟨g, 0, none⟩) (n + 1) cap /\ w.grownBy w' (some g)) ∨ (v'.ownBlock = some w.heap.size /\ w.grownBy w' none)
theorem run_append_one (base : Nat) (t ty e : TypeId) (i : TypeInfo) (z : Value) (bytes : Nat) (ht : P.underlying t = some (.slice e)) (hi : P.info? e = some i) (hz : i.zero = some z)
   (hsize : i.size = 1) (hby : i.bytes = bytes) (hzs : z.cells.size = 1) (v : Value) (n : Nat) (xs : List Value) (hown : w.ownsRow base e 1 v n xs)
   (a : Addr) (c : Nat) (u : Value) (hu : w.cell? a = some u) (h1 : u.oneCell' = true)
   (h63 : n + 1 <= maxLen) (hbytes : (n + 1) * bytes <= 140737488355328) (hbase : base <= w.heap.size) :
   ∃ v' w', (Builtin.append_ #[t, t] ty #[v, .slice (some a) 1 c]).run P w = .ok v' w' /\ w'.ownsRow base e 1 v' (n + 1) (xs ++ [u]) /\ Grew w v n v' w' := by
 have hnews : ∀ j x, [u][j]? = some x -> w.cell? (a.add j) = some x := by
   intro j x hj
   cases j with
   | zero => simp at hj; subst hj; simpa [Addr.add] using hu
   | succ j => simp at hj
 have h1' : ∀ x ∈ [u], x.oneCell' = true := by simpa using h1
 obtain ⟨v', w', hrun, how, -, -, -⟩ := run_append_own_at (P := P) w base t ty e i z 1 bytes ht hi hz hsize hby hzs (by omega) v n xs hown a 1 c [u] rfl hnews h1' h63 hbytes hbase
 refine ⟨v', w', hrun, how, ?_⟩
 have hsmall : n + 1 <= 9223372036854775807 := by simp only [maxLen] at h63; omega
 have moved : ∀ o : Obj, w.grownBy (w.drew.alloc o) none := fun o => ⟨rfl, rfl, rfl, by simp, fun k hk _ => Below.heap_alloc w.drew _ k hk⟩
 rcases hown.2 with ⟨rfl, rfl⟩ | ⟨g, cap, cur, rfl, hbg, hg, hnc, hcm, hcs, htake⟩
 . have hr := run_append_nil (P := P) w t ty e i z ht hi hz a 1 c [u] (by simp [hsize]) hnews (by omega) (by omega) (by rw [hby]; omega)
   rw [hrun] at hr
   injection hr with e1 e2
   subst e1 e2
   exact .inr ⟨rfl, moved _⟩
 . by_cases hroom : n + 1 <= cap
   . obtain ⟨w1, hr, -, hgr⟩ := run_append_fits (P := P) w base t ty e i 1 ht hi hsize g n cap xs hown a 1 c [u] rfl hnews h1' hroom
     rw [hrun] at hr
     injection hr with e1 e2
     subst e1 e2
     exact .inl ⟨g, cap, rfl, rfl, hgr⟩
   . have holds : ∀ j x, xs[j]? = some x -> w.cell? ((⟨g, 0, none⟩ : Addr).add j) = some x := hown.cells (g := g) rfl
     have hr := run_append_grow (P := P) w t ty e i z ht hi hz ⟨g, 0, none⟩ n cap xs (by rw [hsize]; exact hown.1) holds a 1 c [u] (by simp [hsize]) hnews (by omega) (by omega) (by rw [hby]; exact growslice_fits (by omega) hbytes)
     rw [hrun] at hr
     injection hr with e1 e2
     subst e1 e2
     exact .inr ⟨rfl, moved _⟩
theorem wpList_append_one {ops : Array Oper} {rest : List Oper} {o : Oper} {a : Act} {Q : Exit -> Act -> World -> Prop} (hgd : o.guard = none) (s x : Operand) (t : TypeId)
  (ho : o.op = .call { callee := .builtin .append, args := #[s, x], argTypes := #[t, t] })
  (base : Nat) (e : TypeId) (i : TypeInfo) (z : Value) (bytes : Nat) (ht : P.underlying t = some (.slice e)) (hi : P.info? e = some i) (hz : i.zero = some z)
  (hsize : i.size = 1) (hby : i.bytes = bytes) (hzs : z.cells.size = 1)
  (v : Value) (n : Nat) (xs : List Value) (hs : a.eval s = v) (hown : w.ownsRow base e 1 v n xs)
  (ad : Addr) (c : Nat) (u : Value) (hx : a.eval x = .slice (some ad) 1 c) (hu : w.cell? ad = some u) (h1 : u.oneCell' = true)
  (h63 : n + 1 <= maxLen) (hbytes : (n + 1) * bytes <= 140737488355328) (hbase : base <= w.heap.size)
  (h : ∀ v' w', w'.ownsRow base e 1 v' (n + 1) (xs ++ [u]) -> Grew w v n v' w' -> wpList P ops Q rest (a.put o.dst v') w') : wpList P ops Q (o :: rest) a w := by
 refine wpList_plain hgd fun _ hK => ?_
 obtain ⟨v', w', hrun, h2, h3⟩ := run_append_one (P := P) w base t o.type e i z bytes ht hi hz hsize hby hzs v n xs hown ad c u hu h1 h63 hbytes hbase
 unfold Oper.wp execOp
 simp only [ho, resolve, invoke, builtin, Sem.run_bind, Sem.run_pure, Result.andThen_ok, List.map_toArray, List.map_cons, List.map_nil, hs, hx, hrun]
 exact hK _ _ (h v' w' h2 h3)
end
end Go.Proofs.YtdonecnhdkjniaaGreatDoor
