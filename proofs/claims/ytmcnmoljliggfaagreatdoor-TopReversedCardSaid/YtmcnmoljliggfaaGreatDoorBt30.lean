/- Several texts in one: Ref03b, GBig, Els, BCheck, BMay. -/
import Derived.Test.YtmcnmoljliggfaaGreatDoorBt29
set_option maxRecDepth 100000
set_option maxHeartbeats 8000000
/- May, Nought, Answer, Reckoned of the references of chapter 03. (Written by wip/gauss/genref03b.py.) -/
namespace Go.Proofs.YtmcnmoljliggfaaGreatDoor
open Go.RowKit

/- GaussSize, big of the laws; Check of gauss and of the references. (Written by wip/gauss/genbig.py.) -/

structure GLoc where
  re : FLoc
  im : FLoc
def GLoc.cells (q : GLoc) : List Value := q.re.cells ++ q.im.cells
def GLoc.size (q : GLoc) : Nat := 1 + q.re.n + (1 + q.re.m) + (1 + q.im.n + (1 + q.im.m))
def cellsGL (l : List GLoc) : List Value := l.flatMap GLoc.cells
def lens4 (xs ys us vs : List Nat) : Prop := (xs.length ≤ 1152921504606846975 ∧ ys.length ≤ 1152921504606846975) ∧ us.length ≤ 1152921504606846975 ∧ vs.length ≤ 1152921504606846975

/- Elements of a bench as they lie in a list, nine cells each; what they are; how great all is. -/

theorem Reads.row9 {w : World} {B n k : Nat} {A : Option Addr} {xs : List Value} {a b c d e f g h i : Value} (r : Reads w B 9 A n xs) (hk : k < n) (h0 : xs[k * 9]? = some a) (h1 : xs[k * 9 + 1]? = some b) (h2 : xs[k * 9 + 2]? = some c) (h3 : xs[k * 9 + 3]? = some d) (h4 : xs[k * 9 + 4]? = some e) (h5 : xs[k * 9 + 5]? = some f) (h6 : xs[k * 9 + 6]? = some g) (h7 : xs[k * 9 + 7]? = some h) (h8 : xs[k * 9 + 8]? = some i) :
    ∃ ad : Addr, A = some ad ∧ ad.block < B ∧ w.cell? (ad.add (k * 9)) = some a ∧ w.cell? ⟨(ad.add (k * 9)).block, (ad.add (k * 9)).off + 1, none⟩ = some b ∧ w.cell? ⟨(ad.add (k * 9)).block, (ad.add (k * 9)).off + 2, none⟩ = some c ∧ w.cell? ⟨(ad.add (k * 9)).block, (ad.add (k * 9)).off + 3, none⟩ = some d ∧
      w.cell? ⟨(ad.add (k * 9)).block, (ad.add (k * 9)).off + 4, none⟩ = some e ∧ w.cell? ⟨(ad.add (k * 9)).block, (ad.add (k * 9)).off + 5, none⟩ = some f ∧ w.cell? ⟨(ad.add (k * 9)).block, (ad.add (k * 9)).off + 6, none⟩ = some g ∧ w.cell? ⟨(ad.add (k * 9)).block, (ad.add (k * 9)).off + 7, none⟩ = some h ∧ w.cell? ⟨(ad.add (k * 9)).block, (ad.add (k * 9)).off + 8, none⟩ = some i := by
  obtain ⟨ad, e9, hb, hc⟩ := r.2 (by omega)
  refine ⟨ad, e9, hb, hc _ _ h0, ?_, ?_, ?_, ?_, ?_, ?_, ?_, ?_⟩
  · rw [← add_more _ _ 1 (by omega)]; exact hc _ _ h1
  · rw [← add_more _ _ 2 (by omega)]; exact hc _ _ h2
  · rw [← add_more _ _ 3 (by omega)]; exact hc _ _ h3
  · rw [← add_more _ _ 4 (by omega)]; exact hc _ _ h4
  · rw [← add_more _ _ 5 (by omega)]; exact hc _ _ h5
  · rw [← add_more _ _ 6 (by omega)]; exact hc _ _ h6
  · rw [← add_more _ _ 7 (by omega)]; exact hc _ _ h7
  · rw [← add_more _ _ 8 (by omega)]; exact hc _ _ h8
structure FRaw where
  n1 : Bool
  A : Option Addr
  c : Nat
  xs : List Nat
  n2 : Bool
  B : Option Addr
  e : Nat
  ys : List Nat
def FRaw.cells (q : FRaw) : List Value := [.bool q.n1, .slice q.A q.xs.length q.c, .bool q.n2, .slice q.B q.ys.length q.e]
def FRaw.In (q : FRaw) (w : World) : Prop := Raw w q.A q.c q.xs ∧ Raw w q.B q.e q.ys
theorem FRaw.In.below {q : FRaw} {w w' : World} (h : q.In w) (hb : Below w.heap.size w w') : q.In w' := ⟨h.1.below hb, h.2.below hb⟩
def FRaw.may (q : FRaw) : Bool := chkE q.n1 q.n2 q.xs q.ys == 0
def FRaw.num (q : FRaw) : Int := ival q.n1 q.xs
def FRaw.den (q : FRaw) : Int := ival q.n2 q.ys
def FRaw.rat (q : FRaw) : Rat := Rat.divInt q.num q.den
def FRaw.lens (q : FRaw) : Nat := q.xs.length + q.ys.length
theorem FRaw.fine {q : FRaw} (hx : Limbs q.xs) (hy : Limbs q.ys) (h : q.may = true) : Fine q.num q.den ∧ q.n1 = decide (q.num < 0) ∧ q.n2 = decide (q.den < 0) ∧ q.xs = natL q.num.natAbs ∧ q.ys = natL q.den.natAbs := by
  obtain ⟨n, d, f, h1, h2, h3, h4⟩ := fine_of (n1 := q.n1) (n2 := q.n2) hx hy (by simpa [FRaw.may] using h)
  have e1 : q.num = n := by unfold FRaw.num; rw [h1, h3, ival_at]
  have e2 : q.den = d := by unfold FRaw.den; rw [h2, h4, ival_at]
  rw [e1, e2]
  exact ⟨f, h1, h2, h3, h4⟩
structure ERaw where
  kind : Nat
  p : FRaw
  q : FRaw
def ERaw.cells (x : ERaw) : List Value := .int .u8 x.kind :: (x.p.cells ++ x.q.cells)
def ERaw.In (x : ERaw) (w : World) : Prop := x.p.In w ∧ x.q.In w
theorem ERaw.In.below {x : ERaw} {w w' : World} (h : x.In w) (hb : Below w.heap.size w w') : x.In w' := ⟨h.1.below hb, h.2.below hb⟩
def ERaw.el (x : ERaw) : El := ⟨x.kind, x.p.rat, x.q.rat⟩
def ERaw.lens (x : ERaw) : Nat := x.p.lens + x.q.lens
def ERaw.may (x : ERaw) : Bool := x.p.may && x.q.may && (match x.kind with
  | 1 => decide (0 ≤ x.p.num) && decide (x.q.num = 0)
  | 2 => decide (x.q.num = 0)
  | 3 => decide (0 ≤ x.p.num) && decide (0 < x.q.num)
  | 4 => true
  | 5 => decide (x.p.num = 0) && decide (x.q.num = 0)
  | _ => false)
def cellsEL (l : List ERaw) : List Value := l.flatMap ERaw.cells
theorem cellsEL_length (l : List ERaw) : (cellsEL l).length = l.length * 9 := by
  induction l with
  | nil => rfl
  | cons x l ih =>
    rw [cellsEL, List.flatMap_cons, List.length_append, List.length_cons]
    unfold cellsEL at ih
    rw [ih]
    simp [ERaw.cells, FRaw.cells]
    omega
theorem cellsEL_get : ∀ (l : List ERaw) (k : Nat) (hk : k < l.length), (cellsEL l)[k * 9]? = some (.int .u8 l[k].kind) ∧ (cellsEL l)[k * 9 + 1]? = some (.bool l[k].p.n1) ∧ (cellsEL l)[k * 9 + 2]? = some (.slice l[k].p.A l[k].p.xs.length l[k].p.c) ∧ (cellsEL l)[k * 9 + 3]? = some (.bool l[k].p.n2) ∧ (cellsEL l)[k * 9 + 4]? = some (.slice l[k].p.B l[k].p.ys.length l[k].p.e) ∧
    (cellsEL l)[k * 9 + 5]? = some (.bool l[k].q.n1) ∧ (cellsEL l)[k * 9 + 6]? = some (.slice l[k].q.A l[k].q.xs.length l[k].q.c) ∧ (cellsEL l)[k * 9 + 7]? = some (.bool l[k].q.n2) ∧ (cellsEL l)[k * 9 + 8]? = some (.slice l[k].q.B l[k].q.ys.length l[k].q.e)
  | [], k, hk => by simp at hk
  | q :: l, 0, _ => by simp [cellsEL, ERaw.cells, FRaw.cells]
  | q :: l, k + 1, hk => by
    have ih := cellsEL_get l k (by simpa using hk)
    simp only [cellsEL, List.flatMap_cons, ERaw.cells, FRaw.cells, show (k + 1) * 9 = k * 9 + 9 by omega]
    simpa [cellsEL, ERaw.cells, FRaw.cells] using ih
structure BenchIn (w : World) (B : Nat) (A : Option Addr) (l : List ERaw) : Prop where
  row : Reads w B 9 A l.length (cellsEL l)
  le : B ≤ w.heap.size
  els : ∀ x ∈ l, x.In w
theorem ERaw.bound {x : ERaw} {w : World} (hi : x.In w) (hm : x.may = true) : ∃ D, MB x.el.mat D (x.lens + 1) := by
  unfold ERaw.may at hm
  rw [Bool.and_eq_true, Bool.and_eq_true] at hm
  obtain ⟨⟨h1, h2⟩, h3⟩ := hm
  obtain ⟨f1, -, -, e1, e2⟩ := FRaw.fine hi.1.1.limbs hi.1.2.limbs h1
  obtain ⟨f2, -, -, e3, e4⟩ := FRaw.fine hi.2.1.limbs hi.2.2.limbs h2
  have i1 := fine_is f1
  have i2 := fine_is f2
  have hl : elLz x.p.num x.p.den x.q.num x.q.den = x.lens := by
    unfold elLz lz ERaw.lens FRaw.lens
    rw [← e1, ← e2, ← e3, ← e4]
  rw [← hl]
  refine El.bound (e := x.el) i1 i2 fun hk => ?_
  intro e0
  have hk3 : x.kind = 3 := hk
  rw [hk3] at h3
  simp only [Bool.and_eq_true, decide_eq_true_eq] at h3
  have := i2.nought.2 e0
  omega
theorem bench_bound {l : List ERaw} {w : World} (hi : ∀ x ∈ l, x.In w) (hm : ∀ x ∈ l, x.may = true) : ∃ D, MB (benchM (l.map ERaw.el)) D (1 + (l.map fun x => x.lens + 2).sum) := by
  obtain ⟨E, h⟩ := goneM_bound (l.map fun x => (x.el, x.lens + 1)) M2.one 1 1 (fun y hy => by
    obtain ⟨x, hx, rfl⟩ := List.mem_map.1 hy
    exact ERaw.bound (hi x hx) (hm x hx)) MB.one
  rw [List.map_map, List.map_map] at h
  exact ⟨E, h⟩
/- Check of package bench: may all elements of a list be? -/

def ERaw.val (x : ERaw) : Value := .agg #[.int .u8 x.kind, .bool x.p.n1, .slice x.p.A x.p.xs.length x.p.c, .bool x.p.n2, .slice x.p.B x.p.ys.length x.p.e, .bool x.q.n1, .slice x.q.A x.q.xs.length x.q.c, .bool x.q.n2, .slice x.q.B x.q.ys.length x.q.e]
def chkB (l : List ERaw) (ks : ERaw → Bool) : Int := if 4096 < l.length then 4 else if l.all ks then 0 else 1

theorem bench_Check (l : List ERaw) (ks : ERaw → Bool) (A : Option Addr) (c : Nat) (hl : l.length ≤ 9223372036854775807) (w : World) (h : Reads w w.heap.size 9 A l.length (cellsEL l))
    (H : ∀ x ∈ l, ∀ V, Below w.heap.size w V → Calls Tryz.prog 61 #[x.val] V fun e w' => e = .returned (.bool (ks x)) ∧ Below V.heap.size V w') :
    Calls Tryz.prog 28 #[.slice A l.length c] w fun e w' => e = .returned (.int .i64 (chkB l ks)) ∧ Below w.heap.size w w' := by
  have HR := Hd h
  have HS := Hd H
  clear h H
  have H0 := Hd (by intro j hj; omega : ∀ j (_ : j < 0), (h : j < l.length) → ks l[j] = true)
  go_enter Tryz.func28, Tryz.ntmps28
  by_cases hbig : 4096 < l.length
  · have e9 : chkB l ks = 4 := by unfold chkB; rw [if_pos hbig]
    rw [e9]
    have a1 : (4096 : Int) < (l.length : Int) := by omega
    go_wp2_with fail
    go_ret
    exact ⟨rfl, Below.refl _ _⟩
  have e9 : chkB l ks = if l.all ks then 0 else 1 := by unfold chkB; rw [if_neg hbig]
  have E9 := Hd e9
  clear e9
  have a2 : ¬ ((4096 : Int) < (l.length : Int)) := by omega
  go_wp2_with fail
  go_loopw [10] (fun s wr => ∃ i : Nat, s = .int .i64 i ∧ i ≤ l.length ∧ Hid (∀ j (_ : j < i), (h : j < l.length) → ks l[j] = true) ∧ Below w.heap.size w wr) (fun s _ => l.length - (intOf s).toNat)
  case atStart => exact ⟨0, rfl, Nat.zero_le _, H0, Below.refl _ _⟩
  case round =>
    obtain ⟨i, rfl, hi, HN, hb⟩ := hrel
    clear H0
    by_cases hlt : i < l.length
    · have a0 : (0 : Int) ≤ (i : Int) := by omega
      have a1 : (i : Int) < (l.length : Int) := by omega
      obtain ⟨e0, e1, e2, e3, e4, e5, e6, e7, e8⟩ := cellsEL_get l i hlt
      obtain ⟨ad, rfl, hbl, c0, c1, c2, c3, c4, c5, c6, c7, c8⟩ := (HR.out.below hb).row9 hlt e0 e1 e2 e3 e4 e5 e6 e7 e8
      have C := HS.out _ (List.getElem_mem hlt)
      unfold ERaw.val at C
      have HB := Hd hb
      clear e0 e1 e2 e3 e4 e5 e6 e7 e8 hbl hb
      by_cases hlong : ks l[i] = true
      · rw [hlong] at C
        have C := Hd C
        have HL := Hd hlong
        clear hlong
        go_wp2_with (first | (go_at_call 61; with_reducible refine (C.out _ (HB.out.alloc HB.out.size _)).mono ?_; rintro e w' ⟨rfl, hb'⟩; have B1 := belowTo (HB.out.alloc HB.out.size _) hb'))
        go_roundw
        case rel =>
          refine ⟨i + 1, by go_num, hlt, Hd fun j hj h => ?_, B1⟩
          rcases (by omega : j < i ∨ j = i) with hj | rfl
          · exact HN.out j hj h
          · exact HL.out
        case measure => simp [intOf]; omega
      · rw [Bool.not_eq_true] at hlong
        rw [hlong] at C
        have C := Hd C
        have HL := Hd hlong
        clear hlong
        go_wp2_with (first | (go_at_call 61; with_reducible refine (C.out _ (HB.out.alloc HB.out.size _)).mono ?_; rintro e w' ⟨rfl, hb'⟩; have B1 := belowTo (HB.out.alloc HB.out.size _) hb'))
        go_ret
        have e : l.all ks = false := List.all_eq_false.2 ⟨l[i], List.getElem_mem hlt, by rw [HL.out]; decide⟩
        exact ⟨by rw [E9.out, e]; rfl, B1⟩
    · have HB := Hd hb
      clear hb
      go_wp2_with fail
      go_ret
      have e : l.all ks = true := List.all_eq_true.2 fun x hx => by
        obtain ⟨j, hj, rfl⟩ := List.getElem_of_mem hx
        exact HN.out j (by omega) hj
      exact ⟨by rw [E9.out, e]; rfl, HB.out⟩
/- bench.may: may an element be? (Written by wip/top/genbmay.py.) -/

theorem sign_facts (n : Int) : (0 ≤ n.sign ↔ 0 ≤ n) ∧ (n.sign = 0 ↔ n = 0) ∧ (0 < n.sign ↔ 0 < n) := by
  rcases Int.lt_trichotomy n 0 with h | h | h
  · rw [Int.sign_eq_neg_one_of_neg h]; omega
  · subst h; simp
  · rw [Int.sign_eq_one_of_pos h]; omega

theorem may_bad (z : Int) (n1 n2 n3 n4 : Bool) (A B A2 B2 : Option Addr) (c e c2 e2 : Nat) (xs ys us vs : List Nat) (w : World) (r1 : Raw w A c xs) (r2 : Raw w B e ys) (r3 : Raw w A2 c2 us) (r4 : Raw w B2 e2 vs) (hc : (chkE n1 n2 xs ys == 0 && chkE n3 n4 us vs == 0) = false) :
    Calls Tryz.prog 61 #[.agg #[.int .u8 z, .bool n1, .slice A xs.length c, .bool n2, .slice B ys.length e, .bool n3, .slice A2 us.length c2, .bool n4, .slice B2 vs.length e2]] w fun e w' => e = .returned (.bool false) ∧ Below w.heap.size w w' := by
  have C1 := fun (V : World) (g' : Nat) (a1 : Raw V A c xs) (a2 : Raw V B e ys) (a3 : Raw V A2 c2 us) (a4 : Raw V B2 e2 vs) (hg : V.heap.size = g') => checks_two n1 n2 n3 n4 A B A2 B2 c e c2 e2 xs ys us vs V g' a1 a2 a3 a4 hg
  rw [hc] at C1
  have H1 := Hd C1
  have HX := Hd (And.intro (And.intro r1 r2) (And.intro r3 r4))
  clear C1 hc r1 r2 r3 r4
  go_enter Tryz.func61, Tryz.ntmps61
  go_upto_region 1 with fail
  refine boxes1 (P := fun W => Code.wp _ _ _ _ W) fun W p0 b0 => ?_
  have HB := Hd b0
  obtain ⟨-, x0, x1, x2, x3, x4, x5, x6, x7, x8⟩ := (Nine.mk p0).facts
  have hx := HX.out
  have r1 := hx.1.1.below b0
  have r2 := hx.1.2.below b0
  have r3 := hx.2.1.below b0
  have r4 := hx.2.2.below b0
  clear p0 b0 hx
  go_wp2_with fail
  refine (H1.out W _ r1 r2 r3 r4 rfl).mono ?_
  rintro e w1 ⟨rfl, hb⟩
  have H9 := Hd (belowTo (HB.out.alloc HB.out.size _) hb)
  clear r1 r2 r3 r4 hb x0 x1 x2 x3 x4 x5 x6 x7 x8
  go_wp2_with fail
  go_ret
  exact ⟨rfl, H9.out⟩
def mayK (k : Nat) (n m : Int) : Bool := match k with
  | 1 => decide (0 ≤ n) && decide (m = 0)
  | 2 => decide (m = 0)
  | 3 => decide (0 ≤ n) && decide (0 < m)
  | 4 => true
  | 5 => decide (n = 0) && decide (m = 0)
  | _ => false

theorem may_good (k : Nat) (n d m f : Int) (F1 : Fine n d) (F2 : Fine m f) (A B A2 B2 : Option Addr) (c e c2 e2 : Nat) (w : World) (r1 : Raw w A c (natL n.natAbs)) (r2 : Raw w B e (natL d.natAbs)) (r3 : Raw w A2 c2 (natL m.natAbs)) (r4 : Raw w B2 e2 (natL f.natAbs)) :
    Calls Tryz.prog 61 #[.agg #[.int .u8 k, .bool (decide (n < 0)), .slice A (natL n.natAbs).length c, .bool (decide (d < 0)), .slice B (natL d.natAbs).length e, .bool (decide (m < 0)), .slice A2 (natL m.natAbs).length c2, .bool (decide (f < 0)), .slice B2 (natL f.natAbs).length e2]] w fun e w' => e = .returned (.bool (mayK k n m)) ∧ Below w.heap.size w w' := by
  have C1 := fun (V : World) (g' : Nat) (a1 : Raw V A c (natL n.natAbs)) (a2 : Raw V B e (natL d.natAbs)) (a3 : Raw V A2 c2 (natL m.natAbs)) (a4 : Raw V B2 e2 (natL f.natAbs)) (hg : V.heap.size = g') => checks_two (decide (n < 0)) (decide (d < 0)) (decide (m < 0)) (decide (f < 0)) A B A2 B2 c e c2 e2 _ _ _ _ V g' a1 a2 a3 a4 hg
  rw [show (chkE (decide (n < 0)) (decide (d < 0)) (natL n.natAbs) (natL d.natAbs) == 0 && chkE (decide (m < 0)) (decide (f < 0)) (natL m.natAbs) (natL f.natAbs) == 0) = true from by rw [F1.chk, F2.chk]; rfl] at C1
  obtain ⟨sp, hsp⟩ : ∃ z, z = n.sign := ⟨_, rfl⟩
  obtain ⟨sq, hsq⟩ : ∃ z, z = m.sign := ⟨_, rfl⟩
  have H1 := Hd C1
  have H2 := Hd (fun (V : World) (h : Raw V A c (natL n.natAbs)) => ratio_Sign n sp d A B c e V h hsp)
  have H3 := Hd (fun (V : World) (h : Raw V A2 c2 (natL m.natAbs)) => ratio_Sign m sq f A2 B2 c2 e2 V h hsq)
  have S1 := sign_facts n
  have S2 := sign_facts m
  rw [← hsp] at S1
  rw [← hsq] at S2
  have S1 := Hd S1
  have S2 := Hd S2
  have HX := Hd (And.intro (And.intro r1 r2) (And.intro r3 r4))
  obtain ⟨R, hR⟩ : ∃ R, R = mayK k n m := ⟨_, rfl⟩
  rw [← hR]
  have HR := Hd hR
  clear C1 r1 r2 r3 r4 F1 F2 hsp hsq hR
  go_enter Tryz.func61, Tryz.ntmps61
  go_upto_region 1 with fail
  refine boxes1 (P := fun W => Code.wp _ _ _ _ W) fun W p0 b0 => ?_
  have HB := Hd b0
  have PE := Hd (Nine.mk p0)
  obtain ⟨-, x0, x1, x2, x3, x4, x5, x6, x7, x8⟩ := PE.out.facts
  have hx := HX.out
  have r1 := hx.1.1.below b0
  have r2 := hx.1.2.below b0
  have r3 := hx.2.1.below b0
  have r4 := hx.2.2.below b0
  have HX := Hd (And.intro r1 r3)
  clear p0 b0 hx
  go_wp2_with fail
  refine (H1.out W _ r1 r2 r3 r4 rfl).mono ?_
  rintro e w1 ⟨rfl, hb⟩
  have ha := ((Below.refl W.heap.size W).alloc (Nat.le_refl _) (.cells #[.bool (decide (n < 0)), .slice A (natL n.natAbs).length c, .bool (decide (d < 0)), .slice B (natL d.natAbs).length e, .bool (decide (m < 0)), .slice A2 (natL m.natAbs).length c2, .bool (decide (f < 0)), .slice B2 (natL f.natAbs).length e2] 27)).trans (hb.mono (by simp))
  have PE := Hd (PE.out.below ha)
  have HX := Hd (And.intro (HX.out.1.below ha) (HX.out.2.below ha))
  have HB := Hd (belowTo HB.out ha)
  clear r1 r2 r3 r4 hb ha x0 x1 x2 x3 x4 x5 x6 x7 x8 H1
  go_wp2_with fail
  refine wp_region_free [.val (.pointer (some ⟨w.heap.size, 1, none⟩)) [], .val (.agg #[.bool (decide (n < 0)), .slice A (natL n.natAbs).length c, .bool (decide (d < 0)), .slice B (natL d.natAbs).length e]) [], .val (.int .i64 sp) [], .val (.pointer (some ⟨w.heap.size, 5, none⟩)) [], .val (.agg #[.bool (decide (m < 0)), .slice A2 (natL m.natAbs).length c2, .bool (decide (f < 0)), .slice B2 (natL f.natAbs).length e2]) [], .val (.int .i64 sq) [], .val (.int .i64 sp) [2], .val (.int .i64 sq) [5]] w1.heap.size w1 [] (fun _ _ => False) _ mixedOrders2 (Nat.le_refl _) (Below.refl _ _) (KeptV.refl _ _ _) rfl (by kernel_rfl) (by kernel_rfl) (by kernel_rfl) (by kernel_rfl) (by kernel_rfl) (by kernel_rfl) (by kernel_rfl) (by kernel_rfl) rfl (by simp [oldsF]) ?_ ?_ ?_ ?_
  · simp only [StableF]
  · simp only [OldsF]
  · simp (maxSteps := 4000000) [StepsF, DepF, freeAct, fill, pairs]
    repeat' (first | apply And.intro | (intro (u : Value)) | (intro (u : Nat)))
    all_goals
      (intro V hV hK
       obtain ⟨-, x0, x1, x2, x3, x4, x5, x6, x7, x8⟩ := (PE.out.below hV).facts
       have g1 := Hd (HX.out.1.below hV)
       have g2 := Hd (HX.out.2.below hV)
       clear hV hK
       go_simp
       first
       | exact Below.refl _ _
       | ((with_reducible refine (H2.out V g1.out).mono ?_); rintro e w' ⟨rfl, hb⟩; exact ⟨rfl, hb⟩)
       | ((with_reducible refine (H3.out V g2.out).mono ?_); rintro e w' ⟨rfl, hb⟩; exact ⟨rfl, hb⟩))
  · simp [EndF, FactsF, freeAct, fill, pairs]
    intro V hV hK _ _ _
    have HB := Hd (belowTo HB.out hV)
    have PE := Hd (PE.out.below hV)
    obtain ⟨-, x0, -⟩ := PE.out.facts
    clear hV hK H2 H3
    by_cases k1 : k = 1
    · skip
      have hk : (k : Int) = 1 := by omega
      by_cases hp : 0 ≤ sp
      · skip
        by_cases hq : sq = 0
        · skip
          go_wp2_with fail
          go_ret
          exact ⟨by rw [HR.out, k1]; have s1 := S1.out; have s2 := S2.out; unfold mayK; simp; first | omega | (rw [beq_eq_false_iff_ne.2 hq]; simp; omega), HB.out⟩
        · skip
          go_wp2_with fail
          go_ret
          exact ⟨by rw [HR.out, k1]; have s1 := S1.out; have s2 := S2.out; unfold mayK; simp; first | omega | (rw [beq_eq_false_iff_ne.2 hq]; simp; omega), HB.out⟩
      · skip
        go_wp2_with fail
        go_ret
        exact ⟨by rw [HR.out, k1]; have s1 := S1.out; have s2 := S2.out; unfold mayK; simp; first | omega | (rw [beq_eq_false_iff_ne.2 hq]; simp; omega), HB.out⟩
    have h1 : ¬ (k : Int) = 1 := by omega
    by_cases k2 : k = 2
    · skip
      have hk : (k : Int) = 2 := by omega
      by_cases hq : sq = 0
      · skip
        go_wp2_with fail
        go_ret
        exact ⟨by rw [HR.out, k2]; have s1 := S1.out; have s2 := S2.out; unfold mayK; simp; first | omega | (rw [beq_eq_false_iff_ne.2 hq]; simp; omega), HB.out⟩
      · skip
        go_wp2_with fail
        go_ret
        exact ⟨by rw [HR.out, k2]; have s1 := S1.out; have s2 := S2.out; unfold mayK; simp; first | omega | (rw [beq_eq_false_iff_ne.2 hq]; simp; omega), HB.out⟩
    have h2 : ¬ (k : Int) = 2 := by omega
    by_cases k3 : k = 3
    · skip
      have hk : (k : Int) = 3 := by omega
      by_cases hp : 0 ≤ sp
      · skip
        by_cases hq : 0 < sq
        · skip
          go_wp2_with fail
          go_ret
          exact ⟨by rw [HR.out, k3]; have s1 := S1.out; have s2 := S2.out; unfold mayK; simp; first | omega | (rw [beq_eq_false_iff_ne.2 hq]; simp; omega), HB.out⟩
        · skip
          go_wp2_with fail
          go_ret
          exact ⟨by rw [HR.out, k3]; have s1 := S1.out; have s2 := S2.out; unfold mayK; simp; first | omega | (rw [beq_eq_false_iff_ne.2 hq]; simp; omega), HB.out⟩
      · skip
        go_wp2_with fail
        go_ret
        exact ⟨by rw [HR.out, k3]; have s1 := S1.out; have s2 := S2.out; unfold mayK; simp; first | omega | (rw [beq_eq_false_iff_ne.2 hq]; simp; omega), HB.out⟩
    have h3 : ¬ (k : Int) = 3 := by omega
    by_cases k4 : k = 4
    · skip
      have hk : (k : Int) = 4 := by omega
      go_wp2_with fail
      go_ret
      exact ⟨by rw [HR.out, k4]; rfl, HB.out⟩
    have h4 : ¬ (k : Int) = 4 := by omega
    by_cases k5 : k = 5
    · skip
      have hk : (k : Int) = 5 := by omega
      by_cases hp : sp = 0
      · skip
        by_cases hq : sq = 0
        · skip
          go_wp2_with fail
          go_ret
          exact ⟨by rw [HR.out, k5]; have s1 := S1.out; have s2 := S2.out; unfold mayK; simp; first | omega | (rw [beq_eq_false_iff_ne.2 hq]; simp; omega), HB.out⟩
        · skip
          go_wp2_with fail
          go_ret
          exact ⟨by rw [HR.out, k5]; have s1 := S1.out; have s2 := S2.out; unfold mayK; simp; first | omega | (rw [beq_eq_false_iff_ne.2 hq]; simp; omega), HB.out⟩
      · skip
        go_wp2_with fail
        go_ret
        exact ⟨by rw [HR.out, k5]; have s1 := S1.out; have s2 := S2.out; unfold mayK; simp; first | omega | (rw [beq_eq_false_iff_ne.2 hq]; simp; omega), HB.out⟩
    have h5 : ¬ (k : Int) = 5 := by omega
    go_wp2_with fail
    go_ret
    exact ⟨by rw [HR.out]; unfold mayK; split <;> first | rfl | omega, HB.out⟩
theorem mayK_eq {x : ERaw} {n m : Int} (h1 : x.p.may = true) (h2 : x.q.may = true) (e1 : x.p.num = n) (e2 : x.q.num = m) : x.may = mayK x.kind n m := by
  unfold ERaw.may mayK
  rw [h1, h2, e1, e2]
  rfl
theorem bench_may (x : ERaw) (w : World) (h : x.In w) : Calls Tryz.prog 61 #[x.val] w fun e w' => e = .returned (.bool x.may) ∧ Below w.heap.size w w' := by
  obtain ⟨⟨r1, r2⟩, r3, r4⟩ := h
  cases hc : (x.p.may && x.q.may) with
  | false =>
    have hm : x.may = false := by unfold ERaw.may; rw [hc]; rfl
    rw [hm]
    exact may_bad x.kind _ _ _ _ _ _ _ _ _ _ _ _ _ _ _ _ w r1 r2 r3 r4 hc
  | true =>
    rw [Bool.and_eq_true] at hc
    obtain ⟨f1, a1, a2, a3, a4⟩ := FRaw.fine r1.limbs r2.limbs hc.1
    obtain ⟨f2, a5, a6, a7, a8⟩ := FRaw.fine r3.limbs r4.limbs hc.2
    rw [mayK_eq hc.1 hc.2 rfl rfl]
    rw [a3] at r1
    rw [a4] at r2
    rw [a7] at r3
    rw [a8] at r4
    have C := may_good x.kind _ _ _ _ f1 f2 _ _ _ _ _ _ _ _ w r1 r2 r3 r4
    rw [← a1, ← a2, ← a3, ← a4, ← a5, ← a6, ← a7, ← a8] at C
    exact C
end Go.Proofs.YtmcnmoljliggfaaGreatDoor
