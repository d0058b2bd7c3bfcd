/- Several texts in one: TrimDigits, Times, RefMul. -/
import Derived.Test.YtbdliabfdplohaaDoorBw01
import Derived.Test.YtbdliabfdplohaaDoorBw06
import Derived.Test.YtbdliabfdplohaaDoorBw07
import Derived.Shelf.Strings.SlTrimAscii
import Derived.Test.YtbdliabfdplohaaDoorBw05
import Derived.Test.YtbdliabfdplohaaDoorBwHd
import Derived.BigQuiet
set_option maxRecDepth 100000
set_option maxHeartbeats 8000000
/- strings.Trim of the ten digits: is anything left? -/
namespace Go.Proofs.YtbdliabfdplohaaDoor
open Go.RowKit

def isDig (b : UInt8) : Bool := decide (48 ≤ b.toNat ∧ b.toNat ≤ 57)
def NonD (l : List UInt8) : Prop := ∃ b ∈ l, isDig b = false
theorem NonD.cons {l : List UInt8} {b : UInt8} (h : isDig b = true) : NonD (b :: l) ↔ NonD l := by
  unfold NonD
  constructor
  · rintro ⟨x, hx, hx2⟩
    rw [List.mem_cons] at hx
    rcases hx with rfl | hx
    · rw [h] at hx2; cases hx2
    · exact ⟨x, hx, hx2⟩
  · rintro ⟨x, hx, hx2⟩
    exact ⟨x, List.mem_cons_of_mem _ hx, hx2⟩
theorem decFrom_nonD : ∀ (l : List UInt8) (acc : Nat), Lib.decFrom acc l = none ↔ NonD l
  | [], acc => by simp [Lib.decFrom, NonD]
  | b :: l, acc => by
    cases h : isDig b with
    | true =>
      have h2 : 48 ≤ b.toNat ∧ b.toNat ≤ 57 := by unfold isDig at h; simpa using h
      rw [NonD.cons h, Lib.decFrom, digitVal_some h2.1 h2.2]
      exact decFrom_nonD l _
    | false =>
      have h2 : ¬ (48 ≤ b.toNat ∧ b.toNat ≤ 57) := by unfold isDig at h; simpa using h
      rw [Lib.decFrom, digitVal_none (by omega)]
      exact ⟨fun _ => ⟨b, List.mem_cons_self, h⟩, fun _ => rfl⟩
theorem digs_contains (x : UInt8) : ([48, 49, 50, 51, 52, 53, 54, 55, 56, 57] : List UInt8).contains x = isDig x := by
  rw [Bool.eq_iff_iff]
  unfold isDig
  simp [← UInt8.toNat_inj]
  omega
theorem dropWhile_nil {p : UInt8 → Bool} : ∀ (l : List UInt8), l.dropWhile p = [] ↔ ∀ b ∈ l, p b = true
  | [] => by simp
  | b :: l => by
    rw [List.dropWhile_cons]
    cases h : p b with
    | true => simp [h, dropWhile_nil l]
    | false => simp [h]
theorem nonD_not {l : List UInt8} : ¬ NonD l ↔ ∀ b ∈ l, isDig b = true := by
  unfold NonD
  constructor
  · intro h b hb
    cases hd : isDig b with
    | true => rfl
    | false => exact absurd ⟨b, hb, hd⟩ h
  · rintro h ⟨b, hb, hd⟩
    rw [h b hb] at hd; cases hd
theorem trimS_digits (l : List UInt8) : Lib.trimS l [48, 49, 50, 51, 52, 53, 54, 55, 56, 57] = [] ↔ ¬ NonD l := by
  have e : (fun x => ([48, 49, 50, 51, 52, 53, 54, 55, 56, 57] : List UInt8).contains x) = isDig := funext digs_contains
  unfold Lib.trimS Lib.trimLeftS Lib.trimRightS
  rw [e, dropWhile_nil, nonD_not]
  constructor
  · intro h
    have h1 : (l.reverse.dropWhile isDig) = [] := by
      cases h2 : l.reverse.dropWhile isDig with
      | nil => rfl
      | cons x r =>
        exfalso
        have h3 := List.head?_dropWhile_not isDig l.reverse
        rw [h2] at h3
        simp at h3
        have := h x (by rw [h2]; simp)
        rw [h3] at this; cases this
    intro b hb
    exact (dropWhile_nil _).1 h1 b (by simpa using hb)
  · intro h b hb
    have h1 : l.reverse.dropWhile isDig = [] := (dropWhile_nil _).2 (fun b hb => h b (by simpa using hb))
    rw [h1] at hb
    cases hb
def Trimmed (s : ByteArray) (w : World) (e : Ending) (w' : World) : Prop := ∃ t : ByteArray, e = .returned (.string t) ∧ (t.data.toList = [] ↔ ¬ NonD s.data.toList) ∧ Below w.heap.size w w'
theorem strings_Trim_digits (s : ByteArray) (hs : s.size ≤ 65536) (w : World) :
    Calls Tryd.prog 37 #[.string s, .string ⟨#[48, 49, 50, 51, 52, 53, 54, 55, 56, 57]⟩] w (Trimmed s w) :=
  (Any.strings_Trim_ascii Tryd.lays160 (fun _ => by kernel_rfl) (by kernel_rfl) s ⟨#[48, 49, 50, 51, 52, 53, 54, 55, 56, 57]⟩ w (by omega) (by decide) (by
    intro j b hb
    have hm : b ∈ ([48, 49, 50, 51, 52, 53, 54, 55, 56, 57] : List UInt8) := List.mem_of_getElem? hb
    have h2 := digs_contains b
    rw [List.contains_iff_mem.2 hm] at h2
    have h3 : 48 ≤ b.toNat ∧ b.toNat ≤ 57 := by unfold isDig at h2; simpa using h2.symm
    omega)).mono fun _ _ ⟨h1, h2⟩ => ⟨_, h1, trimS_digits _, h2⟩
/- Times of package exact: what it counts. -/

structure Mid (w0 wr : World) (g L : Nat) (zs : List Nat) (top : Nat) : Prop where
  len : zs.length = L
  limbs : Limbs zs
  row : Row wr g zs
  low : Below w0.heap.size w0 wr
  nought : ∀ k, top ≤ k → at0 zs k = 0
theorem Mid.set {w0 wr : World} {g L : Nat} {zs : List Nat} {top m d : Nat} (h : Mid w0 wr g L zs top) (hg : w0.heap.size ≤ g) (hm : m < top) (hd : d < 4294967296) : Mid w0 (wr.setCell ⟨g, m, none⟩ (.int .u32 (d : Int))) g L (zs.set m d) top :=
  ⟨by simp [h.len], limbs_set h.limbs hd, h.row.set m d, h.low.setCell (p := ⟨g, m, none⟩) hg _, fun k hk => by rw [at0_set_ne (by omega)]; exact h.nought k hk⟩
theorem Mid.more {w0 wr : World} {g L : Nat} {zs : List Nat} {top : Nat} (h : Mid w0 wr g L zs top) : Mid w0 wr g L zs (top + 1) :=
  ⟨h.len, h.limbs, h.row, h.low, fun k hk => h.nought k (by omega)⟩

theorem exact_Times_own (n1 n2 : Bool) (A B : Option Addr) (c d : Nat) (xs ys : List Nat) (hlx : xs.length ≤ 536870912) (hly : ys.length ≤ 536870912) (z : Int) (HZV : Hid (z = if (n1 != n2) then -((val xs * val ys : Nat) : Int) else ((val xs * val ys : Nat) : Int))) (w : World) (h : Raw w A c xs) (g : Raw w B d ys) :
    Calls Tryd.prog 48 #[.agg #[.bool n1, .slice A xs.length c], .agg #[.bool n2, .slice B ys.length d]] w (RetInt w.heap.size w z) := by
  have hc := h.cap
  have hm := h.most
  have hd := g.cap
  have hn := g.most
  have px := ((Pair.new w 24 (.bool n1) (.slice A xs.length c)).alloc (.cells #[.bool n2, .slice B ys.length d] 24)).alloc (.cells #[.bool false, .slice none 0 0] 24)
  have py := (Pair.new (w.alloc (.cells #[.bool n1, .slice A xs.length c] 24)) 24 (.bool n2) (.slice B ys.length d)).alloc (.cells #[.bool false, .slice none 0 0] 24)
  have pr := Pair.new ((w.alloc (.cells #[.bool n1, .slice A xs.length c] 24)).alloc (.cells #[.bool n2, .slice B ys.length d] 24)) 24 (.bool false) (.slice none 0 0)
  have rx := (((h.alloc (.cells #[.bool n1, .slice A xs.length c] 24)).alloc (.cells #[.bool n2, .slice B ys.length d] 24)).alloc (.cells #[.bool false, .slice none 0 0] 24))
  have ry := (((g.alloc (.cells #[.bool n1, .slice A xs.length c] 24)).alloc (.cells #[.bool n2, .slice B ys.length d] 24)).alloc (.cells #[.bool false, .slice none 0 0] 24))
  have b0 := (((Below.refl w.heap.size w).alloc (Nat.le_refl _) (.cells #[.bool n1, .slice A xs.length c] 24)).alloc (by simp) (.cells #[.bool n2, .slice B ys.length d] 24)).alloc (by simp; omega) (.cells #[.bool false, .slice none 0 0] 24)
  simp only [World.size_alloc] at py pr
  clear h g
  obtain ⟨i0, hi, hz0, hz1, hz2⟩ := info_parts limbInfo
  have hmk : ∀ W : World, (Instr.makeSlice 22 (.int .i64 ((xs.length : Int) + (ys.length : Int))) (.int .i64 ((xs.length : Int) + (ys.length : Int)))).run Tryd.prog W = .ok (.slice (some ⟨W.heap.size, 0, none⟩) (xs.length + ys.length) (xs.length + ys.length)) (W.alloc (.cells (madeCells #[.int .u32 0] (xs.length + ys.length)) 40)) := fun W => by
    have h := run_make_rowN (P := Tryd.prog) 22 40 i0 _ Tryd.underlying22 hi hz0 .i64 .i64 (xs.length + ys.length) (xs.length + ys.length) (by omega) (by rw [hz2]; omega) (by omega) W
    rw [show ((xs.length + ys.length : Nat) : Int) = (xs.length : Int) + (ys.length : Int) by omega, hz1, Nat.mul_one] at h
    exact h
  go_enter Tryd.func48, Tryd.ntmps48
  go_wp2_with fail
  obtain ⟨W, E⟩ : ∃ W, W = ((w.alloc (.cells #[.bool n1, .slice A xs.length c] 24)).alloc (.cells #[.bool n2, .slice B ys.length d] 24)).alloc (.cells #[.bool false, .slice none 0 0] 24) := ⟨_, rfl⟩
  rw [← E] at px py pr b0 rx ry ⊢
  clear E
  obtain ⟨l1, x0, x1, -, -⟩ := px.facts
  obtain ⟨l2, y0, y1, -, -⟩ := py.facts
  have PX := Hd px
  have PY := Hd py
  have PR := Hd pr
  have RX := Hd rx
  have RY := Hd ry
  have B0 := Hd b0
  clear px py pr rx ry b0
  go_quiet (fail)
  have I0 : Mid W ((W.drewN nq).alloc (.cells (madeCells #[.int .u32 0] (xs.length + ys.length)) 40)) W.heap.size (xs.length + ys.length) (List.replicate (xs.length + ys.length) 0) (0 + ys.length) :=
    ⟨by simp, limbs_noughts _, Row.made (W.drewN nq) _, (below_drewN (Below.refl _ _) nq).alloc (Nat.le_refl _) _, fun k _ => at0_noughts _ _⟩
  have J0 : val (List.replicate (xs.length + ys.length) 0) = val (xs.take 0) * val ys := by simp [val_noughts, val]
  have H0 := Hd (⟨_, I0, J0⟩ : ∃ zs, Mid W ((W.drewN nq).alloc (.cells (madeCells #[.int .u32 0] (xs.length + ys.length)) 40)) W.heap.size (xs.length + ys.length) zs (0 + ys.length) ∧ val zs = val (xs.take 0) * val ys)
  clear I0 J0 l1 x0 x1 l2 y0 y1
  go_wp2_with fail
  clear hmk
  go_loopw [25] (fun s wr => ∃ i : Nat, s = .int .i64 i ∧ i ≤ xs.length ∧ Hid (∃ zs, Mid W wr W.heap.size (xs.length + ys.length) zs (i + ys.length) ∧ val zs = val (xs.take i) * val ys)) (fun s _ => xs.length - (intOf s).toNat)
  case atStart => exact ⟨0, rfl, Nat.zero_le _, H0⟩
  case round =>
    obtain ⟨i, rfl, hi', HR⟩ := hrel
    clear H0
    obtain ⟨zs0, hmid0, hv0⟩ := HR.out
    have HV0 := Hd hv0
    clear HR hv0
    by_cases hlt : i < xs.length
    · have a0 : (0 : Int) ≤ (i : Int) := by omega
      have a1 : (i : Int) < (xs.length : Int) := by omega
      obtain ⟨ad, rfl, hbl, hx⟩ := (RX.out.below hmid0.low).reads.get hlt
      have hbx := Hd (limbs_get RX.out.limbs hlt)
      generalize hxe : xs[i] = x at hx hbx
      have HXE := Hd hxe
      clear hxe
      have H1 := Hd (⟨zs0, hmid0, by simp [val]⟩ : ∃ zs, Mid W wr W.heap.size (xs.length + ys.length) zs (i + ys.length) ∧ val zs + 4294967296 ^ (i + 0) * 0 = val zs0 + 4294967296 ^ i * (x * val (ys.take 0)))
      clear hmid0 hbl
      go_wp2_with fail
      go_loopw [10, 32] (fun t s wr => ∃ k cc : Nat, s = .int .i64 k ∧ t = .int .u64 cc ∧ cc < 4294967296 ∧ k ≤ ys.length ∧ Hid (∃ zs, Mid W wr W.heap.size (xs.length + ys.length) zs (i + ys.length) ∧ val zs + 4294967296 ^ (i + k) * cc = val zs0 + 4294967296 ^ i * (x * val (ys.take k)))) (fun _ s _ => ys.length - (intOf s).toNat)
      case atStart => exact ⟨0, 0, rfl, rfl, by omega, Nat.zero_le _, H1⟩
      case round =>
        obtain ⟨k, cc, rfl, rfl, hcc, hk', HR⟩ := hrel
        clear H1 hx
        obtain ⟨zs, hmid, hv⟩ := HR.out
        have HV := Hd hv
        clear HR hv
        by_cases hlk : k < ys.length
        · have e0 : (0 : Int) ≤ (k : Int) := by omega
          have e1 : (k : Int) < (ys.length : Int) := by omega
          have e2 : (0 : Int) ≤ (i : Int) + (k : Int) := by omega
          have e3 : (i : Int) + (k : Int) < (xs.length : Int) + (ys.length : Int) := by omega
          have hmk : i + k < zs.length := by rw [hmid.len]; omega
          obtain ⟨bd, rfl, hbl, hy⟩ := (RY.out.below hmid.low).reads.get hlk
          have hby := limbs_get RY.out.limbs hlk
          have fz := hmid.row.frozen (i + k)
          have hcell := hmid.row.cell hmk
          have hbo := limbs_get hmid.limbs hmk
          generalize hye : ys[k] = y at hy hby
          generalize hze : zs[i + k] = o at hcell hbo
          obtain ⟨hb1, hb2⟩ := mul_bound hbx.out hby hbo hcc
          have S := Hd (⟨zs.set (i + k) ((cc + x * y + o) % 4294967296), hmid.set (Nat.le_refl _) (by omega) (Nat.mod_lt _ (by omega)), by
            rw [show i + (k + 1) = i + k + 1 by omega, mul_step hmk HV.out (x * y) (cc + x * y + o) (by rw [hze]), val_take_more hlk, hye, Nat.pow_add]
            grind⟩ : ∃ zs', Mid W (wr.setCell ⟨W.heap.size, i + k, none⟩ (.int .u32 (((cc + x * y + o) % 4294967296 : Nat) : Int))) W.heap.size (xs.length + ys.length) zs' (i + ys.length) ∧ val zs' + 4294967296 ^ (i + (k + 1)) * ((cc + x * y + o) / 4294967296) = val zs0 + 4294967296 ^ i * (x * val (ys.take (k + 1))))
          clear hmid hmk hye hze hbl
          go_wp2_with fail
          have e : IntKind.u64.wrap ((cc : Int) + IntKind.u64.wrap (IntKind.u64.wrap (IntKind.u64.wrap (x : Int) * (y : Int)) + (o : Int))) = ((cc + x * y + o : Nat) : Int) := by
            have hx1 := hbx.out
            have hx2 : (x : Int) % 18446744073709551616 = x := by omega
            have hp : (x : Int) * (y : Int) = ((x * y : Nat) : Int) := (Int.natCast_mul x y).symm
            simp only [IntKind.wrap_u64]
            rw [hx2, hp]
            generalize x * y = p at hb1
            omega
          rw [e, show ((cc + x * y + o : Nat) : Int) / 4294967296 = (((cc + x * y + o) / 4294967296 : Nat) : Int) by omega, show ((cc + x * y + o : Nat) : Int) % 4294967296 = (((cc + x * y + o) % 4294967296 : Nat) : Int) by omega]
          go_roundw
          case rel => exact ⟨k + 1, _, by go_num, rfl, hb2, hlk, S⟩
          case measure => simp [intOf]; omega
        · obtain rfl : k = ys.length := by omega
          have hmk : i + ys.length < zs.length := by rw [hmid.len]; omega
          have e2 : (0 : Int) ≤ (i : Int) + (ys.length : Int) := by omega
          have e3 : (i : Int) + (ys.length : Int) < (xs.length : Int) + (ys.length : Int) := by omega
          have hcc2 : (cc : Int) < 4294967296 := by omega
          have fz := hmid.row.frozen (i + ys.length)
          have hcell := hmid.row.cell hmk
          have hze : zs[i + ys.length] = 0 := by rw [← at0_lt hmk]; exact hmid.nought _ (Nat.le_refl _)
          rw [hze] at hcell
          have S := Hd (⟨zs.set (i + ys.length) cc, by rw [show i + 1 + ys.length = i + ys.length + 1 by omega]; exact hmid.more.set (Nat.le_refl _) (by omega) hcc, by
            rw [mul_last hmk HV.out hze, HV0.out, List.take_length, val_take_more hlt, HXE.out]
            grind⟩ : ∃ zs', Mid W (wr.setCell ⟨W.heap.size, i + ys.length, none⟩ (.int .u32 (cc : Int))) W.heap.size (xs.length + ys.length) zs' (i + 1 + ys.length) ∧ val zs' = val (xs.take (i + 1)) * val ys)
          clear hmid hmk hze
          go_wp2_with fail
          go_roundw
          case rel => exact ⟨i + 1, by go_num, hlt, S⟩
          case measure => simp [intOf]; omega
    · obtain rfl : i = xs.length := by omega
      have hown := hmid0.row.ownL (base := W.heap.size) (Nat.le_refl _) (by rw [hmid0.len]; omega) hmid0.limbs
      have hv1 := HV0.out
      rw [List.take_length] at hv1
      rw [hv1, hmid0.len] at hown
      have px := PX.out.below hmid0.low
      have py := PY.out.below hmid0.low
      obtain ⟨l1, x0, x1, -, -⟩ := px.facts
      obtain ⟨l2, y0, y1, -, -⟩ := py.facts
      have C := fun (V : World) (hV : V = wr) => exact_signed_own (n1 != n2) _ _ _ _ V (hV ▸ hown)
      rw [← HZV.out] at C
      have H1 := Hd (C wr rfl)
      have pr := PR.out.below hmid0.low
      have B1 := belowTo B0.out hmid0.low
      have hsz := B0.out.size
      have hlr := PR.out.blk.lt
      clear hown px py C
      go_wp2_with fail
      refine H1.out.mono ?_
      rintro e w1 ⟨v, rfl, hI, hb⟩
      obtain ⟨A1, c1, hv, _⟩ := hI.form
      have hI2 := hI
      rw [hv] at hI2 ⊢
      have pr := pr.below hb
      have B2 := belowTo B1 hb
      obtain ⟨hl, k0, k1, f0, f1⟩ := pr.facts
      clear H1 hv hI l1 x0 x1 l2 y0 y1 hb
      go_wp2_with fail
      have hq := pr.store (.bool (decide (z < 0))) (.slice A1 (natL z.natAbs).length c1)
      obtain ⟨_, k0, k1, _, _⟩ := hq.facts
      exact bodyPost_ret (by simp [results, Tryd.results48, go_sem, k0, k1]) rfl ⟨_, rfl, (hI2.pair (by omega)).base hsz, below2 B2 (by omega) _ _⟩
/- mul, times of the references: what they count. -/

theorem Mid.drewN {w0 wr : World} {g L : Nat} {zs : List Nat} {top : Nat} (h : Mid w0 wr g L zs top) (n : Nat) : Mid w0 (wr.drewN n) g L zs top :=
  ⟨h.len, h.limbs, ⟨h.row.blk.drewN n⟩, below_drewN h.low n, h.nought⟩

end Go.Proofs.YtbdliabfdplohaaDoor
