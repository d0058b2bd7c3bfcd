/- MatPowers: the walk. -/
import Derived.Test.YtalalbhhlbeghaaAtS
import Derived.Test.YtalalbhhlbeghaaWrapPow
import Derived.Test.YtalalbhhlbeghaaSmallPow
import Derived.Test.YtalalbhhlbeghaaMonoid
import Derived.Deep.DeepCutAuto
namespace Go.Proofs.Ytalalbhhlbeghaa
open Go.RowKit

theorem wrpCells_more (x : M4) (n : Nat) : wrpCells (List.replicate n x) ++ [.int .i64 x.a, .int .i64 x.b, .int .i64 x.c, .int .i64 x.d] = wrpCells (List.replicate (n + 1) x) := by
  rw [List.replicate_succ']; simp [wrpCells]
theorem pow_nought {x : M4} (hx : x.ok) (w : World) : Calls Try.prog 16 #[wrpV M4.one, wrpV x, .int .u64 0] w fun e w' => e = .returned (wrpV M4.one) ∧ Below w.heap.size w w' := by
  have h := wrp_Power4 M4.one x 0 (by omega) w
  rw [M4.tw_pow hx 0 (by omega), M4.tw_nought] at h
  exact h
theorem pow_one {x : M4} (hx : x.ok) (w : World) : Calls Try.prog 16 #[wrpV M4.one, wrpV x, .int .u64 1] w fun e w' => e = .returned (wrpV x) ∧ Below w.heap.size w w' := by
  have h := wrp_Power4 M4.one x 1 (by omega) w
  rw [M4.tw_pow hx 1 (by omega), M4.tw_one hx] at h
  exact h
theorem wrpCells_snoc (l : List M4) (n : Nat) (h : n < l.length) : wrpCells (l.take (n + 1)) = wrpCells (l.take n) ++ [.int .i64 l[n].a, .int .i64 l[n].b, .int .i64 l[n].c, .int .i64 l[n].d] := by
  unfold wrpCells
  rw [List.take_succ_eq_append_getElem h, List.flatMap_append]; rfl
theorem wrpCells_both (l more : List M4) (n : Nat) (h : n < more.length) : wrpCells (l ++ more.take (n + 1)) = wrpCells (l ++ more.take n) ++ [.int .i64 more[n].a, .int .i64 more[n].b, .int .i64 more[n].c, .int .i64 more[n].d] := by
  unfold wrpCells
  rw [List.take_succ_eq_append_getElem h, ← List.append_assoc, List.flatMap_append]; rfl
theorem matInfo : (Try.prog.info? 26).map (fun i => (i.zero, i.size, i.bytes)) = some (some (.agg #[.int .i64 0, .int .i64 0, .int .i64 0, .int .i64 0]), 4, 32) := by kernel_rfl

set_option maxRecDepth 100000 in
set_option maxHeartbeats 1000000 in
theorem powers_true (x : M4) (hx : x.ok) (j k : Nat) (hj : j ≤ 18446744073709551615) (hk : k ≤ 18446744073709551615) (A B : Option Addr) (cA cB : Nat) (l more : List M4)
    (hl : l.length ≤ 9223372036854775807) (hm : more.length ≤ 9223372036854775807) (w : World) (hrl : Reads w w.heap.size 4 A l.length (wrpCells l)) (hrm : Reads w w.heap.size 4 B more.length (wrpCells more)) :
    Calls Try.prog 4 #[mv x, .int .u64 j, .int .u64 k, .slice A l.length cA, .slice B more.length cB] w fun e w' => e = .returned (.bool true) ∧ Below w.heap.size w w' := by
  have HL := Lib.hid hrl
  have HM := Lib.hid hrm
  clear hrl hrm
  go_enter Try.func4, Try.ntmps4
  go_wp2_with fail
  refine (wrap_Wrap x _).mono ?_; rintro e w1 ⟨rfl, hb⟩
  have X1 := (At.new w x 23).below hb
  have B1 := bfirst hb
  clear hb
  go_wp2_with fail
  refine (wrap_Wrap0 1 0 0 1 _).mono ?_; rintro e w2 ⟨rfl, hb⟩
  have B2 := bstep B1 hb
  have X2 := X1.step hb
  have x2 := (At.new w1 x 26).below hb
  clear hb X1 B1
  obtain ⟨q, q0, q1, q2, q3⟩ := id X2
  go_wp2_with fail
  refine (small_Small x _).mono ?_; rintro e w3 ⟨rfl, hb⟩
  have B3 := bstep B2 hb
  have x3 := x2.step hb
  have o3 := (At.new w2 M4.one 26).below hb
  clear hb X2 x2 B2 q q0 q1 q2 q3
  go_wp2_with fail
  refine (small_one _).mono ?_; rintro e w4 ⟨rfl, hb⟩
  have B4 := bstep B3 hb
  have x4 := x3.step hb
  have o4 := o3.step hb
  have s4 := (AtS.new w3 x.low 38).below hb
  clear hb x3 o3 B3
  go_upto_if 34 with fail
  have u4 := AtS.new w4 M4.one 38
  have x5 := x4.alloc (.cells #[.int .i8 M4.one.a, .int .i8 M4.one.b, .int .i8 M4.one.c, .int .i8 M4.one.d] 38)
  have o5 := o4.alloc (.cells #[.int .i8 M4.one.a, .int .i8 M4.one.b, .int .i8 M4.one.c, .int .i8 M4.one.d] 38)
  have s5 := s4.alloc (.cells #[.int .i8 M4.one.a, .int .i8 M4.one.b, .int .i8 M4.one.c, .int .i8 M4.one.d] 38)
  have B5 := Below.alloc B4 B4.size (.cells #[.int .i8 M4.one.a, .int .i8 M4.one.b, .int .i8 M4.one.c, .int .i8 M4.one.d] 38)
  obtain ⟨w5, E5⟩ : ∃ W, W = w4.alloc (.cells #[.int .i8 M4.one.a, .int .i8 M4.one.b, .int .i8 M4.one.c, .int .i8 M4.one.d] 38) := ⟨_, rfl⟩
  rw [← E5] at u4 x5 o5 s5 B5 ⊢
  clear E5 x4 o4 s4 B4
  go_cut [10] (fun r W => r = .bool false ∧ Below w.heap.size w W ∧ At W w1.heap.size x ∧ At W w2.heap.size M4.one)
  case first =>
    by_cases hjk : j + k ≤ 18446744073709551615
    · have hjk' : (j : Int) + (k : Int) ≤ 18446744073709551615 := by omega
      have hd : decide ((j : Int) ≤ IntKind.u64.wrap ((j : Int) + (k : Int))) = true := by
        rw [IntKind.wrap_u64]; simp; omega
      have hw : IntKind.u64.wrap ((j : Int) + (k : Int)) = (j : Int) + (k : Int) := by rw [IntKind.wrap_u64]; omega
      have C1 := wrp_Power4 M4.one x j hj
      rw [M4.tw_pow hx j hj] at C1
      have C2 := wrp_Power4 M4.one x k hk
      rw [M4.tw_pow hx k hk] at C2
      have C3 := wrap_Mul (M4.tw x j) (M4.tw x k)
      rw [M4.tw_add] at C3
      have C4 := wrp_Power4 M4.one x (j + k) hjk
      rw [M4.tw_pow hx _ hjk, Int.natCast_add] at C4
      have D1 := small_Power4 M4.one x.low j hj
      rw [M4.ts_pow x.low_ok j hj] at D1
      have D2 := small_Power4 M4.one x.low k hk
      rw [M4.ts_pow x.low_ok k hk] at D2
      have D3 := small_Mul4 (M4.ts x.low j) (M4.ts x.low k)
      rw [M4.ts_add] at D3
      have D4 := small_Power4 M4.one x.low (j + k) hjk
      rw [M4.ts_pow x.low_ok _ hjk, Int.natCast_add] at D4
      have H1 := Lib.hid C1
      have H2 := Lib.hid C2
      have H3 := Lib.hid C3
      have H4 := Lib.hid C4
      have G1 := Lib.hid D1
      have G2 := Lib.hid D2
      have G3 := Lib.hid D3
      have G4 := Lib.hid D4
      clear C1 C2 C3 C4 D1 D2 D3 D4
      obtain ⟨lx, a0, a1, a2, a3⟩ := id x5
      obtain ⟨lo, o0, o1, o2, o3⟩ := id o5
      obtain ⟨ls, s0, s1, s2, s3⟩ := id s5
      obtain ⟨lu, v0, v1, v2, v3⟩ := id u4
      go_wp2_with fail
      go_region_held3 (fun w' => Below w5.heap.size w5 w' ∧ ∀ b o, b < w5.heap.size → w'.cell? ⟨b, o, none⟩ = w5.cell? ⟨b, o, none⟩)
        (first
          | exact ⟨(Below.refl _ _).drew, fun _ _ _ => rfl⟩
          | (obtain ⟨q, _⟩ := ‹Below w5.heap.size w5 _ ∧ _›; have q' := belowStep q hbx; exact ⟨q', fun b o h => q'.cell (p := ⟨b, o, none⟩) h⟩))
        (first
          | (go_at_call 16; with_reducible refine (H1.out _).mono ?_; rintro e wx ⟨rfl, hbx⟩)
          | (go_at_call 16; with_reducible refine (H2.out _).mono ?_; rintro e wx ⟨rfl, hbx⟩)
          | (go_at_call 10; with_reducible refine (H3.out _).mono ?_; rintro e wx ⟨rfl, hbx⟩)
          | (go_at_call 16; with_reducible refine (H4.out _).mono ?_; rintro e wx ⟨rfl, hbx⟩)
          | (go_at_call 18; with_reducible refine (G1.out _).mono ?_; rintro e wx ⟨rfl, hbx⟩)
          | (go_at_call 18; with_reducible refine (G2.out _).mono ?_; rintro e wx ⟨rfl, hbx⟩)
          | (go_at_call 17; with_reducible refine (G3.out _).mono ?_; rintro e wx ⟨rfl, hbx⟩)
          | (go_at_call 18; with_reducible refine (G4.out _).mono ?_; rintro e wx ⟨rfl, hbx⟩))
      obtain ⟨q, _⟩ := ‹Below w5.heap.size w5 _ ∧ _›
      go_wp2_with fail
      go_meet
      exact ⟨rfl, belowStep B5 q, x5.below q, o5.below q⟩
    · have hd : IntKind.u64.wrap ((j : Int) + (k : Int)) < (j : Int) := by
        rw [IntKind.wrap_u64]; omega
      go_wp2_with fail
      go_meet
      exact ⟨rfl, B5, x5, o5⟩
  case rest =>
    obtain ⟨rfl, B6, x6, o6⟩ := hcut
    clear x5 o5 s5 u4 B5
    go_wp2_with fail
    obtain ⟨i0, hi, hz0, hz1, hz2⟩ := info_parts matInfo
    go_loopw [15, 16] (fun v i wr => ∃ n : Nat, i = .int .u64 n ∧ n ≤ j % 65 ∧ wr.ownsRow wc.heap.size 26 4 v n (wrpCells (List.replicate n x)) ∧ Below wc.heap.size wc wr) (fun _ i _ => j % 65 - (intOf i).toNat)
    case atStart => exact ⟨0, rfl, Nat.zero_le _, World.ownsRow_nil _ _ _ _, Below.refl _ _⟩
    case round =>
      obtain ⟨n, rfl, hn, hown, hb⟩ := hrel
      by_cases hlt : n < j % 65
      · obtain ⟨lx, a0, a1, a2, a3⟩ := x6.below hb
        have HX := Lib.hid x6
        have HO := Lib.hid o6
        have HB := Lib.hid B6
        clear x6 o6 B6
        have hbs := hb.size
        go_wp2_with (at_builtin; refine wpList_append_own _ rfl (.tmp 75) (.tmp 77) _ rfl wc.heap.size 26 i0 _ 4 32 Try.underlying43 hi hz0 hz1 hz2 rfl (by omega) _ n _ rfl (hown.alloc _) ⟨wr.heap.size, 0, none⟩ 1 1 [.int .i64 x.a, .int .i64 x.b, .int .i64 x.c, .int .i64 x.d] rfl rfl (World.news_of_block (heap_alloc_new wr _)) (by simp [Value.oneCell']) (by unfold maxLen; omega) (by omega) (by simp; omega) ?_; intro v' w7 hown' hgrow _)
        have hb7 := (hb.alloc hbs _).grown hgrow (by simp; omega) (fun g hg => ((hown.alloc (.cells #[.int .i64 x.a, .int .i64 x.b, .int .i64 x.c, .int .i64 x.d] 26)).lt g hg).1)
        go_roundw
        case rel => exact ⟨n + 1, by go_num, hlt, by rw [wrpCells_more] at hown'; exact hown', hb7⟩
        case measure => simp [intOf]; omega
      · obtain rfl : n = j % 65 := by omega
        obtain ⟨A1, c1, hv⟩ := own_form (by omega) hown
        subst hv
        have hreads := Reads.of_own hown
        have B7 := belowStep B6 hb
        have X7 := x6.below hb
        have O7 := o6.below hb
        clear hb B6 x6 o6 hown
        go_wp2_with fail
        have hm65 : ((j % 65 : Nat) : Int) = (j : Int).tmod 65 := by rw [Int.tmod_eq_emod_of_nonneg (by omega)]; omega
        have C1 := fun (W : World) (hW : Below wr.heap.size wr W) => wrp_Chain4 M4.one A1 c1 (List.replicate (j % 65) x) (by simp; omega) W (by rw [List.length_replicate]; exact (hreads.below hW).more hW.size)
        rw [List.length_replicate, M4.tw_chain] at C1
        have C2 := wrp_Power4 M4.one x (j % 65) (by omega)
        rw [M4.tw_pow hx _ (by omega), hm65] at C2
        have C3 := pow_nought hx
        have C4 := pow_one hx
        have H1 := Lib.hid C1
        have H2 := Lib.hid C2
        have H3 := Lib.hid C3
        have H4 := Lib.hid C4
        clear C1 C2 C3 C4 hm65
        obtain ⟨lx, a0, a1, a2, a3⟩ := id X7
        obtain ⟨lo, o0, o1, o2, o3⟩ := id O7
        go_region_held3 (fun w' => Below wr.heap.size wr w' ∧ ∀ b o, b < wr.heap.size → w'.cell? ⟨b, o, none⟩ = wr.cell? ⟨b, o, none⟩)
          (first
            | exact ⟨(Below.refl _ _).drew, fun _ _ _ => rfl⟩
            | (obtain ⟨q, _⟩ := ‹Below wr.heap.size wr _ ∧ _›; have q' := belowStep q hbx; exact ⟨q', fun b o h => q'.cell (p := ⟨b, o, none⟩) h⟩))
          (first
            | (go_at_call 19; with_reducible refine (H1.out _ ?_).mono ?_; exact (‹Below wr.heap.size wr _ ∧ _›).1; rintro e wx ⟨rfl, hbx⟩)
            | (go_at_call 16; with_reducible refine (H2.out _).mono ?_; rintro e wx ⟨rfl, hbx⟩)
            | (go_at_call 16; with_reducible refine (H3.out _).mono ?_; rintro e wx ⟨rfl, hbx⟩)
            | (go_at_call 16; with_reducible refine (H4.out _).mono ?_; rintro e wx ⟨rfl, hbx⟩))
        obtain ⟨q, _⟩ := ‹Below wr.heap.size wr _ ∧ _›
        obtain ⟨w8, E8⟩ : ∃ W, W = wx := ⟨wx, rfl⟩
        rw [← E8] at q ⊢
        clear hbx E8
        have B8 := belowStep B7 q
        have O8 := O7.below q
        clear lx a0 a1 a2 a3 lo o0 o1 o2 o3 B7 X7 O7 q H1 H2 H3 H4 hreads
        have hb8 := B8.size
        by_cases hl1 : l.length ≤ 65536
        · by_cases hm1 : more.length ≤ 65536
          · go_wp2_with fail
            have I8 : Two w8 w8.heap.size 26 4 (.slice none 0 0) 0 (wrpCells (l.take 0)) 26 4 (.slice none 0 0) 0 (wrpCells (l.take 0)) := ⟨World.ownsRow_nil _ _ _ _, World.ownsRow_nil _ _ _ _, fun g h => by simp [Value.ownBlock] at h⟩
            go_loopw [17, 19, 20] (fun v1 v2 i wr => ∃ n : Nat, i = .int .i64 n ∧ n ≤ l.length ∧ Two wr w8.heap.size 26 4 v1 n (wrpCells (l.take n)) 26 4 v2 n (wrpCells (l.take n)) ∧ Below w8.heap.size w8 wr) (fun _ _ i _ => l.length - (intOf i).toNat)
            case atStart => exact ⟨0, rfl, Nat.zero_le _, I8, Below.refl _ _⟩
            case round =>
              obtain ⟨n, rfl, hn, htwo, hb⟩ := hrel
              clear I8
              by_cases hlt : n < l.length
              · obtain ⟨e0, e1, e2, e3⟩ := flat4 (fun m : M4 => Value.int .i64 m.a) (fun m => .int .i64 m.b) (fun m => .int .i64 m.c) (fun m => .int .i64 m.d) l n hlt
                have HE0 := Lib.hid e0
                have HE1 := Lib.hid e1
                have HE2 := Lib.hid e2
                have HE3 := Lib.hid e3
                clear e0 e1 e2 e3
                obtain ⟨ad, rfl, had, c0, c1, c2, c3⟩ := (HL.out.below (belowStep B8 hb)).row4 hlt HE0.out HE1.out HE2.out HE3.out
                have hsz := hb.size
                go_wp2_with fail
                refine (wrap_Wrap l[n] _).mono ?_; rintro e w9 ⟨rfl, hb9⟩
                have T9 := (htwo.below hb9).alloc (.cells #[.int .i64 l[n].a, .int .i64 l[n].b, .int .i64 l[n].c, .int .i64 l[n].d] 26)
                have D9 := belowTo hb hb9
                have D10 := Below.alloc D9 D9.size (.cells #[.int .i64 l[n].a, .int .i64 l[n].b, .int .i64 l[n].c, .int .i64 l[n].d] 26)
                have hz9 := D9.size
                clear c0 c1 c2 c3 hb9 hb htwo
                go_wp2_with (at_builtin; refine wpList_append_any _ rfl (.tmp 117) (.tmp 123) _ rfl w8.heap.size 26 i0 _ 4 32 Try.underlying43 hi hz0 hz1 hz2 rfl (by omega) _ n _ rfl T9.one _ (some ⟨w9.heap.size, 0, none⟩) 1 1 [.int .i64 l[n].a, .int .i64 l[n].b, .int .i64 l[n].c, .int .i64 l[n].d] rfl (Reads.new1 w9 _ 4 _ rfl) (by simp [Value.oneCell']) (by unfold maxLen; omega) (by omega) (by simp; omega) ?_; intro v1' w11 ho11 hg11 hat11; have T11 := T9.more ho11 hg11 hat11; have D11 := below_more T9.one D10 (Nat.le_refl _) D10.size hg11; obtain ⟨ad', hq, had', c0, c1, c2, c3⟩ := (HL.out.below (belowStep B8 D11)).row4 hlt HE0.out HE1.out HE2.out HE3.out; obtain rfl := Option.some.inj hq; clear T9 D9 D10 ho11 hg11 hat11 hz9 hq had')
                refine (wrap_Wrap l[n] _).mono ?_; rintro e w12 ⟨rfl, hb12⟩
                have T12 := ((T11.below hb12).alloc (.cells #[.int .i64 l[n].a, .int .i64 l[n].b, .int .i64 l[n].c, .int .i64 l[n].d] 26)).swap
                have D12 := belowTo D11 hb12
                have D13 := Below.alloc D12 D12.size (.cells #[.int .i64 l[n].a, .int .i64 l[n].b, .int .i64 l[n].c, .int .i64 l[n].d] 26)
                have hz12 := D12.size
                clear c0 c1 c2 c3 hb12 D11 T11
                go_wp2_with (at_builtin; refine wpList_append_any _ rfl (.tmp 125) (.tmp 131) _ rfl w8.heap.size 26 i0 _ 4 32 Try.underlying43 hi hz0 hz1 hz2 rfl (by omega) _ n _ rfl T12.one _ (some ⟨w12.heap.size, 0, none⟩) 1 1 [.int .i64 l[n].a, .int .i64 l[n].b, .int .i64 l[n].c, .int .i64 l[n].d] rfl (Reads.new1 w12 _ 4 _ rfl) (by simp [Value.oneCell']) (by unfold maxLen; omega) (by omega) (by simp; omega) ?_; intro v2' w14 ho14 hg14 hat14; have T14 := (T12.more ho14 hg14 hat14).swap; have D14 := below_more T12.one D13 (Nat.le_refl _) D13.size hg14; clear T12 D12 D13 ho14 hg14 hat14 hz12)
                rw [← wrpCells_snoc l n hlt] at T14
                go_roundw
                case rel => exact ⟨n + 1, by go_num, hlt, T14, D14⟩
                case measure => simp [intOf]; omega
              · obtain rfl : n = l.length := by omega
                rw [List.take_length] at htwo
                obtain ⟨A2, c2, hv⟩ := own_form (by omega) htwo.one
                subst hv
                have hT0 : Three wr w8.heap.size 26 4 (.slice A2 l.length c2) l.length (wrpCells l) (.slice none 0 0) 0 (wrpCells (more.take 0)) u19 (l.length + 0) (wrpCells (l ++ more.take 0)) := by
                  refine ⟨⟨htwo.one, World.ownsRow_nil _ _ _ _, fun g _ h => by simp [Value.ownBlock] at h⟩, ⟨htwo.one, ?_, htwo.apart⟩, ⟨World.ownsRow_nil _ _ _ _, ?_, fun g h => by simp [Value.ownBlock] at h⟩⟩
                  · simpa using htwo.two
                  · simpa using htwo.two
                have B9 := hb
                clear htwo hb
                go_wp2_with fail
                obtain ⟨wo, Ewo⟩ : ∃ W, W = wr := ⟨wr, rfl⟩
                rw [← Ewo] at hT0 B9 ⊢
                clear Ewo
                go_loopw [18, 19, 21] (fun v1 v2 i wr => ∃ n : Nat, i = .int .i64 n ∧ n ≤ more.length ∧ Three wr w8.heap.size 26 4 (.slice A2 l.length c2) l.length (wrpCells l) v1 n (wrpCells (more.take n)) v2 (l.length + n) (wrpCells (l ++ more.take n)) ∧ Below w8.heap.size w8 wr) (fun _ _ i _ => more.length - (intOf i).toNat)
                case atStart => exact ⟨0, rfl, Nat.zero_le _, hT0, B9⟩
                case round =>
                  obtain ⟨n, rfl, hn, hthree, hb⟩ := hrel
                  clear hT0 B9
                  by_cases hlt : n < more.length
                  · obtain ⟨e0, e1, e2, e3⟩ := flat4 (fun m : M4 => Value.int .i64 m.a) (fun m => .int .i64 m.b) (fun m => .int .i64 m.c) (fun m => .int .i64 m.d) more n hlt
                    have HE0 := Lib.hid e0
                    have HE1 := Lib.hid e1
                    have HE2 := Lib.hid e2
                    have HE3 := Lib.hid e3
                    clear e0 e1 e2 e3
                    obtain ⟨ad, rfl, had, c0, c1, c2, c3⟩ := (HM.out.below (belowStep B8 hb)).row4 hlt HE0.out HE1.out HE2.out HE3.out
                    have hsz := hb.size
                    go_wp2_with fail
                    refine (wrap_Wrap more[n] _).mono ?_; rintro e w9 ⟨rfl, hb9⟩
                    have T9 := ((hthree.below hb9).alloc (.cells #[.int .i64 more[n].a, .int .i64 more[n].b, .int .i64 more[n].c, .int .i64 more[n].d] 26)).rot
                    have D9 := belowTo hb hb9
                    have D10 := Below.alloc D9 D9.size (.cells #[.int .i64 more[n].a, .int .i64 more[n].b, .int .i64 more[n].c, .int .i64 more[n].d] 26)
                    have hz9 := D9.size
                    clear c0 c1 c2 c3 hb9 hb hthree
                    go_wp2_with (at_builtin; refine wpList_append_any _ rfl (.tmp 139) (.tmp 145) _ rfl w8.heap.size 26 i0 _ 4 32 Try.underlying43 hi hz0 hz1 hz2 rfl (by omega) _ n _ rfl T9.a.one _ (some ⟨w9.heap.size, 0, none⟩) 1 1 [.int .i64 more[n].a, .int .i64 more[n].b, .int .i64 more[n].c, .int .i64 more[n].d] rfl (Reads.new1 w9 _ 4 _ rfl) (by simp [Value.oneCell']) (by unfold maxLen; omega) (by omega) (by simp; omega) ?_; intro v1' w11 ho11 hg11 hat11; have T11 := T9.more ho11 hg11 hat11; have D11 := below_more T9.a.one D10 (Nat.le_refl _) D10.size hg11; obtain ⟨ad', hq, had', c0, c1, c2, c3⟩ := (HM.out.below (belowStep B8 D11)).row4 hlt HE0.out HE1.out HE2.out HE3.out; obtain rfl := Option.some.inj hq; clear T9 D9 D10 ho11 hg11 hat11 hz9 hq had')
                    refine (wrap_Wrap more[n] _).mono ?_; rintro e w12 ⟨rfl, hb12⟩
                    have T12 := ((T11.below hb12).alloc (.cells #[.int .i64 more[n].a, .int .i64 more[n].b, .int .i64 more[n].c, .int .i64 more[n].d] 26)).rot
                    have D12 := belowTo D11 hb12
                    have D13 := Below.alloc D12 D12.size (.cells #[.int .i64 more[n].a, .int .i64 more[n].b, .int .i64 more[n].c, .int .i64 more[n].d] 26)
                    have hz12 := D12.size
                    clear c0 c1 c2 c3 hb12 D11 T11
                    go_wp2_with (at_builtin; refine wpList_append_any _ rfl (.tmp 147) (.tmp 153) _ rfl w8.heap.size 26 i0 _ 4 32 Try.underlying43 hi hz0 hz1 hz2 rfl (by omega) _ (l.length + n) _ rfl T12.a.one _ (some ⟨w12.heap.size, 0, none⟩) 1 1 [.int .i64 more[n].a, .int .i64 more[n].b, .int .i64 more[n].c, .int .i64 more[n].d] rfl (Reads.new1 w12 _ 4 _ rfl) (by simp [Value.oneCell']) (by unfold maxLen; omega) (by omega) (by simp; omega) ?_; intro v2' w14 ho14 hg14 hat14; have T14 := (T12.more ho14 hg14 hat14).rot; have D14 := below_more T12.a.one D13 (Nat.le_refl _) D13.size hg14; clear T12 D12 D13 ho14 hg14 hat14 hz12)
                    rw [← wrpCells_snoc more n hlt, ← wrpCells_both l more n hlt] at T14
                    go_roundw
                    case rel => exact ⟨n + 1, by go_num, hlt, T14, D14⟩
                    case measure => simp [intOf]; omega
                  · obtain rfl : n = more.length := by omega
                    rw [List.take_length] at hthree
                    obtain ⟨A3, c3, hv3⟩ := own_form (by omega) hthree.a.two
                    obtain ⟨A4, c4, hv4⟩ := own_form (by omega) hthree.b.two
                    subst hv3
                    subst hv4
                    have R2 := Reads.of_own hthree.a.one
                    have R3 := Reads.of_own hthree.a.two
                    have R4 := Reads.of_own hthree.b.two
                    have B9 := belowStep B8 hb
                    have O9 := O8.below hb
                    clear hthree hb
                    go_wp2_with fail
                    have C1 := fun (W : World) (hW : Below wr.heap.size wr W) => wrp_Chain4 M4.one A4 c4 (l ++ more) (by simp; omega) W (by rw [List.length_append]; exact (R4.below hW).more hW.size)
                    rw [List.length_append] at C1
                    have C2 := fun (W : World) (hW : Below wr.heap.size wr W) => wrp_Chain4 M4.one A3 c3 more (by omega) W ((R3.below hW).more hW.size)
                    have C3 := fun (W : World) (hW : Below wr.heap.size wr W) => wrp_Chain4 M4.one A2 c2 l (by omega) W ((R2.below hW).more hW.size)
                    have C4 := wrap_Mul (M4.gchain wrapR M4.one more) (M4.gchain wrapR M4.one l)
                    rw [M4.cw_behind] at C4
                    have C5 := fun (W : World) (hW : Below wr.heap.size wr W) => wrp_Chain4 (M4.gchain wrapR M4.one l) A3 c3 more (by omega) W ((R3.below hW).more hW.size)
                    rw [← M4.chain_append] at C5
                    have H1 := Lib.hid C1
                    have H2 := Lib.hid C2
                    have H3 := Lib.hid C3
                    have H4 := Lib.hid C4
                    have H5 := Lib.hid C5
                    clear C1 C2 C3 C4 C5 R2 R3 R4
                    obtain ⟨lo, o0, o1, o2, o3⟩ := O9
                    go_region_held3 (fun w' => Below wr.heap.size wr w' ∧ ∀ b o, b < wr.heap.size → w'.cell? ⟨b, o, none⟩ = wr.cell? ⟨b, o, none⟩)
                      (first
                        | exact ⟨(Below.refl _ _).drew, fun _ _ _ => rfl⟩
                        | (obtain ⟨q, _⟩ := ‹Below wr.heap.size wr _ ∧ _›; have q' := belowStep q hbx; exact ⟨q', fun b o h => q'.cell (p := ⟨b, o, none⟩) h⟩))
                      (first
                        | (go_at_call 19; with_reducible refine (H1.out _ ?_).mono ?_; exact (‹Below wr.heap.size wr _ ∧ _›).1; rintro e wx ⟨rfl, hbx⟩)
                        | (go_at_call 19; with_reducible refine (H2.out _ ?_).mono ?_; exact (‹Below wr.heap.size wr _ ∧ _›).1; rintro e wx ⟨rfl, hbx⟩)
                        | (go_at_call 19; with_reducible refine (H3.out _ ?_).mono ?_; exact (‹Below wr.heap.size wr _ ∧ _›).1; rintro e wx ⟨rfl, hbx⟩)
                        | (go_at_call 10; with_reducible refine (H4.out _).mono ?_; rintro e wx ⟨rfl, hbx⟩)
                        | (go_at_call 19; with_reducible refine (H5.out _ ?_).mono ?_; exact (‹Below wr.heap.size wr _ ∧ _›).1; rintro e wx ⟨rfl, hbx⟩)
                        | (go_at_call 14; refine (lives_true _).mono ?_; rintro e wx ⟨rfl, hbx⟩))
                    obtain ⟨q, _⟩ := ‹Below wr.heap.size wr _ ∧ _›
                    go_wp2
                    go_ret
                    exact ⟨rfl, belowStep B9 q⟩
          · have hm2 : (65536 : Int) < (more.length : Int) := by omega
            go_wp2_with (go_at_call 14; refine (lives_true _).mono ?_; rintro e wx ⟨rfl, hbx⟩)
            go_ret
            exact ⟨rfl, belowStep B8 hbx⟩
        · have hl2 : (65536 : Int) < (l.length : Int) := by omega
          go_wp2_with (go_at_call 14; refine (lives_true _).mono ?_; rintro e wx ⟨rfl, hbx⟩)
          go_ret
          exact ⟨rfl, belowStep B8 hbx⟩
end Go.Proofs.Ytalalbhhlbeghaa
