/- Several texts in one: Trim, Signed, Shelf, Of, Bits. -/
import Derived.Test.YtdonecnhdkjniaaGreatDoorGx01
import Derived.Test.YtdonecnhdkjniaaGreatDoorGxHd
import Derived.Test.YtdonecnhdkjniaaGreatDoorProg
import Derived.WalkKit
import Derived.WalkSpells
import Derived.WalkLawsBesides
import Derived.Shelf.Strings.Builder1
import Derived.Shelf.Small.Bits
import Derived.Shelf.Strings.BuilderF
import Derived.Shelf.Strings.BuilderK
import Derived.Shelf.Strconv.Itoa0
import Derived.Shelf.Strconv.Itoa1
import Derived.Shelf.LaysM
import Derived.Shelf.Strconv.Itoa2
import Derived.Shelf.Strconv.Itoa3
import Derived.Lib.BitFns
import Derived.WalkSmall
set_option maxRecDepth 100000
set_option maxHeartbeats 8000000
namespace Go.Proofs.YtdonecnhdkjniaaGreatDoor
open Go.RowKit

def Zh (xs : List Nat) : List Value := xs.map fun x : Nat => .int .u32 (x : Int)
theorem ZI (xs : List Nat) : (Zh xs).length = xs.length := by simp [Zh]
theorem YY {xs : List Nat} {k : Nat} (h : k < xs.length) : (Zh xs)[k]? = some (.int .u32 xs[k]) := by simp [Zh, h]
theorem XR (xs : List Nat) (k : Nat) : Zh (xs.take k) = (Zh xs).take k := by simp [Zh, List.map_take]
abbrev Jg (w : World) (B : Nat) (A : Option Addr) (xs : List Nat) : Prop := ZD w B 1 A xs.length (Zh xs)
theorem Jg.get {w : World} {B : Nat} {A : Option Addr} {xs : List Nat} (h : Jg w B A xs) {k : Nat} (hk : k < xs.length) :
  ∃ ad, A = some ad /\ ad.block < B /\ w.cell? (ad.add k) = some (.int .u32 xs[k]) := by
 obtain ⟨ad, e, hb, hc⟩ := h.2 (by omega)
 exact ⟨ad, e, hb, hc k _ (YY hk)⟩
theorem Jg.take {w : World} {B : Nat} {A : Option Addr} {xs : List Nat} (h : Jg w B A xs) (k : Nat) : Jg w B A (xs.take k) := by
 refine ⟨by rw [ZI]; simp, fun hn => ?_⟩
 obtain ⟨ad, e, hb, hc⟩ := h.2 (by simp at hn; omega)
 refine ⟨ad, e, hb, fun j u hu => hc j u ?_⟩
 rw [XR, List.getElem?_take] at hu
 split at hu
 . exact hu
 . cases hu

def lenOf : Value -> Nat
 | .slice _ k _ => k
 | _ => 0

theorem JL (A : Option Addr) (c : Nat) (xs : List Nat) (hx : Zj xs) (hc : xs.length <= c) (hm : c <= 9223372036854775807) (B : Nat) (w : World) (hr : Jg w B A xs) :
  Calls Tryz.prog 163 #[.slice A xs.length c] w fun e w' => e = .returned (.slice A (Za (val xs)).length c) /\ w = w' := by
 have HR := Hd hr
 have HX := Hd hx
 clear hr hx
 go_enter Tryz.func163, Tryz.ntmps163
 go_wp2_with fail
 go_loop [0] (fun v => ∃ k : Nat, v = .slice A k c /\ k <= xs.length /\ Za (val (xs.take k)) = Za (val xs)) (fun v => lenOf v)
 case atStart => exact ⟨xs.length, rfl, Nat.le_refl _, by rw [List.take_length]⟩
 case round =>
  obtain ⟨k, rfl, hk, hv⟩ := hrel
  have HV := Hd hv
  clear hv
  cases k with
  | zero =>
   go_wp2_with fail
   go_ret
   exact ⟨by rw [<- HV.out]; rfl, rfl⟩
  | succ k =>
   obtain ⟨ad, rfl, -, hcell⟩ := HR.out.get (k := k) (by omega)
   by_cases h0 : xs[k] = 0
   . have HZ := Hd h0
     rw [h0] at hcell
     clear h0
     go_wp2_with fail
     go_round
     case rel => exact ⟨k, rfl, by omega, by rw [<- Jb (by omega) HZ.out]; exact HV.out⟩
     case measure => simp [lenOf]
   . have hb : ((xs[k] : Int) == 0) = false := by simp; omega
     have HZ := Hd h0
     clear h0
     go_wp2_with fail
     go_ret
     refine ⟨?_, rfl⟩
     have e := HV.out
     rw [YU (YG HX.out _) (canon_of_get (by omega) HZ.out)] at e
     rw [<- e, List.length_take, Nat.min_eq_left hk]; rfl
open Go.RowKit

structure Zm (w : World) (A : Option Addr) (c : Nat) (xs : List Nat) : Prop where
 limbs : Zj xs
 cap : xs.length <= c
 most : c <= 9223372036854775807
 reads : Jg w w.heap.size A xs
theorem Zm.below {w w' : World} {A : Option Addr} {c : Nat} {xs : List Nat} (h : Zm w A c xs) (hb : Below w.heap.size w w') : Zm w' A c xs :=
 ⟨h.limbs, h.cap, h.most, (h.reads.below hb).more hb.size⟩
theorem Zm.alloc {w : World} {A : Option Addr} {c : Nat} {xs : List Nat} (h : Zm w A c xs) (o : Obj) : Zm (w.alloc o) A c xs := h.below ((Below.refl _ _).alloc (Nat.le_refl _) o)

theorem XB (neg : Bool) (A : Option Addr) (c : Nat) (xs : List Nat) (w : World) (h : Zm w A c xs) (hv : val xs = 0) :
  Calls Tryz.prog 161 #[.bool neg, .slice A xs.length c] w fun e w' => e = .returned (.agg #[.bool false, .slice none 0 0]) /\ Below w.heap.size w w' := by
 have C := JL A c xs h.limbs h.cap h.most (w.heap.size) (w.alloc (.cells #[.bool false, .slice none 0 0] 24)) (h.reads.alloc (Nat.le_refl _) _)
 rw [hv, Z8, List.length_nil] at C
 have HC := Hd C
 clear C hv
 go_enter Tryz.func161, Tryz.ntmps161
 go_wp2_with (first | (go_at_call 163; with_reducible refine HC.out.mono ?_; rintro e w' ⟨rfl, rfl⟩))
 exact bodyPost_ret (by simp [results, Tryz.results161, go_sem]) rfl ⟨rfl, by repeat (first | exact Below.refl _ _ | apply Below.drew | refine Below.alloc ?_ (by simp; try omega) _)⟩

theorem X4 (neg : Bool) (A : Option Addr) (c : Nat) (xs : List Nat) (w : World) (h : Zm w A c xs) (hv : val xs ≠ 0) :
  Calls Tryz.prog 161 #[.bool neg, .slice A xs.length c] w fun e w' => e = .returned (.agg #[.bool neg, .slice A (Za (val xs)).length c]) /\ Below w.heap.size w w' := by
 have C := JL A c xs h.limbs h.cap h.most (w.heap.size) (w.alloc (.cells #[.bool false, .slice none 0 0] 24)) (h.reads.alloc (Nat.le_refl _) _)
 have hne : (Za (val xs)).length ≠ 0 := fun h0 => hv (Ym.1 (List.eq_nil_of_length_eq_zero h0))
 have hle := YB h.limbs
 have h1 := h.cap
 have h2 := h.most
 have HC := Hd C
 clear C hv h
 generalize (Za (val xs)).length = n at *
 have hb : ((n : Int) == 0) = false := by simp; omega
 go_enter Tryz.func161, Tryz.ntmps161
 go_wp2_with (first | (go_at_call 163; with_reducible refine HC.out.mono ?_; rintro e w' ⟨rfl, rfl⟩))
 exact bodyPost_ret (by simp [results, Tryz.results161, go_sem]) rfl ⟨rfl, by repeat (first | exact Below.refl _ _ | apply Below.drew | refine Below.alloc ?_ (by simp; try omega) _)⟩

structure Zc (w : World) (base : Nat) (v : Value) (x : Int) : Prop where
 form : ∃ A c, v = .agg #[.bool (decide (x < 0)), .slice A (Za x.natAbs).length c] /\ (Za x.natAbs).length <= c /\ c <= 9223372036854775807 /\ w.ownsRow base 109 1 (.slice A (Za x.natAbs).length c) (Za x.natAbs).length (Zh (Za x.natAbs))

theorem Zc.nought (w : World) (base : Nat) : Zc w base (.agg #[.bool false, .slice none 0 0]) 0 :=
 ⟨none, 0, rfl, Nat.le_refl _, by omega, World.ownsRow_nil _ _ _ _⟩
theorem Zc.below {w w' : World} {base : Nat} {v : Value} {x : Int} (h : Zc w base v x) (hb : Below w.heap.size w w') : Zc w' base v x := by
 obtain ⟨A, c, h1, h2, h3, h4⟩ := h.form
 exact ⟨A, c, h1, h2, h3, Zt h4 hb⟩
theorem Zc.raw {w : World} {base : Nat} {v : Value} {x : Int} (h : Zc w base v x) : ∃ A c, v = .agg #[.bool (decide (x < 0)), .slice A (Za x.natAbs).length c] /\ Zm w A c (Za x.natAbs) := by
 obtain ⟨A, c, h1, h2, h3, h4⟩ := h.form
 exact ⟨A, c, h1, Yt _, h2, h3, ZD.of_own h4⟩
theorem own_take {w : World} {base : Nat} {e : TypeId} {A : Option Addr} {n c k : Nat} {xs : List Value} (h : w.ownsRow base e 1 (.slice A n c) n xs) (hk : k <= n) (hk0 : k ≠ 0) : w.ownsRow base e 1 (.slice A k c) k (xs.take k) := by
 rcases h.2 with ⟨h1, h2⟩ | ⟨g, cap, cur, h1, h2, h3, h4, h5, h6, h7⟩
 . omega
 . injection h1 with a1 a2 a3
   subst a1 a3
   have hl := h.1
   refine ⟨by rw [List.length_take]; omega, .inr ⟨g, c, cur, rfl, h2, h3, by omega, h5, h6, ?_⟩⟩
   rw [<- h7, List.take_take, Nat.min_eq_left (by omega), Nat.mul_one]
theorem Zc.signed {w : World} {base : Nat} {A : Option Addr} {c : Nat} {xs : List Nat} (hx : Zj xs) (h : w.ownsRow base 109 1 (.slice A xs.length c) xs.length (Zh xs)) (hc : xs.length <= c) (hm : c <= 9223372036854775807) {x : Int} {neg : Bool} (hxv : x = if neg then -(val xs : Int) else val xs) (hv : val xs ≠ 0) :
  Zc w base (.agg #[.bool neg, .slice A (Za (val xs)).length c]) x := by
 have ha : x.natAbs = val xs := by rw [hxv]; split <;> omega
 have hn : decide (x < 0) = neg := by rw [hxv]; cases neg <;> simp <;> omega
 have hle := YB hx
 have hne : (Za (val xs)).length ≠ 0 := fun h0 => hv (Ym.1 (List.eq_nil_of_length_eq_zero h0))
 refine ⟨A, c, by rw [ha, hn], by rw [ha]; omega, hm, ?_⟩
 rw [ha]
 have := own_take h hle hne
 rw [<- XR, <- Y3 hx] at this
 exact this
end Go.Proofs.YtdonecnhdkjniaaGreatDoor

namespace Go.Proofs

open Go.Shelf
def Tryz.lays169_ren : Go.Shelf.Ren := ⟨fun | 169 => 168 | n => n, fun | 70 => 221 | 9 => 9 | 0 => 0 | 72 => 224 | 37 => 222 | 127 => 248 | 3 => 3 | 5 => 5 | n => n, fun | n => n⟩
theorem Tryz.lays169 : Go.Proofs.Lays.n169 Tryz.prog Tryz.lays169_ren := {
 mixed := by kernel_rfl
 f169 := Tryz.func168.trans (congrArg some (by kernel_rfl))
 t0 := Tryz.underlying0
 a0 := Tryz.isAgg0
 z0 := Tryz.sizeOf0
 v0 := Tryz.zeroValue0
 t3 := Tryz.underlying3
 a3 := Tryz.isAgg3
 z3 := Tryz.sizeOf3
 v3 := Tryz.zeroValue3
 t9 := Tryz.underlying9
 a9 := Tryz.isAgg9
 z9 := Tryz.sizeOf9
 v9 := Tryz.zeroValue9
 t37 := Tryz.underlying222
 a37 := Tryz.isAgg222
 z37 := Tryz.sizeOf222
 v37 := Tryz.zeroValue222
 t70 := Tryz.underlying221
 a70 := Tryz.isAgg221
 z70 := Tryz.sizeOf221
 v70 := Tryz.zeroValue221
 t72 := Tryz.underlying224
 a72 := Tryz.isAgg224
 z72 := Tryz.sizeOf224
 v72 := Tryz.zeroValue224
 t127 := Tryz.underlying248
 a127 := Tryz.isAgg248
 z127 := Tryz.sizeOf248
 v127 := Tryz.zeroValue248 }
theorem Tryz.Builder_Extra_169 : Builder.Extra Tryz.prog Tryz.lays169_ren := {
 sizeBuilder := by kernel_rfl
 liesBuilder := by kernel_rfl
 t5 := Tryz.underlying5
 a5 := Tryz.isAgg5
 z5 := Tryz.sizeOf5
 v5 := Tryz.zeroValue5
 infoByte := by kernel_rfl
 cellsByte := by kernel_rfl
 sizeByte := by kernel_rfl
 neB5 := by decide }
open Go.RowKit in
theorem Tryz.Builder_String_any (B b : Nat) (l : List UInt8) (w : World) (h : Lib.IsBuilder 224 5 B b (Lib.byteCells l) w) (hBw : B <= w.heap.size) :
 Calls Tryz.prog 168 #[.pointer (some ⟨b, 0, none⟩)] w fun e w' => e = .returned (.string ⟨l.toArray⟩) /\ Below B w w' := Any.Builder_String_any Tryz.lays169 Tryz.Builder_Extra_169 B b l w h hBw
def Tryz.lays128_ren : Go.Shelf.Ren := ⟨fun | 128 => 274 | n => n, fun | 51 => 109 | 3 => 3 | 4 => 4 | 46 => 218 | 5 => 5 | 9 => 9 | n => n, fun | n => n⟩
def Tryz.lays133_ren : Go.Shelf.Ren := ⟨fun | 133 => 252 | 128 => 274 | n => n, fun | 51 => 109 | 3 => 3 | 4 => 4 | 46 => 218 | 5 => 5 | 9 => 9 | n => n, fun | n => n⟩
theorem Tryz.lays133 : Go.Proofs.Lays.n133 Tryz.prog Tryz.lays133_ren := {
 mixed := by kernel_rfl
 f128 := Tryz.func274.trans (congrArg some (by kernel_rfl))
 f133 := Tryz.func252.trans (congrArg some (by kernel_rfl))
 t3 := Tryz.underlying3
 a3 := Tryz.isAgg3
 z3 := Tryz.sizeOf3
 v3 := Tryz.zeroValue3
 t4 := Tryz.underlying4
 a4 := Tryz.isAgg4
 z4 := Tryz.sizeOf4
 v4 := Tryz.zeroValue4
 t5 := Tryz.underlying5
 a5 := Tryz.isAgg5
 z5 := Tryz.sizeOf5
 v5 := Tryz.zeroValue5
 t9 := Tryz.underlying9
 a9 := Tryz.isAgg9
 z9 := Tryz.sizeOf9
 v9 := Tryz.zeroValue9
 t46 := Tryz.underlying218
 a46 := Tryz.isAgg218
 z46 := Tryz.sizeOf218
 v46 := Tryz.zeroValue218
 t51 := Tryz.underlying109
 a51 := Tryz.isAgg109
 z51 := Tryz.sizeOf109
 v51 := Tryz.zeroValue109 }
theorem Tryz.bits_LeadingZeros32 (x : Int) (w : World) (h0 : 0 <= x) (h1 : x <= 4294967295) :
 Calls Tryz.prog 252 #[.int .u32 x] w fun e w' => e = .returned (.int .i64 (32 - (Lib.bitLen x.toNat : Int))) /\ w' = w := Any.bits_LeadingZeros32 Tryz.lays133 x w h0 h1
def Tryz.laysM171_ren : Go.Shelf.Ren := ⟨fun | 171 => 164 | 243 => 207 | 246 => 242 | 283 => 266 | 284 => 267 | 285 => 268 | 286 => 269 | 129 => 286 | 317 => 285 | 318 => 287 | 319 => 288 | 320 => 289 | 337 => 292 | 338 => 293 | n => n, fun | 3 => 3 | 9 => 9 | 2 => 2 | 4 => 4 | 171 => 280 | 0 => 0 | 53 => 216 | 37 => 222 | 5 => 5 | 173 => 283 | 212 => 297 | 51 => 109 | 20 => 20 | 213 => 298 | 46 => 218 | 232 => 305 | 233 => 306 | n => n, fun | 17 => 6 | 18 => 7 | 19 => 8 | n => n⟩
theorem Tryz.laysM171 : Go.Proofs.LaysM.n171 Tryz.prog Tryz.laysM171_ren := {
 mixed := by kernel_rfl
 f129 := Tryz.func286.trans (congrArg some (by kernel_rfl))
 f171 := Tryz.func164.trans (congrArg some (by kernel_rfl))
 f243 := Tryz.func207.trans (congrArg some (by kernel_rfl))
 f246 := Tryz.func242.trans (congrArg some (by kernel_rfl))
 f283 := Tryz.func266.trans (congrArg some (by kernel_rfl))
 f284 := Tryz.func267.trans (congrArg some (by kernel_rfl))
 f285 := Tryz.func268.trans (congrArg some (by kernel_rfl))
 f286 := Tryz.func269.trans (congrArg some (by kernel_rfl))
 f317 := Tryz.func285.trans (congrArg some (by kernel_rfl))
 f318 := Tryz.func287.trans (congrArg some (by kernel_rfl))
 f319 := Tryz.func288.trans (congrArg some (by kernel_rfl))
 f320 := Tryz.func289.trans (congrArg some (by kernel_rfl))
 f337 := Tryz.func292.trans (congrArg some (by kernel_rfl))
 f338 := Tryz.func293.trans (congrArg some (by kernel_rfl))
 t0 := Tryz.underlying0
 a0 := Tryz.isAgg0
 z0 := Tryz.sizeOf0
 v0 := Tryz.zeroValue0
 t2 := Tryz.underlying2
 a2 := Tryz.isAgg2
 z2 := Tryz.sizeOf2
 v2 := Tryz.zeroValue2
 t3 := Tryz.underlying3
 a3 := Tryz.isAgg3
 z3 := Tryz.sizeOf3
 v3 := Tryz.zeroValue3
 t4 := Tryz.underlying4
 a4 := Tryz.isAgg4
 z4 := Tryz.sizeOf4
 v4 := Tryz.zeroValue4
 t5 := Tryz.underlying5
 a5 := Tryz.isAgg5
 z5 := Tryz.sizeOf5
 v5 := Tryz.zeroValue5
 t9 := Tryz.underlying9
 a9 := Tryz.isAgg9
 z9 := Tryz.sizeOf9
 v9 := Tryz.zeroValue9
 t20 := Tryz.underlying20
 a20 := Tryz.isAgg20
 z20 := Tryz.sizeOf20
 v20 := Tryz.zeroValue20
 t37 := Tryz.underlying222
 a37 := Tryz.isAgg222
 z37 := Tryz.sizeOf222
 v37 := Tryz.zeroValue222
 t46 := Tryz.underlying218
 a46 := Tryz.isAgg218
 z46 := Tryz.sizeOf218
 v46 := Tryz.zeroValue218
 t51 := Tryz.underlying109
 a51 := Tryz.isAgg109
 z51 := Tryz.sizeOf109
 v51 := Tryz.zeroValue109
 t53 := Tryz.underlying216
 a53 := Tryz.isAgg216
 z53 := Tryz.sizeOf216
 v53 := Tryz.zeroValue216
 t171 := Tryz.underlying280
 a171 := Tryz.isAgg280
 z171 := Tryz.sizeOf280
 v171 := Tryz.zeroValue280
 t173 := Tryz.underlying283
 a173 := Tryz.isAgg283
 z173 := Tryz.sizeOf283
 v173 := Tryz.zeroValue283
 t212 := Tryz.underlying297
 a212 := Tryz.isAgg297
 z212 := Tryz.sizeOf297
 v212 := Tryz.zeroValue297
 t213 := Tryz.underlying298
 a213 := Tryz.isAgg298
 z213 := Tryz.sizeOf298
 t232 := Tryz.underlying305
 a232 := Tryz.isAgg305
 z232 := Tryz.sizeOf305
 v232 := Tryz.zeroValue305
 t233 := Tryz.underlying306
 a233 := Tryz.isAgg306
 z233 := Tryz.sizeOf306
 v233 := Tryz.zeroValue306
 g17 := by kernel_rfl
 g18 := by kernel_rfl
 g19 := by kernel_rfl
 i0 := by kernel_rfl
 i2 := by kernel_rfl
 i3 := by kernel_rfl
 i4 := by kernel_rfl
 i5 := by kernel_rfl
 i9 := by kernel_rfl
 i20 := by kernel_rfl
 i37 := by kernel_rfl
 i46 := by kernel_rfl
 i51 := by kernel_rfl
 i53 := by kernel_rfl
 i171 := by kernel_rfl
 i173 := by kernel_rfl
 i212 := by kernel_rfl
 i232 := by kernel_rfl
 i233 := by kernel_rfl
 m17 := by kernel_rfl
 m18 := by kernel_rfl
 m19 := by kernel_rfl }
open Go.RowKit Go.Sort Go.Lib in
theorem Tryz.strconv_Itoa (n : Int) (h0 : -9223372036854775808 <= n) (h1 : n <= 9223372036854775807) (w : World) (htab : Lib.TabIs Tryz.prog w "internal/strconv.uint64pow10" .u64 Lib.pow10Tab) :
 Calls Tryz.prog 164 #[.int .i64 n] w fun e w' => e = .returned (.string ⟨(Lib.itoa n).toArray⟩) /\ ∃ k os, w' = grow (w.drewN k) os := Any.strconv_Itoa Tryz.laysM171 n h0 h1 w htab
end Go.Proofs

namespace Go.Proofs.YtdonecnhdkjniaaGreatDoor
open Go.RowKit

theorem val_two (a b : Nat) : val [a, b] = a + 4294967296 * b := by simp [val]
theorem raw_two (w : World) (t : TypeId) (a b : Nat) (ha : a < 4294967296) (hb : b < 4294967296) : Zm (w.alloc (.cells #[.int .u32 a, .int .u32 b] t)) (some ⟨w.heap.size, 0, none⟩) 2 [a, b] := by
 refine ⟨by simp [Zj]; omega, by simp, by omega, rfl, fun _ => ⟨_, rfl, by simp, ?_⟩⟩
 exact World.news_of_block (heap_alloc_new w _)
theorem own_two (w : World) (base : Nat) (hbase : base <= w.heap.size) (a b : Nat) : (w.alloc (.cells #[.int .u32 a, .int .u32 b] 109)).ownsRow base 109 1 (.slice (some ⟨w.heap.size, 0, none⟩) 2 2) 2 (Zh [a, b]) :=
 ⟨rfl, .inr ⟨w.heap.size, 2, #[.int .u32 a, .int .u32 b], rfl, hbase, heap_alloc_new w _, by omega, by unfold maxLen; omega, rfl, rfl⟩⟩

theorem raw_two1 (w : World) (o : Obj) (t : TypeId) (a b : Nat) (ha : a < 4294967296) (hb : b < 4294967296) : Zm ((w.alloc o).alloc (.cells #[.int .u32 a, .int .u32 b] t)) (some ⟨w.heap.size + 1, 0, none⟩) [a, b].length [a, b] := by
 have h := raw_two (w.alloc o) t a b ha hb
 simpa using h
theorem own_two1 (w : World) (o : Obj) (a b : Nat) : ((w.alloc o).alloc (.cells #[.int .u32 a, .int .u32 b] 109)).ownsRow (w.heap.size + 1) 109 1 (.slice (some ⟨w.heap.size + 1, 0, none⟩) [a, b].length [a, b].length) [a, b].length (Zh [a, b]) := by
 have h := own_two (w.alloc o) (w.heap.size + 1) (by simp) a b
 simpa using h
theorem two_limbs (m : Nat) (hm : m < 18446744073709551616) : m % 4294967296 < 4294967296 /\ m / 4294967296 < 4294967296 /\ val [m % 4294967296, m / 4294967296] = m := by
 rw [val_two]; omega

theorem own_pair {w : World} {g base : Nat} {a b : Value} {e : TypeId} {size n : Nat} {v : Value} {xs : List Value} (h : w.ownsRow base e size v n xs) (hne : v.ownBlock ≠ some g) : ((w.setCell ⟨g, 0, none⟩ a).setCell ⟨g, 1, none⟩ b).ownsRow base e size v n xs := by
 obtain ⟨h1, h2⟩ := h
 refine ⟨h1, ?_⟩
 rcases h2 with h2 | ⟨k, cap, cur, hv, hg, hh, r⟩
 . exact .inl h2
 . have hk : k ≠ g := fun e => hne (by rw [hv, e]; rfl)
   refine .inr ⟨k, cap, cur, hv, hg, ?_, r⟩
   rw [Below.heap_setCell _ _ _ _ hk, Below.heap_setCell _ _ _ _ hk]; exact hh
theorem Zc.pair {w : World} {g base : Nat} {a b : Value} {v : Value} {x : Int} (h : Zc w base v x) (hne : g < base) : Zc ((w.setCell ⟨g, 0, none⟩ a).setCell ⟨g, 1, none⟩ b) base v x := by
 obtain ⟨A, c, h1, h2, h3, h4⟩ := h.form
 refine ⟨A, c, h1, h2, h3, own_pair h4 (fun e => ?_)⟩
 have := (h4.lt g e).1
 omega
theorem Zc.base {w : World} {b b' : Nat} {v : Value} {x : Int} (h : Zc w b v x) (hb : b' <= b) : Zc w b' v x := by
 obtain ⟨A, c, h1, h2, h3, h4⟩ := h.form
 refine ⟨A, c, h1, h2, h3, h4.1, ?_⟩
 rcases h4.2 with h5 | ⟨g, cap, cur, k1, k2, k3⟩
 . exact .inl h5
 . exact .inr ⟨g, cap, cur, k1, Nat.le_trans hb k2, k3⟩

def ZY (base : Nat) (w : World) (x : Int) (e : Ending) (w' : World) : Prop := ∃ v, e = .returned v /\ Zc w' base v x /\ Below w.heap.size w w'

theorem exact_Of_nought (w : World) :
  Calls Tryz.prog 95 #[.int .i64 0] w (ZY w.heap.size w 0) := by
 have C := XB false (some ⟨w.heap.size + 1, 0, none⟩) 2 [0, 0] _ (raw_two1 w (.cells #[.bool false, .slice none 0 0] 24) 109 0 0 (by omega) (by omega)) (by rfl)
 have HC := Hd C
 clear C
 go_enter Tryz.func95, Tryz.ntmps95
 go_wp2_with fail
 refine HC.out.mono ?_
 rintro e w1 ⟨rfl, hb⟩
 have hp := ((Zr.new w 24 (.bool false) (.slice none 0 0)).alloc _).below hb
 have hb1 : Below w.heap.size w w1 := (((Below.refl _ _).alloc (Nat.le_refl _) _).alloc (by simp) _).trans (hb.mono (by simp; omega))
 obtain ⟨hl, c0, c1, f0, f1⟩ := hp.facts
 clear hb HC
 go_wp2_with fail
 have hq := hp.store (.bool false) (.slice none 0 0)
 obtain ⟨_, k0, k1, _, _⟩ := hq.facts
 exact bodyPost_ret (by simp [results, Tryz.results95, go_sem, k0, k1]) rfl ⟨_, rfl, Zc.nought _ _, ZW hb1 (Nat.le_refl _) _ _⟩

theorem exact_Of_more (m : Nat) (neg : Bool) (n : Int) (hm0 : m ≠ 0) (hm : m <= 9223372036854775808) (hm2 : neg = false -> m <= 9223372036854775807) (hn : n = if neg then -(m : Int) else m) (w : World) :
   Calls Tryz.prog 95 #[.int .i64 n] w (ZY w.heap.size w n) := by
 obtain ⟨l1, l2, l3⟩ := two_limbs m (by omega)
 have C := X4 neg (some ⟨w.heap.size + 1, 0, none⟩) 2 [m % 4294967296, m / 4294967296] _ (raw_two1 w (.cells #[.bool false, .slice none 0 0] 24) 109 _ _ l1 l2) (by rw [l3]; exact hm0)
 have hown := own_two1 w (.cells #[.bool false, .slice none 0 0] 24) (m % 4294967296) (m / 4294967296)
 have fin : ∀ w1, Below ((w.alloc (.cells #[.bool false, .slice none 0 0] 24)).alloc (.cells #[.int .u32 (m % 4294967296 : Nat), .int .u32 (m / 4294967296 : Nat)] 109)).heap.size ((w.alloc (.cells #[.bool false, .slice none 0 0] 24)).alloc (.cells #[.int .u32 (m % 4294967296 : Nat), .int .u32 (m / 4294967296 : Nat)] 109)) w1 ->
    Zc w1 (w.heap.size + 1) (.agg #[.bool neg, .slice (some ⟨w.heap.size + 1, 0, none⟩) (Za (val [m % 4294967296, m / 4294967296])).length 2]) n := by
   intro w1 hb
   exact Zc.signed (by simp [Zj]; omega) (Zt hown hb) (by simp) (by simp) (by rw [l3]; exact hn) (by rw [l3]; exact hm0)
 rw [l3] at C fin
 have HC := Hd C
 have HF := Hd fin
 clear C fin hown l1 l2 l3
 have hq1 : ((m : Int) % 4294967296) = ((m % 4294967296 : Nat) : Int) := by omega
 have hq2 : ((m : Int) / 4294967296) = ((m / 4294967296 : Nat) : Int) := by omega
 have HQ1 := Hd hq1
 have HQ2 := Hd hq2
 clear hq1 hq2
 cases neg
 . have h2 := hm2 rfl
   simp only [Bool.false_eq_true, if_false] at hn
   subst hn
   have hlt : ¬ (m : Int) < 0 := by omega
   go_enter Tryz.func95, Tryz.ntmps95
   go_wp2_with fail
   rw [HQ1.out, HQ2.out]
   refine HC.out.mono ?_
   rintro e w1 ⟨rfl, hb⟩
   have hI := HF.out w1 hb
   have hp := ((Zr.new w 24 (.bool false) (.slice none 0 0)).alloc _).below hb
   have hb1 : Below w.heap.size w w1 := (((Below.refl _ _).alloc (Nat.le_refl _) _).alloc (by simp) _).trans (hb.mono (by simp; omega))
   obtain ⟨hl, c0, c1, f0, f1⟩ := hp.facts
   clear hb HC HF
   go_wp2_with fail
   have hq := hp.store (.bool false) (.slice (some ⟨w.heap.size + 1, 0, none⟩) (Za m).length 2)
   obtain ⟨_, k0, k1, _, _⟩ := hq.facts
   exact bodyPost_ret (by simp [results, Tryz.results95, go_sem, k0, k1]) rfl ⟨_, rfl, (hI.pair (Nat.lt_succ_self _)).base (Nat.le_succ _), ZW hb1 (Nat.le_refl _) _ _⟩
 . simp only [if_true] at hn
   have he : IntKind.u64.wrap (-IntKind.u64.wrap n) = (m : Int) := by rw [IntKind.wrap_u64, IntKind.wrap_u64]; omega
   have hlt : n < 0 := by omega
   have HN := Hd hn
   clear hn
   go_enter Tryz.func95, Tryz.ntmps95
   go_wp2_with fail
   rw [HQ1.out, HQ2.out]
   refine HC.out.mono ?_
   rintro e w1 ⟨rfl, hb⟩
   have hI := HF.out w1 hb
   have hp := ((Zr.new w 24 (.bool false) (.slice none 0 0)).alloc _).below hb
   have hb1 : Below w.heap.size w w1 := (((Below.refl _ _).alloc (Nat.le_refl _) _).alloc (by simp) _).trans (hb.mono (by simp; omega))
   obtain ⟨hl, c0, c1, f0, f1⟩ := hp.facts
   clear hb HC HF
   go_wp2_with fail
   have hq := hp.store (.bool true) (.slice (some ⟨w.heap.size + 1, 0, none⟩) (Za m).length 2)
   obtain ⟨_, k0, k1, _, _⟩ := hq.facts
   exact bodyPost_ret (by simp [results, Tryz.results95, go_sem, k0, k1]) rfl ⟨_, rfl, (hI.pair (Nat.lt_succ_self _)).base (Nat.le_succ _), ZW hb1 (Nat.le_refl _) _ _⟩

theorem exact_Of (n : Int) (h1 : -9223372036854775808 <= n) (h2 : n <= 9223372036854775807) (w : World) :
   Calls Tryz.prog 95 #[.int .i64 n] w (ZY w.heap.size w n) := by
 by_cases h0 : n = 0
 . subst h0; exact exact_Of_nought w
 . refine exact_Of_more n.natAbs (decide (n < 0)) n (by omega) (by omega) ?_ ?_ w
   . intro h; simp at h; omega
   . split
     . rename_i h; simp at h; omega
     . rename_i h; simp at h; omega


theorem bla_le : ∀ f x : Nat, Lib.bitLenAux f x <= f
 | 0, _ => Nat.le_refl _
 | f + 1, x => by
  simp only [Lib.bitLenAux]
  split
  . omega
  . have := bla_le f (x / 2); omega
theorem bla_lt : ∀ f x : Nat, x < 2 ^ f -> x < 2 ^ Lib.bitLenAux f x
 | 0, x, h => by simpa [Lib.bitLenAux] using h
 | f + 1, x, h => by
  simp only [Lib.bitLenAux]
  split
  . omega
  . have := bla_lt f (x / 2) (by rw [Nat.pow_succ] at h; omega)
    rw [Nat.add_comm, Nat.pow_succ]; omega
theorem bla_ge : ∀ f x k : Nat, k < Lib.bitLenAux f x -> 2 ^ k <= x
 | 0, x, k, h => by simp [Lib.bitLenAux] at h
 | f + 1, x, k, h => by
  simp only [Lib.bitLenAux] at h
  split at h
  . omega
  . cases k with
    | zero => simp; omega
    | succ k =>
     have := bla_ge f (x / 2) k (by omega)
     rw [Nat.pow_succ]; omega
theorem bitLen_le64 (n : Nat) : Lib.bitLen n <= 64 := bla_le 64 n
end Go.Proofs.YtdonecnhdkjniaaGreatDoor
