/- Several texts in one: FOps, FPlain, ReadF, ShelfR. -/
import Derived.Test.YtipmkkobdbgphaaGreatDoorPt24
import Derived.Test.YtipmkkobdbgphaaGreatDoorPt23
import Derived.Test.YtipmkkobdbgphaaGreatDoorPt28
import Derived.Test.YtipmkkobdbgphaaGreatDoorPt02
import Derived.Shelf.Small.Wraps
import Derived.Shelf.Strconv.Atoi
import Derived.Shelf.Strings.Search2
import Derived.Shelf.Strings.Trim
import Derived.Test.YtipmkkobdbgphaaGreatDoorPt04
set_option maxRecDepth 100000
set_option maxHeartbeats 8000000
/- The four operations of package frac; Cmp. (Written by wip/frac/genfops.py.) -/
namespace Go.Proofs.YtipmkkobdbgphaaGreatDoor
open Go.RowKit

theorem Reads.blk {w : World} {g n size : Nat} {t : TypeId} {cs : List Value} (h : Blk w g t cs.toArray) (hl : cs.length = n * size) : Reads w w.heap.size size (some ⟨g, 0, none⟩) n cs :=
  ⟨hl, fun _ => ⟨⟨g, 0, none⟩, rfl, h.lt, fun j u hu => by
    rw [show (⟨g, 0, none⟩ : Addr).add j = ⟨g, j, none⟩ by unfold Addr.add; split <;> simp_all, h.cell j, ← hu]
    simp⟩⟩
theorem FracIn.quad {w : World} {base g : Nat} {v a b c d : Value} {n m : Int} (h : FracIn w base v n m) (q : Quad w g a b c d) (x y z u : Value) : FracIn ((((w.setCell ⟨g, 0, none⟩ x).setCell ⟨g, 1, none⟩ y).setCell ⟨g, 2, none⟩ z).setCell ⟨g, 3, none⟩ u) base v n m := by
  obtain ⟨A, k, B, e, h1, h2, h3⟩ := h.form
  exact ⟨A, k, B, e, h1, h2.quad q _ _ _ _, h3.quad q _ _ _ _⟩
theorem FracIn.below {w w' : World} {base : Nat} {v : Value} {n d : Int} (h : FracIn w base v n d) (hb : Below w.heap.size w w') : FracIn w' base v n d := by
  obtain ⟨A, k, B, e, h1, h2, h3⟩ := h.form
  exact ⟨A, k, B, e, h1, h2.below hb, h3.below hb⟩

structure Fine (n d : Int) : Prop where
  chk : chkE (decide (n < 0)) (decide (d < 0)) (natL n.natAbs) (natL d.natAbs) = 0
  num : Fit n
  den : Fit d
  pos : 0 < d
  low : gcdZ n d = 1
theorem fine_of {n1 n2 : Bool} {xs ys : List Nat} (hx : Limbs xs) (hy : Limbs ys) (h0 : chkE n1 n2 xs ys = 0) : ∃ n d, Fine n d ∧ n1 = decide (n < 0) ∧ n2 = decide (d < 0) ∧ xs = natL n.natAbs ∧ ys = natL d.natAbs := by
  have hc := h0
  unfold chkE mkOk at h0
  cases o1 : okI n1 xs with
  | false => rw [o1] at h0; simp at h0
  | true =>
    cases o2 : okI n2 ys with
    | false => rw [o1, o2] at h0; simp at h0
    | true =>
      obtain ⟨a1, a2, a3⟩ := ok_num hx o1
      obtain ⟨b1, b2, b3⟩ := ok_num hy o2
      rw [o1, o2] at h0
      simp only [Bool.and_self, if_true] at h0
      generalize ival n1 xs = n at a1 a2 a3 h0
      generalize ival n2 ys = d at b1 b2 b3 h0
      subst a1 a2 b1 b2
      split at h0
      · next h1 => exact ⟨n, d, ⟨hc, a3, b3, h1.1, h1.2⟩, rfl, rfl, rfl, rfl⟩
      · simp at h0
def ansN (n d : Int) : Int := if lz n ≤ 2048 ∧ lz d ≤ 2048 then n else 0
def ansD (n d : Int) : Int := if lz n ≤ 2048 ∧ lz d ≤ 2048 then d else 0
def ansK (n d : Int) : Int := if lz n ≤ 2048 ∧ lz d ≤ 2048 then 0 else 4
theorem frac_answered (n d : Int) (A B : Option Addr) (c e0 : Nat) (w : World) (h : Raw w A c (natL n.natAbs)) (g : Raw w B e0 (natL d.natAbs)) :
    Calls Tryz.prog 110 #[.agg #[.bool (decide (n < 0)), .slice A (natL n.natAbs).length c, .bool (decide (d < 0)), .slice B (natL d.natAbs).length e0]] w (RetFracOwn2 w.heap.size w (ansN n d) (ansD n d) (ansK n d)) := by
  unfold ansN ansD ansK
  by_cases hl : lz n ≤ 2048 ∧ lz d ≤ 2048
  · simp only [if_pos hl]; exact frac_answered_fits n d A B c e0 w h g hl.1 hl.2
  · simp only [if_neg hl]; exact frac_answered_long n d A B c e0 w h g (by omega)
theorem ans_lz (n d : Int) : lz (ansN n d) ≤ 2048 ∧ lz (ansD n d) ≤ 2048 := by
  unfold ansN ansD
  split
  · assumption
  · decide
def RetFracB (w : World) (n d : Int) (b : Bool) (e : Ending) (w' : World) : Prop := ∃ v, e = .returned (.tuple #[v, .bool b]) ∧ FracIn w' 0 v n d ∧ Below w.heap.size w w'

/- Fractions as plain numbers: lowest terms are one, and stand in one order. -/

theorem gcdZ_dvd (n d : Int) : gcdZ n d ∣ n ∧ gcdZ n d ∣ d :=
  ⟨Int.ofNat_dvd_left.2 (Nat.gcd_dvd_left _ _), Int.ofNat_dvd_left.2 (Nat.gcd_dvd_right _ _)⟩
theorem low_parts (n : Int) {d : Int} (hd : 0 < d) : lowN n d * gcdZ n d = n ∧ lowD n d * gcdZ n d = d := by
  unfold lowN lowD
  rw [if_neg (by omega), if_neg (by omega)]
  exact ⟨Int.tdiv_mul_cancel (gcdZ_dvd n d).1, Int.tdiv_mul_cancel (gcdZ_dvd n d).2⟩
/- What a text is read as, as a fraction; plain. -/

def frontS (s : List UInt8) : List UInt8 := s.takeWhile (· ≠ 47)
def backS (s : List UInt8) : List UInt8 := s.drop ((frontS s).length + 1)
def readF (s : List UInt8) : Option (Int × Int) := match readZ (frontS s) with
  | none => none
  | some n => if 47 ∈ s then (match readZ (backS s) with
      | none => none
      | some d => if 0 < d ∧ d ≠ 1 ∧ gcdZ n d = 1 then some (n, d) else none)
    else some (n, 1)
theorem front_all : ∀ {s : List UInt8}, (47 : UInt8) ∉ s → frontS s = s
  | [], _ => rfl
  | x :: r, h => by
    have hx : x ≠ 47 := fun e => h (by rw [e]; exact List.mem_cons_self ..)
    unfold frontS
    rw [List.takeWhile_cons, if_pos (by simpa using hx)]
    exact congrArg (x :: ·) (front_all fun k => h (List.mem_cons_of_mem _ k))
theorem front_app {a b : List UInt8} (h : (47 : UInt8) ∉ a) : frontS (a ++ 47 :: b) = a := by
  unfold frontS
  induction a with
  | nil => rfl
  | cons x r ih =>
    have hx : x ≠ 47 := fun e => h (by rw [e]; exact List.mem_cons_self ..)
    rw [List.cons_append, List.takeWhile_cons, if_pos (by simpa using hx), ih fun k => h (List.mem_cons_of_mem _ k)]
theorem back_app {a b : List UInt8} (h : (47 : UInt8) ∉ a) : backS (a ++ 47 :: b) = b := by
  unfold backS
  rw [front_app h]
  simp
theorem split_at_bar : ∀ {s : List UInt8}, (47 : UInt8) ∈ s → s = frontS s ++ 47 :: backS s
  | [], h => by cases h
  | x :: r, h => by
    by_cases hx : x = 47
    · subst hx; simp [frontS, backS]
    · have hr : (47 : UInt8) ∈ r := (List.mem_cons.1 h).resolve_left fun e => hx e.symm
      have ih := split_at_bar hr
      have e1 : frontS (x :: r) = x :: frontS r := by unfold frontS; rw [List.takeWhile_cons, if_pos (by simpa using hx)]
      have e2 : backS (x :: r) = backS r := by unfold backS; rw [e1]; simp
      rw [e1, e2, List.cons_append, ← ih]
theorem front_no : ∀ (s : List UInt8), (47 : UInt8) ∉ frontS s
  | [], h => by cases h
  | x :: r, h => by
    unfold frontS at h
    rw [List.takeWhile_cons] at h
    split at h
    · rename_i hx
      rcases List.mem_cons.1 h with e | e
      · subst e; simp at hx
      · exact front_no r e
    · cases h
theorem itoa_no (x : Int) : (47 : UInt8) ∉ Lib.itoa x := fun h => by
  unfold Lib.itoa at h
  split at h
  · rcases List.mem_cons.1 h with e | e
    · exact absurd e (by decide)
    · have := (dec_isDigit _ e).1; exact absurd this (by decide)
  · have := (dec_isDigit _ h).1; exact absurd this (by decide)
theorem lowest_told {s : List UInt8} {n d : Int} (hb : (47 : UInt8) ∈ s) (hz : readZ (frontS s) = some n) (hy : readZ (backS s) = some d) (hd : 0 < d) :
    fracText (lowN n d) (lowD n d) = s ↔ d ≠ 1 ∧ gcdZ n d = 1 := by
  have es : s = Lib.itoa n ++ 47 :: Lib.itoa d := by rw [itoa_readZ hz, itoa_readZ hy]; exact split_at_bar hb
  constructor
  · intro h
    unfold fracText at h
    by_cases h1 : lowD n d = 1
    · rw [if_pos h1] at h
      exact absurd hb (by rw [← h]; exact itoa_no _)
    · rw [if_neg h1, es] at h
      have e2 := congrArg backS h
      rw [back_app (itoa_no _), back_app (itoa_no _)] at e2
      have e3 := itoa_inj.1 e2
      refine ⟨by rw [← e3]; exact h1, ?_⟩
      have h4 := (low_parts n hd).2
      rw [e3] at h4
      have h5 : d * gcdZ n d = d * 1 := by rw [h4, Int.mul_one]
      exact Int.eq_of_mul_eq_mul_left (by omega) h5
  · rintro ⟨h1, hg⟩
    have h4 := low_parts n hd
    rw [hg, Int.mul_one, Int.mul_one] at h4
    unfold fracText
    rw [h4.1, h4.2, if_neg h1, es]
end Go.Proofs.YtipmkkobdbgphaaGreatDoor

/-
  DERIVED: THE SHELF's CONTRACTS AT THIS DUMP, IN PLAIN WORDS (tools/lay-plain.mjs out of 'TryzShelf.lean', which tools/lay-shelf.mjs wrote): THE SAME DECLARATIONS UNDER THE SAME NAMES: 'import', 'namespace', 'open', 'def', 'theorem' AND NOTHING ELSE: no command of the shelf's: FOR A HAND-IN. Each laying: the table of numbers ('.._ren') and one theorem, a field a fact of the dump's own or the kernel's comparison; each contract: ONE APPLICATION.
-/
namespace Go.Proofs

open Go.Shelf
def Tryz.lays160_ren : Go.Shelf.Ren := ⟨fun | 160 => 225 | 232 => 252 | 231 => 251 | 227 => 253 | 234 => 255 | 233 => 254 | 236 => 257 | 235 => 256 | 228 => 273 | 271 => 276 | 151 => 275 | 197 => 274 | 120 => 293 | 152 => 292 | 260 => 291 | 137 => 303 | 119 => 304 | 224 => 270 | 225 => 269 | 217 => 268 | 266 => 289 | n => n, fun | 9 => 9 | 4 => 4 | 3 => 3 | 5 => 5 | 117 => 266 | 116 => 265 | 0 => 0 | 124 => 269 | 21 => 21 | 105 => 280 | 46 => 105 | 119 => 310 | 139 => 313 | 138 => 312 | n => n, fun | 3 => 7 | 4 => 8 | n => n⟩
theorem Tryz.lays160 : Go.Proofs.Lays.n160 Tryz.prog Tryz.lays160_ren := {
  mixed := by kernel_rfl
  f119 := Tryz.func304.trans (congrArg some (by kernel_rfl))
  f120 := Tryz.func293.trans (congrArg some (by kernel_rfl))
  f137 := Tryz.func303.trans (congrArg some (by kernel_rfl))
  f151 := Tryz.func275.trans (congrArg some (by kernel_rfl))
  f152 := Tryz.func292.trans (congrArg some (by kernel_rfl))
  f160 := Tryz.func225.trans (congrArg some (by kernel_rfl))
  f197 := Tryz.func274.trans (congrArg some (by kernel_rfl))
  f217 := Tryz.func268.trans (congrArg some (by kernel_rfl))
  f224 := Tryz.func270.trans (congrArg some (by kernel_rfl))
  f225 := Tryz.func269.trans (congrArg some (by kernel_rfl))
  f227 := Tryz.func253.trans (congrArg some (by kernel_rfl))
  f228 := Tryz.func273.trans (congrArg some (by kernel_rfl))
  f231 := Tryz.func251.trans (congrArg some (by kernel_rfl))
  f232 := Tryz.func252.trans (congrArg some (by kernel_rfl))
  f233 := Tryz.func254.trans (congrArg some (by kernel_rfl))
  f234 := Tryz.func255.trans (congrArg some (by kernel_rfl))
  f235 := Tryz.func256.trans (congrArg some (by kernel_rfl))
  f236 := Tryz.func257.trans (congrArg some (by kernel_rfl))
  f260 := Tryz.func291.trans (congrArg some (by kernel_rfl))
  f266 := Tryz.func289.trans (congrArg some (by kernel_rfl))
  f271 := Tryz.func276.trans (congrArg some (by kernel_rfl))
  t0 := Tryz.underlying0
  a0 := Tryz.isAgg0
  z0 := Tryz.sizeOf0
  v0 := Tryz.zeroValue0
  t3 := Tryz.underlying3
  a3 := Tryz.isAgg3
  z3 := Tryz.sizeOf3
  v3 := Tryz.zeroValue3
  t4 := Tryz.underlying4
  a4 := Tryz.isAgg4
  z4 := Tryz.sizeOf4
  v4 := Tryz.zeroValue4
  t5 := Tryz.underlying5
  a5 := Tryz.isAgg5
  z5 := Tryz.sizeOf5
  v5 := Tryz.zeroValue5
  t9 := Tryz.underlying9
  a9 := Tryz.isAgg9
  z9 := Tryz.sizeOf9
  v9 := Tryz.zeroValue9
  t21 := Tryz.underlying21
  a21 := Tryz.isAgg21
  z21 := Tryz.sizeOf21
  v21 := Tryz.zeroValue21
  t46 := Tryz.underlying105
  a46 := Tryz.isAgg105
  z46 := Tryz.sizeOf105
  v46 := Tryz.zeroValue105
  t105 := Tryz.underlying280
  a105 := Tryz.isAgg280
  z105 := Tryz.sizeOf280
  v105 := Tryz.zeroValue280
  t116 := Tryz.underlying265
  a116 := Tryz.isAgg265
  z116 := Tryz.sizeOf265
  t117 := Tryz.underlying266
  a117 := Tryz.isAgg266
  z117 := Tryz.sizeOf266
  v117 := Tryz.zeroValue266
  t119 := Tryz.underlying310
  a119 := Tryz.isAgg310
  z119 := Tryz.sizeOf310
  t124 := Tryz.underlying269
  a124 := Tryz.isAgg269
  z124 := Tryz.sizeOf269
  v124 := Tryz.zeroValue269
  t138 := Tryz.underlying312
  a138 := Tryz.isAgg312
  z138 := Tryz.sizeOf312
  v138 := Tryz.zeroValue312
  t139 := Tryz.underlying313
  a139 := Tryz.isAgg313
  z139 := Tryz.sizeOf313
  v139 := Tryz.zeroValue313
  g3 := by kernel_rfl
  g4 := by kernel_rfl }
def Tryz.lays103_ren : Go.Shelf.Ren := ⟨fun | 103 => 224 | 210 => 250 | 206 => 272 | n => n, fun | 9 => 9 | 4 => 4 | 24 => 251 | 3 => 3 | n => n, fun | n => n⟩
theorem Tryz.lays103 : Go.Proofs.Lays.n103 Tryz.prog Tryz.lays103_ren := {
  mixed := by kernel_rfl
  f103 := Tryz.func224.trans (congrArg some (by kernel_rfl))
  f206 := Tryz.func272.trans (congrArg some (by kernel_rfl))
  f210 := Tryz.func250.trans (congrArg some (by kernel_rfl))
  t3 := Tryz.underlying3
  a3 := Tryz.isAgg3
  z3 := Tryz.sizeOf3
  v3 := Tryz.zeroValue3
  t4 := Tryz.underlying4
  a4 := Tryz.isAgg4
  z4 := Tryz.sizeOf4
  v4 := Tryz.zeroValue4
  t9 := Tryz.underlying9
  a9 := Tryz.isAgg9
  z9 := Tryz.sizeOf9
  v9 := Tryz.zeroValue9
  t24 := Tryz.underlying251
  a24 := Tryz.isAgg251
  z24 := Tryz.sizeOf251
  v24 := Tryz.zeroValue251 }
open Go.RowKit in
theorem Tryz.strings_CutPrefix (s p : ByteArray) (w : World) :
    Calls Tryz.prog 224 #[.string s, .string p] w fun e w' => e = .returned (.tuple #[.string ⟨(Lib.trimPrefix s.data.toList p.data.toList).toArray⟩, .bool (Lib.hasPrefix s.data.toList p.data.toList)]) ∧ w' = w := Any.strings_CutPrefix Tryz.lays103 s p w
def Tryz.lays172_ren : Go.Shelf.Ren := ⟨fun | 172 => 226 | 244 => 258 | 245 => 259 | 247 => 277 | 279 => 278 | 280 => 279 | 281 => 280 | 282 => 281 | 287 => 294 | 316 => 295 | 171 => 218 | 205 => 296 | 321 => 305 | 322 => 306 | 243 => 247 | 246 => 266 | 283 => 285 | 284 => 286 | 285 => 287 | 286 => 288 | 129 => 299 | 317 => 298 | 318 => 300 | 319 => 301 | 320 => 302 | 337 => 307 | 338 => 128 | n => n, fun | 9 => 9 | 3 => 3 | 75 => 244 | 76 => 246 | 4 => 4 | 5 => 5 | 167 => 283 | 37 => 240 | 0 => 0 | 85 => 284 | 2 => 2 | 168 => 286 | 53 => 64 | 175 => 298 | 46 => 105 | 210 => 302 | 127 => 261 | 145 => 319 | 143 => 317 | 21 => 21 | 171 => 292 | 173 => 294 | 212 => 306 | 51 => 104 | 20 => 20 | 213 => 307 | 232 => 320 | 233 => 229 | 80 => 248 | n => n, fun | 15 => 4 | 16 => 5 | 17 => 6 | 18 => 9 | 19 => 1 | n => n⟩
theorem Tryz.lays172 : Go.Proofs.Lays.n172 Tryz.prog Tryz.lays172_ren := {
  mixed := by kernel_rfl
  f129 := Tryz.func299.trans (congrArg some (by kernel_rfl))
  f171 := Tryz.func218.trans (congrArg some (by kernel_rfl))
  f172 := Tryz.func226.trans (congrArg some (by kernel_rfl))
  f205 := Tryz.func296.trans (congrArg some (by kernel_rfl))
  f243 := Tryz.func247.trans (congrArg some (by kernel_rfl))
  f244 := Tryz.func258.trans (congrArg some (by kernel_rfl))
  f245 := Tryz.func259.trans (congrArg some (by kernel_rfl))
  f246 := Tryz.func266.trans (congrArg some (by kernel_rfl))
  f247 := Tryz.func277.trans (congrArg some (by kernel_rfl))
  f279 := Tryz.func278.trans (congrArg some (by kernel_rfl))
  f280 := Tryz.func279.trans (congrArg some (by kernel_rfl))
  f281 := Tryz.func280.trans (congrArg some (by kernel_rfl))
  f282 := Tryz.func281.trans (congrArg some (by kernel_rfl))
  f283 := Tryz.func285.trans (congrArg some (by kernel_rfl))
  f284 := Tryz.func286.trans (congrArg some (by kernel_rfl))
  f285 := Tryz.func287.trans (congrArg some (by kernel_rfl))
  f286 := Tryz.func288.trans (congrArg some (by kernel_rfl))
  f287 := Tryz.func294.trans (congrArg some (by kernel_rfl))
  f316 := Tryz.func295.trans (congrArg some (by kernel_rfl))
  f317 := Tryz.func298.trans (congrArg some (by kernel_rfl))
  f318 := Tryz.func300.trans (congrArg some (by kernel_rfl))
  f319 := Tryz.func301.trans (congrArg some (by kernel_rfl))
  f320 := Tryz.func302.trans (congrArg some (by kernel_rfl))
  f321 := Tryz.func305.trans (congrArg some (by kernel_rfl))
  f322 := Tryz.func306.trans (congrArg some (by kernel_rfl))
  f337 := Tryz.func307.trans (congrArg some (by kernel_rfl))
  f338 := Tryz.func128.trans (congrArg some (by kernel_rfl))
  t0 := Tryz.underlying0
  a0 := Tryz.isAgg0
  z0 := Tryz.sizeOf0
  v0 := Tryz.zeroValue0
  t2 := Tryz.underlying2
  a2 := Tryz.isAgg2
  z2 := Tryz.sizeOf2
  v2 := Tryz.zeroValue2
  t3 := Tryz.underlying3
  a3 := Tryz.isAgg3
  z3 := Tryz.sizeOf3
  v3 := Tryz.zeroValue3
  t4 := Tryz.underlying4
  a4 := Tryz.isAgg4
  z4 := Tryz.sizeOf4
  v4 := Tryz.zeroValue4
  t5 := Tryz.underlying5
  a5 := Tryz.isAgg5
  z5 := Tryz.sizeOf5
  v5 := Tryz.zeroValue5
  t9 := Tryz.underlying9
  a9 := Tryz.isAgg9
  z9 := Tryz.sizeOf9
  v9 := Tryz.zeroValue9
  t20 := Tryz.underlying20
  a20 := Tryz.isAgg20
  z20 := Tryz.sizeOf20
  v20 := Tryz.zeroValue20
  t21 := Tryz.underlying21
  a21 := Tryz.isAgg21
  z21 := Tryz.sizeOf21
  v21 := Tryz.zeroValue21
  t37 := Tryz.underlying240
  a37 := Tryz.isAgg240
  z37 := Tryz.sizeOf240
  v37 := Tryz.zeroValue240
  t46 := Tryz.underlying105
  a46 := Tryz.isAgg105
  z46 := Tryz.sizeOf105
  v46 := Tryz.zeroValue105
  t51 := Tryz.underlying104
  a51 := Tryz.isAgg104
  z51 := Tryz.sizeOf104
  v51 := Tryz.zeroValue104
  t53 := Tryz.underlying64
  a53 := Tryz.isAgg64
  z53 := Tryz.sizeOf64
  v53 := Tryz.zeroValue64
  t75 := Tryz.underlying244
  a75 := Tryz.isAgg244
  z75 := Tryz.sizeOf244
  v75 := Tryz.zeroValue244
  t76 := Tryz.underlying246
  a76 := Tryz.isAgg246
  z76 := Tryz.sizeOf246
  v76 := Tryz.zeroValue246
  t85 := Tryz.underlying284
  a85 := Tryz.isAgg284
  z85 := Tryz.sizeOf284
  v85 := Tryz.zeroValue284
  t127 := Tryz.underlying261
  a127 := Tryz.isAgg261
  z127 := Tryz.sizeOf261
  v127 := Tryz.zeroValue261
  t143 := Tryz.underlying317
  a143 := Tryz.isAgg317
  z143 := Tryz.sizeOf317
  v143 := Tryz.zeroValue317
  t145 := Tryz.underlying319
  a145 := Tryz.isAgg319
  z145 := Tryz.sizeOf319
  v145 := Tryz.zeroValue319
  t167 := Tryz.underlying283
  a167 := Tryz.isAgg283
  z167 := Tryz.sizeOf283
  v167 := Tryz.zeroValue283
  t168 := Tryz.underlying286
  a168 := Tryz.isAgg286
  z168 := Tryz.sizeOf286
  v168 := Tryz.zeroValue286
  t171 := Tryz.underlying292
  a171 := Tryz.isAgg292
  z171 := Tryz.sizeOf292
  v171 := Tryz.zeroValue292
  t173 := Tryz.underlying294
  a173 := Tryz.isAgg294
  z173 := Tryz.sizeOf294
  v173 := Tryz.zeroValue294
  t175 := Tryz.underlying298
  a175 := Tryz.isAgg298
  z175 := Tryz.sizeOf298
  v175 := Tryz.zeroValue298
  t210 := Tryz.underlying302
  a210 := Tryz.isAgg302
  z210 := Tryz.sizeOf302
  v210 := Tryz.zeroValue302
  t212 := Tryz.underlying306
  a212 := Tryz.isAgg306
  z212 := Tryz.sizeOf306
  v212 := Tryz.zeroValue306
  t213 := Tryz.underlying307
  a213 := Tryz.isAgg307
  z213 := Tryz.sizeOf307
  t232 := Tryz.underlying320
  a232 := Tryz.isAgg320
  z232 := Tryz.sizeOf320
  v232 := Tryz.zeroValue320
  t233 := Tryz.underlying229
  a233 := Tryz.isAgg229
  z233 := Tryz.sizeOf229
  v233 := Tryz.zeroValue229
  g15 := by kernel_rfl
  g16 := by kernel_rfl
  g17 := by kernel_rfl
  g18 := by kernel_rfl
  g19 := by kernel_rfl }
open Go.RowKit in
theorem Tryz.strconv_Atoi (s : ByteArray) (n : Int) (hl : s.size ≤ 18) (h : Lib.atoi s.data.toList = some n) (w : World) :
    Calls Tryz.prog 226 #[.string s] w fun e w' => e = .returned (.tuple #[.int .i64 n, .nilIface]) ∧ ∃ t, w' = Lib.bytesWorld w 5 t := Any.strconv_Atoi Tryz.lays172 s n hl h w
def Tryz.lays219_ren : Go.Shelf.Ren := ⟨fun | 219 => 249 | 217 => 268 | 225 => 269 | 224 => 270 | 267 => 271 | 266 => 289 | 314 => 290 | n => n, fun | 9 => 9 | 3 => 3 | 4 => 4 | 5 => 5 | 46 => 105 | 146 => 258 | 51 => 104 | n => n, fun | 1 => 3 | n => n⟩
theorem Tryz.lays219 : Go.Proofs.Lays.n219 Tryz.prog Tryz.lays219_ren := {
  mixed := by kernel_rfl
  f217 := Tryz.func268.trans (congrArg some (by kernel_rfl))
  f219 := Tryz.func249.trans (congrArg some (by kernel_rfl))
  f224 := Tryz.func270.trans (congrArg some (by kernel_rfl))
  f225 := Tryz.func269.trans (congrArg some (by kernel_rfl))
  f266 := Tryz.func289.trans (congrArg some (by kernel_rfl))
  f267 := Tryz.func271.trans (congrArg some (by kernel_rfl))
  f314 := Tryz.func290.trans (congrArg some (by kernel_rfl))
  t3 := Tryz.underlying3
  a3 := Tryz.isAgg3
  z3 := Tryz.sizeOf3
  v3 := Tryz.zeroValue3
  t4 := Tryz.underlying4
  a4 := Tryz.isAgg4
  z4 := Tryz.sizeOf4
  v4 := Tryz.zeroValue4
  t5 := Tryz.underlying5
  a5 := Tryz.isAgg5
  z5 := Tryz.sizeOf5
  v5 := Tryz.zeroValue5
  t9 := Tryz.underlying9
  a9 := Tryz.isAgg9
  z9 := Tryz.sizeOf9
  v9 := Tryz.zeroValue9
  t46 := Tryz.underlying105
  a46 := Tryz.isAgg105
  z46 := Tryz.sizeOf105
  v46 := Tryz.zeroValue105
  t51 := Tryz.underlying104
  a51 := Tryz.isAgg104
  z51 := Tryz.sizeOf104
  v51 := Tryz.zeroValue104
  t146 := Tryz.underlying258
  a146 := Tryz.isAgg258
  z146 := Tryz.sizeOf258
  v146 := Tryz.zeroValue258
  g1 := by kernel_rfl }
open Go.RowKit Go.Lib in
theorem Tryz.stringslite_Index_one (s : ByteArray) (c : UInt8) (w : World) :
    Calls Tryz.prog 249 #[.string s, .string ⟨#[c]⟩] w fun e w' => e = .returned (.int .i64 (Lib.indexByte s.data.toList c)) ∧ w' = w := Any.stringslite_Index_one Tryz.lays219 s c w
end Go.Proofs
