/- Several texts in one: ReadF, ShelfR, CutBar, ReadFit. -/
import Derived.Test.YtipmkkobdbgphaaGreatDoorPb30
import Derived.Test.YtipmkkobdbgphaaGreatDoorPb23
import Derived.Test.YtipmkkobdbgphaaGreatDoorPb28
import Derived.Shelf.Small.Wraps
import Derived.Shelf.Strconv.Atoi
import Derived.Shelf.Strings.Search2
import Derived.Shelf.Strings.Trim
import Derived.Test.YtipmkkobdbgphaaGreatDoorPb02
import Derived.Test.YtipmkkobdbgphaaGreatDoorPbHd
import Derived.Lib.IndexLaws
import Derived.OwnWalk
set_option maxRecDepth 100000
set_option maxHeartbeats 8000000
/- What a text is read as, as a fraction; plain. -/
namespace Go.Proofs.YtipmkkobdbgphaaGreatDoor

def frontS (s : List UInt8) : List UInt8 := s.takeWhile (· ≠ 47)
def backS (s : List UInt8) : List UInt8 := s.drop ((frontS s).length + 1)
def readF (s : List UInt8) : Option (Int × Int) := match readZ (frontS s) with
  | none => none
  | some n => if 47 ∈ s then (match readZ (backS s) with
      | none => none
      | some d => if 0 < d ∧ d ≠ 1 ∧ gcdZ n d = 1 then some (n, d) else none)
    else some (n, 1)
theorem front_all : ∀ {s : List UInt8}, (47 : UInt8) ∉ s → frontS s = s
  | [], _ => rfl
  | x :: r, h => by
    have hx : x ≠ 47 := fun e => h (by rw [e]; exact List.mem_cons_self ..)
    unfold frontS
    rw [List.takeWhile_cons, if_pos (by simpa using hx)]
    exact congrArg (x :: ·) (front_all fun k => h (List.mem_cons_of_mem _ k))
theorem front_app {a b : List UInt8} (h : (47 : UInt8) ∉ a) : frontS (a ++ 47 :: b) = a := by
  unfold frontS
  induction a with
  | nil => rfl
  | cons x r ih =>
    have hx : x ≠ 47 := fun e => h (by rw [e]; exact List.mem_cons_self ..)
    rw [List.cons_append, List.takeWhile_cons, if_pos (by simpa using hx), ih fun k => h (List.mem_cons_of_mem _ k)]
theorem back_app {a b : List UInt8} (h : (47 : UInt8) ∉ a) : backS (a ++ 47 :: b) = b := by
  unfold backS
  rw [front_app h]
  simp
theorem split_at_bar : ∀ {s : List UInt8}, (47 : UInt8) ∈ s → s = frontS s ++ 47 :: backS s
  | [], h => by cases h
  | x :: r, h => by
    by_cases hx : x = 47
    · subst hx; simp [frontS, backS]
    · have hr : (47 : UInt8) ∈ r := (List.mem_cons.1 h).resolve_left fun e => hx e.symm
      have ih := split_at_bar hr
      have e1 : frontS (x :: r) = x :: frontS r := by unfold frontS; rw [List.takeWhile_cons, if_pos (by simpa using hx)]
      have e2 : backS (x :: r) = backS r := by unfold backS; rw [e1]; simp
      rw [e1, e2, List.cons_append, ← ih]
theorem itoa_no (x : Int) : (47 : UInt8) ∉ Lib.itoa x := fun h => by
  unfold Lib.itoa at h
  split at h
  · rcases List.mem_cons.1 h with e | e
    · exact absurd e (by decide)
    · have := (dec_isDigit _ e).1; exact absurd this (by decide)
  · have := (dec_isDigit _ h).1; exact absurd this (by decide)
theorem readF_text {n d : Int} (hd : 0 < d) (hg : gcdZ n d = 1) : readF (fracText n d) = some (n, d) := by
  unfold fracText readF
  by_cases h1 : d = 1
  · rw [if_pos h1, front_all (itoa_no n), readZ_itoa]
    simp only
    rw [if_neg (itoa_no n), h1]
  · rw [if_neg h1, front_app (itoa_no n), readZ_itoa]
    simp only
    rw [if_pos (by simp), back_app (itoa_no n), readZ_itoa]
    simp only
    rw [if_pos ⟨hd, h1, hg⟩]
theorem text_readF {s : List UInt8} {n d : Int} (h : readF s = some (n, d)) : fracText n d = s ∧ 0 < d ∧ gcdZ n d = 1 := by
  unfold readF at h
  cases hz : readZ (frontS s) with
  | none => rw [hz] at h; cases h
  | some m =>
    rw [hz] at h
    simp only at h
    by_cases hb : (47 : UInt8) ∈ s
    · rw [if_pos hb] at h
      cases hy : readZ (backS s) with
      | none => rw [hy] at h; cases h
      | some k =>
        rw [hy] at h
        simp only at h
        split at h
        · rename_i hk
          injection h with e
          injection e with e1 e2
          subst e1 e2
          refine ⟨?_, hk.1, hk.2.2⟩
          unfold fracText
          rw [if_neg hk.2.1, itoa_readZ hz, itoa_readZ hy, ← split_at_bar hb]
        · cases h
    · rw [if_neg hb] at h
      injection h with e
      injection e with e1 e2
      subst e1 e2
      refine ⟨?_, by omega, by unfold gcdZ; simp⟩
      unfold fracText
      rw [if_pos rfl, itoa_readZ hz, front_all hb]
end Go.Proofs.YtipmkkobdbgphaaGreatDoor

/-
  DERIVED: THE SHELF's CONTRACTS AT THIS DUMP, IN PLAIN WORDS (tools/lay-plain.mjs out of 'TryzShelf.lean', which tools/lay-shelf.mjs wrote): THE SAME DECLARATIONS UNDER THE SAME NAMES: 'import', 'namespace', 'open', 'def', 'theorem' AND NOTHING ELSE: no command of the shelf's: FOR A HAND-IN. Each laying: the table of numbers ('.._ren') and one theorem, a field a fact of the dump's own or the kernel's comparison; each contract: ONE APPLICATION.
-/
namespace Go.Proofs

open Go.Shelf
def Tryz.lays160_ren : Go.Shelf.Ren := ⟨fun | 160 => 225 | 232 => 252 | 231 => 251 | 227 => 253 | 234 => 255 | 233 => 254 | 236 => 257 | 235 => 256 | 228 => 273 | 271 => 276 | 151 => 275 | 197 => 274 | 120 => 293 | 152 => 292 | 260 => 291 | 137 => 303 | 119 => 304 | 224 => 270 | 225 => 269 | 217 => 268 | 266 => 289 | n => n, fun | 9 => 9 | 4 => 4 | 3 => 3 | 5 => 5 | 117 => 266 | 116 => 265 | 0 => 0 | 124 => 269 | 21 => 21 | 105 => 280 | 46 => 105 | 119 => 310 | 139 => 313 | 138 => 312 | n => n, fun | 3 => 7 | 4 => 8 | n => n⟩
theorem Tryz.lays160 : Go.Proofs.Lays.n160 Tryz.prog Tryz.lays160_ren := {
  mixed := by kernel_rfl
  f119 := Tryz.func304.trans (congrArg some (by kernel_rfl))
  f120 := Tryz.func293.trans (congrArg some (by kernel_rfl))
  f137 := Tryz.func303.trans (congrArg some (by kernel_rfl))
  f151 := Tryz.func275.trans (congrArg some (by kernel_rfl))
  f152 := Tryz.func292.trans (congrArg some (by kernel_rfl))
  f160 := Tryz.func225.trans (congrArg some (by kernel_rfl))
  f197 := Tryz.func274.trans (congrArg some (by kernel_rfl))
  f217 := Tryz.func268.trans (congrArg some (by kernel_rfl))
  f224 := Tryz.func270.trans (congrArg some (by kernel_rfl))
  f225 := Tryz.func269.trans (congrArg some (by kernel_rfl))
  f227 := Tryz.func253.trans (congrArg some (by kernel_rfl))
  f228 := Tryz.func273.trans (congrArg some (by kernel_rfl))
  f231 := Tryz.func251.trans (congrArg some (by kernel_rfl))
  f232 := Tryz.func252.trans (congrArg some (by kernel_rfl))
  f233 := Tryz.func254.trans (congrArg some (by kernel_rfl))
  f234 := Tryz.func255.trans (congrArg some (by kernel_rfl))
  f235 := Tryz.func256.trans (congrArg some (by kernel_rfl))
  f236 := Tryz.func257.trans (congrArg some (by kernel_rfl))
  f260 := Tryz.func291.trans (congrArg some (by kernel_rfl))
  f266 := Tryz.func289.trans (congrArg some (by kernel_rfl))
  f271 := Tryz.func276.trans (congrArg some (by kernel_rfl))
  t0 := Tryz.underlying0
  a0 := Tryz.isAgg0
  z0 := Tryz.sizeOf0
  v0 := Tryz.zeroValue0
  t3 := Tryz.underlying3
  a3 := Tryz.isAgg3
  z3 := Tryz.sizeOf3
  v3 := Tryz.zeroValue3
  t4 := Tryz.underlying4
  a4 := Tryz.isAgg4
  z4 := Tryz.sizeOf4
  v4 := Tryz.zeroValue4
  t5 := Tryz.underlying5
  a5 := Tryz.isAgg5
  z5 := Tryz.sizeOf5
  v5 := Tryz.zeroValue5
  t9 := Tryz.underlying9
  a9 := Tryz.isAgg9
  z9 := Tryz.sizeOf9
  v9 := Tryz.zeroValue9
  t21 := Tryz.underlying21
  a21 := Tryz.isAgg21
  z21 := Tryz.sizeOf21
  v21 := Tryz.zeroValue21
  t46 := Tryz.underlying105
  a46 := Tryz.isAgg105
  z46 := Tryz.sizeOf105
  v46 := Tryz.zeroValue105
  t105 := Tryz.underlying280
  a105 := Tryz.isAgg280
  z105 := Tryz.sizeOf280
  v105 := Tryz.zeroValue280
  t116 := Tryz.underlying265
  a116 := Tryz.isAgg265
  z116 := Tryz.sizeOf265
  t117 := Tryz.underlying266
  a117 := Tryz.isAgg266
  z117 := Tryz.sizeOf266
  v117 := Tryz.zeroValue266
  t119 := Tryz.underlying310
  a119 := Tryz.isAgg310
  z119 := Tryz.sizeOf310
  t124 := Tryz.underlying269
  a124 := Tryz.isAgg269
  z124 := Tryz.sizeOf269
  v124 := Tryz.zeroValue269
  t138 := Tryz.underlying312
  a138 := Tryz.isAgg312
  z138 := Tryz.sizeOf312
  v138 := Tryz.zeroValue312
  t139 := Tryz.underlying313
  a139 := Tryz.isAgg313
  z139 := Tryz.sizeOf313
  v139 := Tryz.zeroValue313
  g3 := by kernel_rfl
  g4 := by kernel_rfl }
def Tryz.lays103_ren : Go.Shelf.Ren := ⟨fun | 103 => 224 | 210 => 250 | 206 => 272 | n => n, fun | 9 => 9 | 4 => 4 | 24 => 251 | 3 => 3 | n => n, fun | n => n⟩
theorem Tryz.lays103 : Go.Proofs.Lays.n103 Tryz.prog Tryz.lays103_ren := {
  mixed := by kernel_rfl
  f103 := Tryz.func224.trans (congrArg some (by kernel_rfl))
  f206 := Tryz.func272.trans (congrArg some (by kernel_rfl))
  f210 := Tryz.func250.trans (congrArg some (by kernel_rfl))
  t3 := Tryz.underlying3
  a3 := Tryz.isAgg3
  z3 := Tryz.sizeOf3
  v3 := Tryz.zeroValue3
  t4 := Tryz.underlying4
  a4 := Tryz.isAgg4
  z4 := Tryz.sizeOf4
  v4 := Tryz.zeroValue4
  t9 := Tryz.underlying9
  a9 := Tryz.isAgg9
  z9 := Tryz.sizeOf9
  v9 := Tryz.zeroValue9
  t24 := Tryz.underlying251
  a24 := Tryz.isAgg251
  z24 := Tryz.sizeOf251
  v24 := Tryz.zeroValue251 }
open Go.RowKit in
theorem Tryz.strings_CutPrefix (s p : ByteArray) (w : World) :
    Calls Tryz.prog 224 #[.string s, .string p] w fun e w' => e = .returned (.tuple #[.string ⟨(Lib.trimPrefix s.data.toList p.data.toList).toArray⟩, .bool (Lib.hasPrefix s.data.toList p.data.toList)]) ∧ w' = w := Any.strings_CutPrefix Tryz.lays103 s p w
def Tryz.lays172_ren : Go.Shelf.Ren := ⟨fun | 172 => 226 | 244 => 258 | 245 => 259 | 247 => 277 | 279 => 278 | 280 => 279 | 281 => 280 | 282 => 281 | 287 => 294 | 316 => 295 | 171 => 218 | 205 => 296 | 321 => 305 | 322 => 306 | 243 => 247 | 246 => 266 | 283 => 285 | 284 => 286 | 285 => 287 | 286 => 288 | 129 => 299 | 317 => 298 | 318 => 300 | 319 => 301 | 320 => 302 | 337 => 307 | 338 => 128 | n => n, fun | 9 => 9 | 3 => 3 | 75 => 244 | 76 => 246 | 4 => 4 | 5 => 5 | 167 => 283 | 37 => 240 | 0 => 0 | 85 => 284 | 2 => 2 | 168 => 286 | 53 => 64 | 175 => 298 | 46 => 105 | 210 => 302 | 127 => 261 | 145 => 319 | 143 => 317 | 21 => 21 | 171 => 292 | 173 => 294 | 212 => 306 | 51 => 104 | 20 => 20 | 213 => 307 | 232 => 320 | 233 => 229 | 80 => 248 | n => n, fun | 15 => 4 | 16 => 5 | 17 => 6 | 18 => 9 | 19 => 1 | n => n⟩
theorem Tryz.lays172 : Go.Proofs.Lays.n172 Tryz.prog Tryz.lays172_ren := {
  mixed := by kernel_rfl
  f129 := Tryz.func299.trans (congrArg some (by kernel_rfl))
  f171 := Tryz.func218.trans (congrArg some (by kernel_rfl))
  f172 := Tryz.func226.trans (congrArg some (by kernel_rfl))
  f205 := Tryz.func296.trans (congrArg some (by kernel_rfl))
  f243 := Tryz.func247.trans (congrArg some (by kernel_rfl))
  f244 := Tryz.func258.trans (congrArg some (by kernel_rfl))
  f245 := Tryz.func259.trans (congrArg some (by kernel_rfl))
  f246 := Tryz.func266.trans (congrArg some (by kernel_rfl))
  f247 := Tryz.func277.trans (congrArg some (by kernel_rfl))
  f279 := Tryz.func278.trans (congrArg some (by kernel_rfl))
  f280 := Tryz.func279.trans (congrArg some (by kernel_rfl))
  f281 := Tryz.func280.trans (congrArg some (by kernel_rfl))
  f282 := Tryz.func281.trans (congrArg some (by kernel_rfl))
  f283 := Tryz.func285.trans (congrArg some (by kernel_rfl))
  f284 := Tryz.func286.trans (congrArg some (by kernel_rfl))
  f285 := Tryz.func287.trans (congrArg some (by kernel_rfl))
  f286 := Tryz.func288.trans (congrArg some (by kernel_rfl))
  f287 := Tryz.func294.trans (congrArg some (by kernel_rfl))
  f316 := Tryz.func295.trans (congrArg some (by kernel_rfl))
  f317 := Tryz.func298.trans (congrArg some (by kernel_rfl))
  f318 := Tryz.func300.trans (congrArg some (by kernel_rfl))
  f319 := Tryz.func301.trans (congrArg some (by kernel_rfl))
  f320 := Tryz.func302.trans (congrArg some (by kernel_rfl))
  f321 := Tryz.func305.trans (congrArg some (by kernel_rfl))
  f322 := Tryz.func306.trans (congrArg some (by kernel_rfl))
  f337 := Tryz.func307.trans (congrArg some (by kernel_rfl))
  f338 := Tryz.func128.trans (congrArg some (by kernel_rfl))
  t0 := Tryz.underlying0
  a0 := Tryz.isAgg0
  z0 := Tryz.sizeOf0
  v0 := Tryz.zeroValue0
  t2 := Tryz.underlying2
  a2 := Tryz.isAgg2
  z2 := Tryz.sizeOf2
  v2 := Tryz.zeroValue2
  t3 := Tryz.underlying3
  a3 := Tryz.isAgg3
  z3 := Tryz.sizeOf3
  v3 := Tryz.zeroValue3
  t4 := Tryz.underlying4
  a4 := Tryz.isAgg4
  z4 := Tryz.sizeOf4
  v4 := Tryz.zeroValue4
  t5 := Tryz.underlying5
  a5 := Tryz.isAgg5
  z5 := Tryz.sizeOf5
  v5 := Tryz.zeroValue5
  t9 := Tryz.underlying9
  a9 := Tryz.isAgg9
  z9 := Tryz.sizeOf9
  v9 := Tryz.zeroValue9
  t20 := Tryz.underlying20
  a20 := Tryz.isAgg20
  z20 := Tryz.sizeOf20
  v20 := Tryz.zeroValue20
  t21 := Tryz.underlying21
  a21 := Tryz.isAgg21
  z21 := Tryz.sizeOf21
  v21 := Tryz.zeroValue21
  t37 := Tryz.underlying240
  a37 := Tryz.isAgg240
  z37 := Tryz.sizeOf240
  v37 := Tryz.zeroValue240
  t46 := Tryz.underlying105
  a46 := Tryz.isAgg105
  z46 := Tryz.sizeOf105
  v46 := Tryz.zeroValue105
  t51 := Tryz.underlying104
  a51 := Tryz.isAgg104
  z51 := Tryz.sizeOf104
  v51 := Tryz.zeroValue104
  t53 := Tryz.underlying64
  a53 := Tryz.isAgg64
  z53 := Tryz.sizeOf64
  v53 := Tryz.zeroValue64
  t75 := Tryz.underlying244
  a75 := Tryz.isAgg244
  z75 := Tryz.sizeOf244
  v75 := Tryz.zeroValue244
  t76 := Tryz.underlying246
  a76 := Tryz.isAgg246
  z76 := Tryz.sizeOf246
  v76 := Tryz.zeroValue246
  t85 := Tryz.underlying284
  a85 := Tryz.isAgg284
  z85 := Tryz.sizeOf284
  v85 := Tryz.zeroValue284
  t127 := Tryz.underlying261
  a127 := Tryz.isAgg261
  z127 := Tryz.sizeOf261
  v127 := Tryz.zeroValue261
  t143 := Tryz.underlying317
  a143 := Tryz.isAgg317
  z143 := Tryz.sizeOf317
  v143 := Tryz.zeroValue317
  t145 := Tryz.underlying319
  a145 := Tryz.isAgg319
  z145 := Tryz.sizeOf319
  v145 := Tryz.zeroValue319
  t167 := Tryz.underlying283
  a167 := Tryz.isAgg283
  z167 := Tryz.sizeOf283
  v167 := Tryz.zeroValue283
  t168 := Tryz.underlying286
  a168 := Tryz.isAgg286
  z168 := Tryz.sizeOf286
  v168 := Tryz.zeroValue286
  t171 := Tryz.underlying292
  a171 := Tryz.isAgg292
  z171 := Tryz.sizeOf292
  v171 := Tryz.zeroValue292
  t173 := Tryz.underlying294
  a173 := Tryz.isAgg294
  z173 := Tryz.sizeOf294
  v173 := Tryz.zeroValue294
  t175 := Tryz.underlying298
  a175 := Tryz.isAgg298
  z175 := Tryz.sizeOf298
  v175 := Tryz.zeroValue298
  t210 := Tryz.underlying302
  a210 := Tryz.isAgg302
  z210 := Tryz.sizeOf302
  v210 := Tryz.zeroValue302
  t212 := Tryz.underlying306
  a212 := Tryz.isAgg306
  z212 := Tryz.sizeOf306
  v212 := Tryz.zeroValue306
  t213 := Tryz.underlying307
  a213 := Tryz.isAgg307
  z213 := Tryz.sizeOf307
  t232 := Tryz.underlying320
  a232 := Tryz.isAgg320
  z232 := Tryz.sizeOf320
  v232 := Tryz.zeroValue320
  t233 := Tryz.underlying229
  a233 := Tryz.isAgg229
  z233 := Tryz.sizeOf229
  v233 := Tryz.zeroValue229
  g15 := by kernel_rfl
  g16 := by kernel_rfl
  g17 := by kernel_rfl
  g18 := by kernel_rfl
  g19 := by kernel_rfl }
open Go.RowKit in
theorem Tryz.strconv_Atoi (s : ByteArray) (n : Int) (hl : s.size ≤ 18) (h : Lib.atoi s.data.toList = some n) (w : World) :
    Calls Tryz.prog 226 #[.string s] w fun e w' => e = .returned (.tuple #[.int .i64 n, .nilIface]) ∧ ∃ t, w' = Lib.bytesWorld w 5 t := Any.strconv_Atoi Tryz.lays172 s n hl h w
def Tryz.lays219_ren : Go.Shelf.Ren := ⟨fun | 219 => 249 | 217 => 268 | 225 => 269 | 224 => 270 | 267 => 271 | 266 => 289 | 314 => 290 | n => n, fun | 9 => 9 | 3 => 3 | 4 => 4 | 5 => 5 | 46 => 105 | 146 => 258 | 51 => 104 | n => n, fun | 1 => 3 | n => n⟩
theorem Tryz.lays219 : Go.Proofs.Lays.n219 Tryz.prog Tryz.lays219_ren := {
  mixed := by kernel_rfl
  f217 := Tryz.func268.trans (congrArg some (by kernel_rfl))
  f219 := Tryz.func249.trans (congrArg some (by kernel_rfl))
  f224 := Tryz.func270.trans (congrArg some (by kernel_rfl))
  f225 := Tryz.func269.trans (congrArg some (by kernel_rfl))
  f266 := Tryz.func289.trans (congrArg some (by kernel_rfl))
  f267 := Tryz.func271.trans (congrArg some (by kernel_rfl))
  f314 := Tryz.func290.trans (congrArg some (by kernel_rfl))
  t3 := Tryz.underlying3
  a3 := Tryz.isAgg3
  z3 := Tryz.sizeOf3
  v3 := Tryz.zeroValue3
  t4 := Tryz.underlying4
  a4 := Tryz.isAgg4
  z4 := Tryz.sizeOf4
  v4 := Tryz.zeroValue4
  t5 := Tryz.underlying5
  a5 := Tryz.isAgg5
  z5 := Tryz.sizeOf5
  v5 := Tryz.zeroValue5
  t9 := Tryz.underlying9
  a9 := Tryz.isAgg9
  z9 := Tryz.sizeOf9
  v9 := Tryz.zeroValue9
  t46 := Tryz.underlying105
  a46 := Tryz.isAgg105
  z46 := Tryz.sizeOf105
  v46 := Tryz.zeroValue105
  t51 := Tryz.underlying104
  a51 := Tryz.isAgg104
  z51 := Tryz.sizeOf104
  v51 := Tryz.zeroValue104
  t146 := Tryz.underlying258
  a146 := Tryz.isAgg258
  z146 := Tryz.sizeOf258
  v146 := Tryz.zeroValue258
  g1 := by kernel_rfl }
open Go.RowKit Go.Lib in
theorem Tryz.stringslite_Index_one (s : ByteArray) (c : UInt8) (w : World) :
    Calls Tryz.prog 249 #[.string s, .string ⟨#[c]⟩] w fun e w' => e = .returned (.int .i64 (Lib.indexByte s.data.toList c)) ∧ w' = w := Any.stringslite_Index_one Tryz.lays219 s c w
end Go.Proofs

/- strings.Cut by one bar. -/
namespace Go.Proofs.YtipmkkobdbgphaaGreatDoor
open Go.RowKit

theorem index_front : ∀ {s : List UInt8}, (47 : UInt8) ∈ s → Lib.indexByte s 47 = ((frontS s).length : Int)
  | [], h => by cases h
  | x :: r, h => by
    unfold Lib.indexByte
    by_cases hx : x = 47
    · subst hx; simp [frontS]
    · have hr : (47 : UInt8) ∈ r := (List.mem_cons.1 h).resolve_left fun e => hx e.symm
      have ih := index_front hr
      have e1 : frontS (x :: r) = x :: frontS r := by unfold frontS; rw [List.takeWhile_cons, if_pos (by simpa using hx)]
      rw [if_neg (by simpa using hx), ih, e1, if_neg (by simp), List.length_cons]
      omega
theorem index_no : ∀ {s : List UInt8}, (47 : UInt8) ∉ s → Lib.indexByte s 47 = -1
  | [], _ => rfl
  | x :: r, h => by
    have hx : x ≠ 47 := fun e => h (by rw [e]; exact List.mem_cons_self ..)
    unfold Lib.indexByte
    rw [if_neg (by simpa using hx), index_no fun k => h (List.mem_cons_of_mem _ k)]
    rfl
theorem front_len {s : List UInt8} (h : (47 : UInt8) ∈ s) : (frontS s).length + 1 + (backS s).length = s.length := by
  have e := congrArg List.length (split_at_bar h)
  rw [List.length_append, List.length_cons] at e
  omega
theorem ext_front {s : ByteArray} (h : (47 : UInt8) ∈ s.data.toList) : s.extract 0 (frontS s.data.toList).length = ⟨(frontS s.data.toList).toArray⟩ := by
  apply ByteArray.ext
  apply Array.ext'
  rw [Lib.extract_data]
  have e := split_at_bar h
  simp only [List.drop_zero, Nat.sub_zero]
  generalize frontS s.data.toList = a at *
  generalize backS s.data.toList = b at *
  rw [e]; simp
theorem ext_back {s : ByteArray} : s.extract ((frontS s.data.toList).length + 1) s.size = ⟨(backS s.data.toList).toArray⟩ := by
  apply ByteArray.ext
  apply Array.ext'
  rw [Lib.extract_data]
  unfold backS
  rw [List.take_of_length_le]
  rw [List.length_drop, ← Lib.size_eq]
  omega

theorem cut_no (s : ByteArray) (h : (47 : UInt8) ∉ s.data.toList) (w : World) :
    Calls Tryz.prog 223 #[.string s, .string ⟨#[47]⟩] w fun e w' => e = .returned (.tuple #[.string s, .string ⟨#[]⟩, .bool false]) ∧ Below w.heap.size w w' := by
  have C := Tryz.stringslite_Index_one s 47 w
  rw [index_no h] at C
  clear h
  go_enter Tryz.func223, Tryz.ntmps223
  go_wp2_with fail
  refine C.mono ?_
  rintro e w' ⟨rfl, hw⟩
  have HW := Hd hw
  clear hw C
  go_wp2_with fail
  go_ret3
  exact ⟨rfl, by rw [HW.out]; exact Below.refl _ _⟩
theorem cut_at (s : ByteArray) (i : Nat) (hi : Lib.indexByte s.data.toList 47 = (i : Int)) (hl : i + 1 ≤ s.size) (hs : s.size ≤ 65536) (w : World) :
    Calls Tryz.prog 223 #[.string s, .string ⟨#[47]⟩] w fun e w' => e = .returned (.tuple #[.string (s.extract 0 i), .string (s.extract (i + 1) s.size), .bool true]) ∧ Below w.heap.size w w' := by
  have C := Tryz.stringslite_Index_one s 47 w
  rw [hi] at C
  have a1 : (0 : Int) ≤ (i : Int) := by omega
  have a2 : (i : Int) ≤ (s.size : Int) := by omega
  have a3 : (i : Int) + 1 ≤ (s.size : Int) := by omega
  have a4 : (0 : Int) ≤ (i : Int) + 1 := by omega
  have hw1 : IntKind.i64.wrap ((i : Int) + 1) = (i : Int) + 1 := by apply IntWalk.i64_in <;> omega
  have ht : ((i : Int) + 1).toNat = i + 1 := by omega
  clear hi
  go_enter Tryz.func223, Tryz.ntmps223
  go_wp2_with fail
  refine C.mono ?_
  rintro e w' ⟨rfl, hw⟩
  have HW := Hd hw
  clear hw C
  go_wp2_with fail
  go_region
  go_wp2_with fail
  go_ret3
  exact ⟨rfl, by rw [HW.out]; exact (Below.refl _ _).drew⟩
theorem strings_cut (s a b : ByteArray) (f : Bool) (w : World) (C : Calls Tryz.prog 223 #[.string s, .string ⟨#[47]⟩] w fun e w' => e = .returned (.tuple #[.string a, .string b, .bool f]) ∧ Below w.heap.size w w') :
    Calls Tryz.prog 185 #[.string s, .string ⟨#[47]⟩] w fun e w' => e = .returned (.tuple #[.string a, .string b, .bool f]) ∧ Below w.heap.size w w' := by
  go_enter Tryz.func185, Tryz.ntmps185
  go_wp2_with fail
  refine C.mono ?_
  rintro e w' ⟨rfl, hw⟩
  have HW := Hd hw
  clear hw C
  go_wp2_with fail
  go_ret3
  exact ⟨rfl, HW.out⟩
def cutB (s : List UInt8) : List UInt8 := if 47 ∈ s then backS s else []
theorem strings_Cut_bar (s : ByteArray) (hs : s.size ≤ 65536) (w : World) :
    Calls Tryz.prog 185 #[.string s, .string ⟨#[47]⟩] w fun e w' => e = .returned (.tuple #[.string ⟨(frontS s.data.toList).toArray⟩, .string ⟨(cutB s.data.toList).toArray⟩, .bool (decide (47 ∈ s.data.toList))]) ∧ Below w.heap.size w w' := by
  by_cases h : (47 : UInt8) ∈ s.data.toList
  · have hl := front_len h
    rw [← Lib.size_eq] at hl
    have C := strings_cut s _ _ _ w (cut_at s (frontS s.data.toList).length (index_front h) (by omega) hs w)
    rw [ext_front h, ext_back] at C
    unfold cutB
    rw [if_pos h, decide_eq_true h]
    exact C
  · have C := strings_cut s _ _ _ w (cut_no s h w)
    unfold cutB
    rw [if_neg h, decide_eq_false h, front_all h]
    exact C
/- How many limbs a number has of which the text is told; plain. -/

theorem dec_room (k v : Nat) (h : (Lib.decDigits v).length ≤ k) : v < 10 ^ k := by
  refine Decidable.byContradiction fun hn => ?_
  have e := dec_split k v (by omega)
  have e2 := congrArg List.length e
  rw [List.length_append, padN_length] at e2
  have h3 : (Lib.decDigits (v / 10 ^ k)).length ≠ 0 := fun h0 => dec_ne _ (List.eq_nil_of_length_eq_zero h0)
  omega
theorem lz_room (k : Nat) (x : Int) (h : (Lib.decDigits x.natAbs).length ≤ 9 * k) : lz x ≤ k := by
  unfold lz
  refine natL_length_le.2 (Nat.lt_of_lt_of_le (dec_room _ _ h) ?_)
  rw [Nat.pow_mul]
  exact Nat.pow_le_pow_left (by decide) _
theorem lz_read {s : List UInt8} {z : Int} (h : readZ s = some z) (hs : s.length ≤ 65536) : lz z ≤ 7282 := by
  refine lz_room 7282 z ?_
  have e := congrArg List.length (itoa_readZ h)
  unfold Lib.itoa at e
  split at e
  · rw [List.length_cons] at e; omega
  · rename_i hz
    rw [show z.toNat = z.natAbs by omega] at e
    omega
theorem front_le (s : List UInt8) : (frontS s).length ≤ s.length := (List.takeWhile_sublist _).length_le
theorem back_le (s : List UInt8) : (backS s).length ≤ s.length := by unfold backS; rw [List.length_drop]; omega
end Go.Proofs.YtipmkkobdbgphaaGreatDoor
