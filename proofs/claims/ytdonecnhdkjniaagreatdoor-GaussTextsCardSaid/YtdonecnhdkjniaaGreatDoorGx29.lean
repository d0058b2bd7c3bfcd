/- Several texts in one: ReadF, ShelfR, CutBar, ReadFit, Bytes. -/
import Derived.Test.YtdonecnhdkjniaaGreatDoorGx28
import Derived.Shelf.Small.Wraps
import Derived.Shelf.Strconv.Atoi
import Derived.Shelf.Strings.Search2
import Derived.Shelf.Strings.Trim
import Derived.Lib.IndexLaws
import Derived.Lib.UnsafeStr
set_option maxRecDepth 100000
set_option maxHeartbeats 8000000
namespace Go.Proofs.YtdonecnhdkjniaaGreatDoor

def ZA (s : List UInt8) : List UInt8 := s.takeWhile (· ≠ 47)
def YQ (s : List UInt8) : List UInt8 := s.drop ((ZA s).length + 1)
def Yf (s : List UInt8) : Option (Int × Int) := match Yy (ZA s) with
 | none => none
 | some n => if 47 ∈ s then (match Yy (YQ s) with
   | none => none
   | some d => if 0 < d /\ d ≠ 1 /\ ZL n d = 1 then some (n, d) else none)
  else some (n, 1)
theorem JH : ∀ {s : List UInt8}, (47 : UInt8) ∉ s -> ZA s = s
 | [], _ => rfl
 | x :: r, h => by
  have hx : x ≠ 47 := fun e => h (by rw [e]; exact List.mem_cons_self ..)
  unfold ZA
  rw [List.takeWhile_cons, if_pos (by simpa using hx)]
  exact congrArg (x :: ·) (JH fun k => h (List.mem_cons_of_mem _ k))
theorem front_app {a b : List UInt8} (h : (47 : UInt8) ∉ a) : ZA (a ++ 47 :: b) = a := by
 unfold ZA
 induction a with
 | nil => rfl
 | cons x r ih =>
  have hx : x ≠ 47 := fun e => h (by rw [e]; exact List.mem_cons_self ..)
  rw [List.cons_append, List.takeWhile_cons, if_pos (by simpa using hx), ih fun k => h (List.mem_cons_of_mem _ k)]
theorem back_app {a b : List UInt8} (h : (47 : UInt8) ∉ a) : YQ (a ++ 47 :: b) = b := by
 unfold YQ
 rw [front_app h]
 simp
theorem Y9 : ∀ {s : List UInt8}, (47 : UInt8) ∈ s -> s = ZA s ++ 47 :: YQ s
 | [], h => by cases h
 | x :: r, h => by
  by_cases hx : x = 47
  . subst hx; simp [ZA, YQ]
  . have hr : (47 : UInt8) ∈ r := (List.mem_cons.1 h).resolve_left fun e => hx e.symm
    have ih := Y9 hr
    have e1 : ZA (x :: r) = x :: ZA r := by unfold ZA; rw [List.takeWhile_cons, if_pos (by simpa using hx)]
    have e2 : YQ (x :: r) = YQ r := by unfold YQ; rw [e1]; simp
    rw [e1, e2, List.cons_append, <- ih]
theorem front_no : ∀ (s : List UInt8), (47 : UInt8) ∉ ZA s
 | [], h => by cases h
 | x :: r, h => by
  unfold ZA at h
  rw [List.takeWhile_cons] at h
  split at h
  . rename_i hx
    rcases List.mem_cons.1 h with e | e
    . subst e; simp at hx
    . exact front_no r e
  . cases h
theorem itoa_no (x : Int) : (47 : UInt8) ∉ Lib.itoa x := fun h => by
 unfold Lib.itoa at h
 split at h
 . rcases List.mem_cons.1 h with e | e
   . exact absurd e (by decide)
   . have := (J4 _ e).1; exact absurd this (by decide)
 . have := (J4 _ h).1; exact absurd this (by decide)
theorem YM {n d : Int} (hd : 0 < d) (hg : ZL n d = 1) : Yf (Zk n d) = some (n, d) := by
 unfold Zk Yf
 by_cases h1 : d = 1
 . rw [if_pos h1, JH (itoa_no n), Ja]
   simp only
   rw [if_neg (itoa_no n), h1]
 . rw [if_neg h1, front_app (itoa_no n), Ja]
   simp only
   rw [if_pos (by simp), back_app (itoa_no n), Ja]
   simp only
   rw [if_pos ⟨hd, h1, hg⟩]
theorem Xm {s : List UInt8} {n d : Int} (h : Yf s = some (n, d)) : Zk n d = s /\ 0 < d /\ ZL n d = 1 := by
 unfold Yf at h
 cases hz : Yy (ZA s) with
 | none => rw [hz] at h; cases h
 | some m =>
   rw [hz] at h
   simp only at h
   by_cases hb : (47 : UInt8) ∈ s
   . rw [if_pos hb] at h
     cases hy : Yy (YQ s) with
     | none => rw [hy] at h; cases h
     | some k =>
       rw [hy] at h
       simp only at h
       split at h
       . rename_i hk
         injection h with e
         injection e with e1 e2
         subst e1 e2
         refine ⟨?_, hk.1, hk.2.2⟩
         unfold Zk
         rw [if_neg hk.2.1, Jc hz, Jc hy, <- Y9 hb]
       . cases h
   . rw [if_neg hb] at h
     injection h with e
     injection e with e1 e2
     subst e1 e2
     refine ⟨?_, by omega, by unfold ZL; simp⟩
     unfold Zk
     rw [if_pos rfl, Jc hz, JH hb]
theorem lowest_told {s : List UInt8} {n d : Int} (hb : (47 : UInt8) ∈ s) (hz : Yy (ZA s) = some n) (hy : Yy (YQ s) = some d) (hd : 0 < d) :
   Zk (YX n d) (YP n d) = s ↔ d ≠ 1 /\ ZL n d = 1 := by
 have es : s = Lib.itoa n ++ 47 :: Lib.itoa d := by rw [Jc hz, Jc hy]; exact Y9 hb
 constructor
 . intro h
   unfold Zk at h
   by_cases h1 : YP n d = 1
   . rw [if_pos h1] at h
     exact absurd hb (by rw [<- h]; exact itoa_no _)
   . rw [if_neg h1, es] at h
     have e2 := congrArg YQ h
     rw [back_app (itoa_no _), back_app (itoa_no _)] at e2
     have e3 := itoa_inj.1 e2
     refine ⟨by rw [<- e3]; exact h1, ?_⟩
     have h4 := (Kk n hd).2
     rw [e3] at h4
     have h5 : d * ZL n d = d * 1 := by rw [h4, Int.mul_one]
     exact Int.eq_of_mul_eq_mul_left (by omega) h5
 . rintro ⟨h1, hg⟩
   have h4 := Kk n hd
   rw [hg, Int.mul_one, Int.mul_one] at h4
   unfold Zk
   rw [h4.1, h4.2, if_neg h1, es]
end Go.Proofs.YtdonecnhdkjniaaGreatDoor

namespace Go.Proofs

open Go.Shelf
def Tryz.lays160_ren : Go.Shelf.Ren := ⟨fun | 160 => 178 | 232 => 215 | 231 => 214 | 227 => 101 | 234 => 217 | 233 => 216 | 236 => 219 | 235 => 218 | 228 => 102 | 271 => 103 | 151 => 246 | 197 => 176 | 120 => 175 | 152 => 99 | 260 => 212 | 137 => 171 | 119 => 172 | 224 => 173 | 225 => 174 | 217 => 211 | 266 => 244 | n => n, fun | 9 => 9 | 4 => 4 | 3 => 3 | 5 => 5 | 117 => 90 | 116 => 89 | 0 => 0 | 124 => 235 | 21 => 21 | 105 => 93 | 46 => 218 | 119 => 264 | 139 => 267 | 138 => 266 | n => n, fun | 3 => 2 | 4 => 3 | n => n⟩
theorem Tryz.lays160 : Go.Proofs.Lays.n160 Tryz.prog Tryz.lays160_ren := {
 mixed := by kernel_rfl
 f119 := Tryz.func172.trans (congrArg some (by kernel_rfl))
 f120 := Tryz.func175.trans (congrArg some (by kernel_rfl))
 f137 := Tryz.func171.trans (congrArg some (by kernel_rfl))
 f151 := Tryz.func246.trans (congrArg some (by kernel_rfl))
 f152 := Tryz.func99.trans (congrArg some (by kernel_rfl))
 f160 := Tryz.func178.trans (congrArg some (by kernel_rfl))
 f197 := Tryz.func176.trans (congrArg some (by kernel_rfl))
 f217 := Tryz.func211.trans (congrArg some (by kernel_rfl))
 f224 := Tryz.func173.trans (congrArg some (by kernel_rfl))
 f225 := Tryz.func174.trans (congrArg some (by kernel_rfl))
 f227 := Tryz.func101.trans (congrArg some (by kernel_rfl))
 f228 := Tryz.func102.trans (congrArg some (by kernel_rfl))
 f231 := Tryz.func214.trans (congrArg some (by kernel_rfl))
 f232 := Tryz.func215.trans (congrArg some (by kernel_rfl))
 f233 := Tryz.func216.trans (congrArg some (by kernel_rfl))
 f234 := Tryz.func217.trans (congrArg some (by kernel_rfl))
 f235 := Tryz.func218.trans (congrArg some (by kernel_rfl))
 f236 := Tryz.func219.trans (congrArg some (by kernel_rfl))
 f260 := Tryz.func212.trans (congrArg some (by kernel_rfl))
 f266 := Tryz.func244.trans (congrArg some (by kernel_rfl))
 f271 := Tryz.func103.trans (congrArg some (by kernel_rfl))
 t0 := Tryz.underlying0
 a0 := Tryz.isAgg0
 z0 := Tryz.sizeOf0
 v0 := Tryz.zeroValue0
 t3 := Tryz.underlying3
 a3 := Tryz.isAgg3
 z3 := Tryz.sizeOf3
 v3 := Tryz.zeroValue3
 t4 := Tryz.underlying4
 a4 := Tryz.isAgg4
 z4 := Tryz.sizeOf4
 v4 := Tryz.zeroValue4
 t5 := Tryz.underlying5
 a5 := Tryz.isAgg5
 z5 := Tryz.sizeOf5
 v5 := Tryz.zeroValue5
 t9 := Tryz.underlying9
 a9 := Tryz.isAgg9
 z9 := Tryz.sizeOf9
 v9 := Tryz.zeroValue9
 t21 := Tryz.underlying21
 a21 := Tryz.isAgg21
 z21 := Tryz.sizeOf21
 v21 := Tryz.zeroValue21
 t46 := Tryz.underlying218
 a46 := Tryz.isAgg218
 z46 := Tryz.sizeOf218
 v46 := Tryz.zeroValue218
 t105 := Tryz.underlying93
 a105 := Tryz.isAgg93
 z105 := Tryz.sizeOf93
 v105 := Tryz.zeroValue93
 t116 := Tryz.underlying89
 a116 := Tryz.isAgg89
 z116 := Tryz.sizeOf89
 t117 := Tryz.underlying90
 a117 := Tryz.isAgg90
 z117 := Tryz.sizeOf90
 v117 := Tryz.zeroValue90
 t119 := Tryz.underlying264
 a119 := Tryz.isAgg264
 z119 := Tryz.sizeOf264
 t124 := Tryz.underlying235
 a124 := Tryz.isAgg235
 z124 := Tryz.sizeOf235
 v124 := Tryz.zeroValue235
 t138 := Tryz.underlying266
 a138 := Tryz.isAgg266
 z138 := Tryz.sizeOf266
 v138 := Tryz.zeroValue266
 t139 := Tryz.underlying267
 a139 := Tryz.isAgg267
 z139 := Tryz.sizeOf267
 v139 := Tryz.zeroValue267
 g3 := by kernel_rfl
 g4 := by kernel_rfl }
def Tryz.lays103_ren : Go.Shelf.Ren := ⟨fun | 103 => 29 | 210 => 108 | 206 => 182 | n => n, fun | 9 => 9 | 4 => 4 | 24 => 66 | 3 => 3 | n => n, fun | n => n⟩
theorem Tryz.lays103 : Go.Proofs.Lays.n103 Tryz.prog Tryz.lays103_ren := {
 mixed := by kernel_rfl
 f103 := Tryz.func29.trans (congrArg some (by kernel_rfl))
 f206 := Tryz.func182.trans (congrArg some (by kernel_rfl))
 f210 := Tryz.func108.trans (congrArg some (by kernel_rfl))
 t3 := Tryz.underlying3
 a3 := Tryz.isAgg3
 z3 := Tryz.sizeOf3
 v3 := Tryz.zeroValue3
 t4 := Tryz.underlying4
 a4 := Tryz.isAgg4
 z4 := Tryz.sizeOf4
 v4 := Tryz.zeroValue4
 t9 := Tryz.underlying9
 a9 := Tryz.isAgg9
 z9 := Tryz.sizeOf9
 v9 := Tryz.zeroValue9
 t24 := Tryz.underlying66
 a24 := Tryz.isAgg66
 z24 := Tryz.sizeOf66
 v24 := Tryz.zeroValue66 }
open Go.RowKit in
theorem Tryz.strings_CutPrefix (s p : ByteArray) (w : World) :
 Calls Tryz.prog 29 #[.string s, .string p] w fun e w' => e = .returned (.tuple #[.string ⟨(Lib.trimPrefix s.data.toList p.data.toList).toArray⟩, .bool (Lib.hasPrefix s.data.toList p.data.toList)]) /\ w' = w := Any.strings_CutPrefix Tryz.lays103 s p w
def Tryz.lays104_ren : Go.Shelf.Ren := ⟨fun | 104 => 25 | 211 => 98 | 207 => 170 | n => n, fun | 9 => 9 | 4 => 4 | 24 => 66 | 3 => 3 | n => n, fun | n => n⟩
theorem Tryz.lays104 : Go.Proofs.Lays.n104 Tryz.prog Tryz.lays104_ren := {
 mixed := by kernel_rfl
 f104 := Tryz.func25.trans (congrArg some (by kernel_rfl))
 f207 := Tryz.func170.trans (congrArg some (by kernel_rfl))
 f211 := Tryz.func98.trans (congrArg some (by kernel_rfl))
 t3 := Tryz.underlying3
 a3 := Tryz.isAgg3
 z3 := Tryz.sizeOf3
 v3 := Tryz.zeroValue3
 t4 := Tryz.underlying4
 a4 := Tryz.isAgg4
 z4 := Tryz.sizeOf4
 v4 := Tryz.zeroValue4
 t9 := Tryz.underlying9
 a9 := Tryz.isAgg9
 z9 := Tryz.sizeOf9
 v9 := Tryz.zeroValue9
 t24 := Tryz.underlying66
 a24 := Tryz.isAgg66
 z24 := Tryz.sizeOf66
 v24 := Tryz.zeroValue66 }
open Go.RowKit in
theorem Tryz.strings_CutSuffix (s p : ByteArray) (w : World) (hs : s.size <= 9223372036854775807) :
 Calls Tryz.prog 25 #[.string s, .string p] w fun e w' => e = .returned (.tuple #[.string ⟨(Lib.trimSuffix s.data.toList p.data.toList).toArray⟩, .bool (Lib.hasSuffix s.data.toList p.data.toList)]) /\ w' = w := Any.strings_CutSuffix Tryz.lays104 s p w hs
def Tryz.lays172_ren : Go.Shelf.Ren := ⟨fun | 172 => 179 | 244 => 220 | 245 => 221 | 247 => 247 | 279 => 248 | 280 => 249 | 281 => 250 | 282 => 251 | 287 => 271 | 316 => 272 | 171 => 164 | 205 => 273 | 321 => 290 | 322 => 291 | 243 => 207 | 246 => 242 | 283 => 266 | 284 => 267 | 285 => 268 | 286 => 269 | 129 => 286 | 317 => 285 | 318 => 287 | 319 => 288 | 320 => 289 | 337 => 292 | 338 => 293 | n => n, fun | 9 => 9 | 3 => 3 | 75 => 226 | 76 => 228 | 4 => 4 | 5 => 5 | 167 => 269 | 37 => 222 | 0 => 0 | 85 => 270 | 2 => 2 | 168 => 272 | 53 => 216 | 175 => 286 | 46 => 218 | 210 => 290 | 127 => 248 | 145 => 304 | 143 => 302 | 21 => 21 | 171 => 280 | 173 => 283 | 212 => 297 | 51 => 109 | 20 => 20 | 213 => 298 | 232 => 305 | 233 => 306 | 80 => 230 | n => n, fun | 15 => 4 | 16 => 5 | 17 => 6 | 18 => 7 | 19 => 8 | n => n⟩
theorem Tryz.lays172 : Go.Proofs.Lays.n172 Tryz.prog Tryz.lays172_ren := {
 mixed := by kernel_rfl
 f129 := Tryz.func286.trans (congrArg some (by kernel_rfl))
 f171 := Tryz.func164.trans (congrArg some (by kernel_rfl))
 f172 := Tryz.func179.trans (congrArg some (by kernel_rfl))
 f205 := Tryz.func273.trans (congrArg some (by kernel_rfl))
 f243 := Tryz.func207.trans (congrArg some (by kernel_rfl))
 f244 := Tryz.func220.trans (congrArg some (by kernel_rfl))
 f245 := Tryz.func221.trans (congrArg some (by kernel_rfl))
 f246 := Tryz.func242.trans (congrArg some (by kernel_rfl))
 f247 := Tryz.func247.trans (congrArg some (by kernel_rfl))
 f279 := Tryz.func248.trans (congrArg some (by kernel_rfl))
 f280 := Tryz.func249.trans (congrArg some (by kernel_rfl))
 f281 := Tryz.func250.trans (congrArg some (by kernel_rfl))
 f282 := Tryz.func251.trans (congrArg some (by kernel_rfl))
 f283 := Tryz.func266.trans (congrArg some (by kernel_rfl))
 f284 := Tryz.func267.trans (congrArg some (by kernel_rfl))
 f285 := Tryz.func268.trans (congrArg some (by kernel_rfl))
 f286 := Tryz.func269.trans (congrArg some (by kernel_rfl))
 f287 := Tryz.func271.trans (congrArg some (by kernel_rfl))
 f316 := Tryz.func272.trans (congrArg some (by kernel_rfl))
 f317 := Tryz.func285.trans (congrArg some (by kernel_rfl))
 f318 := Tryz.func287.trans (congrArg some (by kernel_rfl))
 f319 := Tryz.func288.trans (congrArg some (by kernel_rfl))
 f320 := Tryz.func289.trans (congrArg some (by kernel_rfl))
 f321 := Tryz.func290.trans (congrArg some (by kernel_rfl))
 f322 := Tryz.func291.trans (congrArg some (by kernel_rfl))
 f337 := Tryz.func292.trans (congrArg some (by kernel_rfl))
 f338 := Tryz.func293.trans (congrArg some (by kernel_rfl))
 t0 := Tryz.underlying0
 a0 := Tryz.isAgg0
 z0 := Tryz.sizeOf0
 v0 := Tryz.zeroValue0
 t2 := Tryz.underlying2
 a2 := Tryz.isAgg2
 z2 := Tryz.sizeOf2
 v2 := Tryz.zeroValue2
 t3 := Tryz.underlying3
 a3 := Tryz.isAgg3
 z3 := Tryz.sizeOf3
 v3 := Tryz.zeroValue3
 t4 := Tryz.underlying4
 a4 := Tryz.isAgg4
 z4 := Tryz.sizeOf4
 v4 := Tryz.zeroValue4
 t5 := Tryz.underlying5
 a5 := Tryz.isAgg5
 z5 := Tryz.sizeOf5
 v5 := Tryz.zeroValue5
 t9 := Tryz.underlying9
 a9 := Tryz.isAgg9
 z9 := Tryz.sizeOf9
 v9 := Tryz.zeroValue9
 t20 := Tryz.underlying20
 a20 := Tryz.isAgg20
 z20 := Tryz.sizeOf20
 v20 := Tryz.zeroValue20
 t21 := Tryz.underlying21
 a21 := Tryz.isAgg21
 z21 := Tryz.sizeOf21
 v21 := Tryz.zeroValue21
 t37 := Tryz.underlying222
 a37 := Tryz.isAgg222
 z37 := Tryz.sizeOf222
 v37 := Tryz.zeroValue222
 t46 := Tryz.underlying218
 a46 := Tryz.isAgg218
 z46 := Tryz.sizeOf218
 v46 := Tryz.zeroValue218
 t51 := Tryz.underlying109
 a51 := Tryz.isAgg109
 z51 := Tryz.sizeOf109
 v51 := Tryz.zeroValue109
 t53 := Tryz.underlying216
 a53 := Tryz.isAgg216
 z53 := Tryz.sizeOf216
 v53 := Tryz.zeroValue216
 t75 := Tryz.underlying226
 a75 := Tryz.isAgg226
 z75 := Tryz.sizeOf226
 v75 := Tryz.zeroValue226
 t76 := Tryz.underlying228
 a76 := Tryz.isAgg228
 z76 := Tryz.sizeOf228
 v76 := Tryz.zeroValue228
 t85 := Tryz.underlying270
 a85 := Tryz.isAgg270
 z85 := Tryz.sizeOf270
 v85 := Tryz.zeroValue270
 t127 := Tryz.underlying248
 a127 := Tryz.isAgg248
 z127 := Tryz.sizeOf248
 v127 := Tryz.zeroValue248
 t143 := Tryz.underlying302
 a143 := Tryz.isAgg302
 z143 := Tryz.sizeOf302
 v143 := Tryz.zeroValue302
 t145 := Tryz.underlying304
 a145 := Tryz.isAgg304
 z145 := Tryz.sizeOf304
 v145 := Tryz.zeroValue304
 t167 := Tryz.underlying269
 a167 := Tryz.isAgg269
 z167 := Tryz.sizeOf269
 v167 := Tryz.zeroValue269
 t168 := Tryz.underlying272
 a168 := Tryz.isAgg272
 z168 := Tryz.sizeOf272
 v168 := Tryz.zeroValue272
 t171 := Tryz.underlying280
 a171 := Tryz.isAgg280
 z171 := Tryz.sizeOf280
 v171 := Tryz.zeroValue280
 t173 := Tryz.underlying283
 a173 := Tryz.isAgg283
 z173 := Tryz.sizeOf283
 v173 := Tryz.zeroValue283
 t175 := Tryz.underlying286
 a175 := Tryz.isAgg286
 z175 := Tryz.sizeOf286
 v175 := Tryz.zeroValue286
 t210 := Tryz.underlying290
 a210 := Tryz.isAgg290
 z210 := Tryz.sizeOf290
 v210 := Tryz.zeroValue290
 t212 := Tryz.underlying297
 a212 := Tryz.isAgg297
 z212 := Tryz.sizeOf297
 v212 := Tryz.zeroValue297
 t213 := Tryz.underlying298
 a213 := Tryz.isAgg298
 z213 := Tryz.sizeOf298
 t232 := Tryz.underlying305
 a232 := Tryz.isAgg305
 z232 := Tryz.sizeOf305
 v232 := Tryz.zeroValue305
 t233 := Tryz.underlying306
 a233 := Tryz.isAgg306
 z233 := Tryz.sizeOf306
 v233 := Tryz.zeroValue306
 g15 := by kernel_rfl
 g16 := by kernel_rfl
 g17 := by kernel_rfl
 g18 := by kernel_rfl
 g19 := by kernel_rfl }
open Go.RowKit in
theorem Tryz.strconv_Atoi (s : ByteArray) (n : Int) (hl : s.size <= 18) (h : Lib.atoi s.data.toList = some n) (w : World) :
 Calls Tryz.prog 179 #[.string s] w fun e w' => e = .returned (.tuple #[.int .i64 n, .nilIface]) /\ ∃ t, w' = Lib.bytesWorld w 5 t := Any.strconv_Atoi Tryz.lays172 s n hl h w
def Tryz.lays219_ren : Go.Shelf.Ren := ⟨fun | 219 => 213 | 217 => 211 | 225 => 174 | 224 => 173 | 267 => 245 | 266 => 244 | 314 => 270 | n => n, fun | 9 => 9 | 3 => 3 | 4 => 4 | 5 => 5 | 46 => 218 | 146 => 246 | 51 => 109 | n => n, fun | 1 => 0 | n => n⟩
theorem Tryz.lays219 : Go.Proofs.Lays.n219 Tryz.prog Tryz.lays219_ren := {
 mixed := by kernel_rfl
 f217 := Tryz.func211.trans (congrArg some (by kernel_rfl))
 f219 := Tryz.func213.trans (congrArg some (by kernel_rfl))
 f224 := Tryz.func173.trans (congrArg some (by kernel_rfl))
 f225 := Tryz.func174.trans (congrArg some (by kernel_rfl))
 f266 := Tryz.func244.trans (congrArg some (by kernel_rfl))
 f267 := Tryz.func245.trans (congrArg some (by kernel_rfl))
 f314 := Tryz.func270.trans (congrArg some (by kernel_rfl))
 t3 := Tryz.underlying3
 a3 := Tryz.isAgg3
 z3 := Tryz.sizeOf3
 v3 := Tryz.zeroValue3
 t4 := Tryz.underlying4
 a4 := Tryz.isAgg4
 z4 := Tryz.sizeOf4
 v4 := Tryz.zeroValue4
 t5 := Tryz.underlying5
 a5 := Tryz.isAgg5
 z5 := Tryz.sizeOf5
 v5 := Tryz.zeroValue5
 t9 := Tryz.underlying9
 a9 := Tryz.isAgg9
 z9 := Tryz.sizeOf9
 v9 := Tryz.zeroValue9
 t46 := Tryz.underlying218
 a46 := Tryz.isAgg218
 z46 := Tryz.sizeOf218
 v46 := Tryz.zeroValue218
 t51 := Tryz.underlying109
 a51 := Tryz.isAgg109
 z51 := Tryz.sizeOf109
 v51 := Tryz.zeroValue109
 t146 := Tryz.underlying246
 a146 := Tryz.isAgg246
 z146 := Tryz.sizeOf246
 v146 := Tryz.zeroValue246
 g1 := by kernel_rfl }
open Go.RowKit Go.Lib in
theorem Tryz.stringslite_Index_one (s : ByteArray) (c : UInt8) (w : World) :
 Calls Tryz.prog 213 #[.string s, .string ⟨#[c]⟩] w fun e w' => e = .returned (.int .i64 (Lib.indexByte s.data.toList c)) /\ w' = w := Any.stringslite_Index_one Tryz.lays219 s c w
end Go.Proofs

namespace Go.Proofs.YtdonecnhdkjniaaGreatDoor
open Go.RowKit

theorem index_front : ∀ {s : List UInt8}, (47 : UInt8) ∈ s -> Lib.indexByte s 47 = ((ZA s).length : Int)
 | [], h => by cases h
 | x :: r, h => by
  unfold Lib.indexByte
  by_cases hx : x = 47
  . subst hx; simp [ZA]
  . have hr : (47 : UInt8) ∈ r := (List.mem_cons.1 h).resolve_left fun e => hx e.symm
    have ih := index_front hr
    have e1 : ZA (x :: r) = x :: ZA r := by unfold ZA; rw [List.takeWhile_cons, if_pos (by simpa using hx)]
    rw [if_neg (by simpa using hx), ih, e1, if_neg (by simp), List.length_cons]
    omega
theorem index_no : ∀ {s : List UInt8}, (47 : UInt8) ∉ s -> Lib.indexByte s 47 = -1
 | [], _ => rfl
 | x :: r, h => by
  have hx : x ≠ 47 := fun e => h (by rw [e]; exact List.mem_cons_self ..)
  unfold Lib.indexByte
  rw [if_neg (by simpa using hx), index_no fun k => h (List.mem_cons_of_mem _ k)]
  rfl
theorem front_len {s : List UInt8} (h : (47 : UInt8) ∈ s) : (ZA s).length + 1 + (YQ s).length = s.length := by
 have e := congrArg List.length (Y9 h)
 rw [List.length_append, List.length_cons] at e
 omega
theorem ext_front {s : ByteArray} (h : (47 : UInt8) ∈ s.data.toList) : s.extract 0 (ZA s.data.toList).length = ⟨(ZA s.data.toList).toArray⟩ := by
 apply ByteArray.ext
 apply Array.ext'
 rw [Lib.extract_data]
 have e := Y9 h
 simp only [List.drop_zero, Nat.sub_zero]
 generalize ZA s.data.toList = a at *
 generalize YQ s.data.toList = b at *
 rw [e]; simp
theorem ext_back {s : ByteArray} : s.extract ((ZA s.data.toList).length + 1) s.size = ⟨(YQ s.data.toList).toArray⟩ := by
 apply ByteArray.ext
 apply Array.ext'
 rw [Lib.extract_data]
 unfold YQ
 rw [List.take_of_length_le]
 rw [List.length_drop, <- Lib.size_eq]
 omega

theorem cut_no (s : ByteArray) (h : (47 : UInt8) ∉ s.data.toList) (w : World) :
  Calls Tryz.prog 177 #[.string s, .string ⟨#[47]⟩] w fun e w' => e = .returned (.tuple #[.string s, .string ⟨#[]⟩, .bool false]) /\ Below w.heap.size w w' := by
 have C := Tryz.stringslite_Index_one s 47 w
 rw [index_no h] at C
 clear h
 go_enter Tryz.func177, Tryz.ntmps177
 go_wp2_with fail
 refine C.mono ?_
 rintro e w' ⟨rfl, hw⟩
 have HW := Hd hw
 clear hw C
 go_wp2_with fail
 go_ret3
 exact ⟨rfl, by rw [HW.out]; exact Below.refl _ _⟩
theorem cut_at (s : ByteArray) (i : Nat) (hi : Lib.indexByte s.data.toList 47 = (i : Int)) (hl : i + 1 <= s.size) (hs : s.size <= 65536) (w : World) :
  Calls Tryz.prog 177 #[.string s, .string ⟨#[47]⟩] w fun e w' => e = .returned (.tuple #[.string (s.extract 0 i), .string (s.extract (i + 1) s.size), .bool true]) /\ Below w.heap.size w w' := by
 have C := Tryz.stringslite_Index_one s 47 w
 rw [hi] at C
 have a1 : (0 : Int) <= (i : Int) := by omega
 have a2 : (i : Int) <= (s.size : Int) := by omega
 have a3 : (i : Int) + 1 <= (s.size : Int) := by omega
 have a4 : (0 : Int) <= (i : Int) + 1 := by omega
 have hw1 : IntKind.i64.wrap ((i : Int) + 1) = (i : Int) + 1 := by apply IntWalk.i64_in <;> omega
 have ht : ((i : Int) + 1).toNat = i + 1 := by omega
 clear hi
 go_enter Tryz.func177, Tryz.ntmps177
 go_wp2_with fail
 refine C.mono ?_
 rintro e w' ⟨rfl, hw⟩
 have HW := Hd hw
 clear hw C
 go_wp2_with fail
 go_region
 go_wp2_with fail
 go_ret3
 exact ⟨rfl, by rw [HW.out]; exact (Below.refl _ _).drew⟩
theorem strings_cut (s a b : ByteArray) (f : Bool) (w : World) (C : Calls Tryz.prog 177 #[.string s, .string ⟨#[47]⟩] w fun e w' => e = .returned (.tuple #[.string a, .string b, .bool f]) /\ Below w.heap.size w w') :
  Calls Tryz.prog 104 #[.string s, .string ⟨#[47]⟩] w fun e w' => e = .returned (.tuple #[.string a, .string b, .bool f]) /\ Below w.heap.size w w' := by
 go_enter Tryz.func104, Tryz.ntmps104
 go_wp2_with fail
 refine C.mono ?_
 rintro e w' ⟨rfl, hw⟩
 have HW := Hd hw
 clear hw C
 go_wp2_with fail
 go_ret3
 exact ⟨rfl, HW.out⟩
def cutB (s : List UInt8) : List UInt8 := if 47 ∈ s then YQ s else []
theorem strings_Cut_bar (s : ByteArray) (hs : s.size <= 65536) (w : World) :
   Calls Tryz.prog 104 #[.string s, .string ⟨#[47]⟩] w fun e w' => e = .returned (.tuple #[.string ⟨(ZA s.data.toList).toArray⟩, .string ⟨(cutB s.data.toList).toArray⟩, .bool (decide (47 ∈ s.data.toList))]) /\ Below w.heap.size w w' := by
 by_cases h : (47 : UInt8) ∈ s.data.toList
 . have hl := front_len h
   rw [<- Lib.size_eq] at hl
   have C := strings_cut s _ _ _ w (cut_at s (ZA s.data.toList).length (index_front h) (by omega) hs w)
   rw [ext_front h, ext_back] at C
   unfold cutB
   rw [if_pos h, decide_eq_true h]
   exact C
 . have C := strings_cut s _ _ _ w (cut_no s h w)
   unfold cutB
   rw [if_neg h, decide_eq_false h, JH h]
   exact C

theorem dec_room (k v : Nat) (h : (Lib.decDigits v).length <= k) : v < 10 ^ k := by
 refine Decidable.byContradiction fun hn => ?_
 have e := dec_split k v (by omega)
 have e2 := congrArg List.length e
 rw [List.length_append, padN_length] at e2
 have h3 : (Lib.decDigits (v / 10 ^ k)).length ≠ 0 := fun h0 => dec_ne _ (List.eq_nil_of_length_eq_zero h0)
 omega
theorem lz_room (k : Nat) (x : Int) (h : (Lib.decDigits x.natAbs).length <= 9 * k) : lz x <= k := by
 unfold lz
 refine ZN.2 (Nat.lt_of_lt_of_le (dec_room _ _ h) ?_)
 rw [Nat.pow_mul]
 exact Nat.pow_le_pow_left (by decide) _
theorem lz_read {s : List UInt8} {z : Int} (h : Yy s = some z) (hs : s.length <= 65536) : lz z <= 7282 := by
 refine lz_room 7282 z ?_
 have e := congrArg List.length (Jc h)
 unfold Lib.itoa at e
 split at e
 . rw [List.length_cons] at e; omega
 . rename_i hz
   rw [show z.toNat = z.natAbs by omega] at e
   omega
theorem front_le (s : List UInt8) : (ZA s).length <= s.length := (List.takeWhile_sublist _).length_le
theorem back_le (s : List UInt8) : (YQ s).length <= s.length := by unfold YQ; rw [List.length_drop]; omega
theorem lz_readF {s : List UInt8} {n d : Int} (h : Yf s = some (n, d)) (hs : s.length <= 65536) : lz n <= 7282 /\ lz d <= 7282 := by
 have hf := front_le s
 have hb := back_le s
 unfold Yf at h
 cases hz : Yy (ZA s) with
 | none => rw [hz] at h; cases h
 | some m =>
  rw [hz] at h
  have hm := lz_read hz (by omega)
  simp only at h
  split at h
  . cases hy : Yy (YQ s) with
    | none => rw [hy] at h; cases h
    | some k =>
     rw [hy] at h
     have hk := lz_read hy (by omega)
     simp only at h
     split at h
     . injection h with e
       injection e with e1 e2
       subst e1 e2
       exact ⟨hm, hk⟩
     . cases h
  . injection h with e
    injection e with e1 e2
    subst e1 e2
    exact ⟨hm, by decide⟩
open Go.RowKit

theorem byteCells_get {zs : List UInt8} {k : Nat} (hk : k < zs.length) : (Lib.byteCells zs)[k]? = some (.int .u8 (zs[k].toNat : Int)) := by
 simp [Lib.byteCells, hk]
structure Xe (w : World) (g cap : Nat) (zs : List UInt8) : Prop where
 ex : ∃ rest : List Value, zs.length + rest.length = cap /\ ZJ w g 5 (Lib.byteCells zs ++ rest).toArray
theorem Xe.lt {w : World} {g cap : Nat} {zs : List UInt8} (h : Xe w g cap zs) : g < w.heap.size := by
 obtain ⟨rest, -, hb⟩ := h.ex
 exact hb.lt
theorem Xe.fits {w : World} {g cap : Nat} {zs : List UInt8} (h : Xe w g cap zs) : zs.length <= cap := by
 obtain ⟨rest, he, -⟩ := h.ex
 omega
theorem Xe.cell {w : World} {g cap : Nat} {zs : List UInt8} (h : Xe w g cap zs) {k : Nat} (hk : k < zs.length) : w.cell? ⟨g, k, none⟩ = some (.int .u8 (zs[k].toNat : Int)) := by
 obtain ⟨rest, -, hb⟩ := h.ex
 rw [hb.cell, List.getElem?_toArray, List.getElem?_append_left (by rw [Lib.byteCells_length]; exact hk), byteCells_get hk]
theorem Xe.frozen {w : World} {g cap : Nat} {zs : List UInt8} (h : Xe w g cap zs) (k : Nat) : w.frozen? ⟨g, k, none⟩ = false := by
 obtain ⟨rest, -, hb⟩ := h.ex
 exact hb.frozen k
theorem Xe.set {w : World} {g cap : Nat} {zs : List UInt8} (h : Xe w g cap zs) {k : Nat} (hk : k < zs.length) (d : UInt8) : Xe (w.setCell ⟨g, k, none⟩ (.int .u8 (d.toNat : Int))) g cap (zs.set k d) := by
 obtain ⟨rest, he, hb⟩ := h.ex
 refine ⟨rest, by simpa using he, ?_⟩
 have e : (Lib.byteCells (zs.set k d) ++ rest).toArray = (Lib.byteCells zs ++ rest).toArray.setIfInBounds k (.int .u8 (d.toNat : Int)) := by
  rw [List.setIfInBounds_toArray, List.set_append_left _ _ (by rw [Lib.byteCells_length]; exact hk)]
  simp [Lib.byteCells, List.map_set]
 rw [e]
 exact hb.set_ k _
theorem Xe.of_own {w : World} {base n cap g : Nat} {zs : List UInt8} (h : w.ownsRow base 5 1 (.slice (some ⟨g, 0, none⟩) n cap) n (Lib.byteCells zs)) : Xe w g cap zs /\ zs.length = n := by
 have hl : zs.length = n := by have := h.1; rw [Lib.byteCells_length] at this; omega
 rcases h.2 with ⟨k1, k2⟩ | ⟨g', cap', cur, k1, k2, k3, k4, k5, k6, k7⟩
 . cases k1
 . injection k1 with a1 a2 a3
   injection a1 with a1
   injection a1 with a1
   subst a1 a3
   refine ⟨⟨cur.toList.drop n, ?_, ?_⟩, hl⟩
   . have : cur.toList.length = cap := by rw [Array.length_toList]; omega
     rw [List.length_drop]; omega
   . rw [Nat.mul_one] at k7
     rw [<- k7, List.take_append_drop]
     exact k3
theorem row_cut {w : World} {base n cap g m : Nat} {t : TypeId} {xs : List Value} (h : w.ownsRow base t 1 (.slice (some ⟨g, 0, none⟩) n cap) n xs) (hm : m <= n) : w.ownsRow base t 1 (.slice (some ⟨g, 0, none⟩) m cap) m (xs.take m) := by
 refine ⟨by have := h.1; rw [List.length_take]; omega, ?_⟩
 rcases h.2 with ⟨k1, k2⟩ | ⟨g', cap', cur, k1, k2, k3, k4, k5, k6, k7⟩
 . cases k1
 . injection k1 with a1 a2 a3
   injection a1 with a1
   injection a1 with a1
   subst a1 a3
   refine .inr ⟨g, cap, cur, rfl, k2, k3, by omega, k5, k6, ?_⟩
   rw [<- k7, List.take_take]
   congr 1
   omega
theorem Kj {w : World} {base n c : Nat} {t : TypeId} {A : Option Addr} {xs : List Value} (h : w.ownsRow base t 1 (.slice A n c) n xs) (h0 : n ≠ 0) : ∃ g, A = some ⟨g, 0, none⟩ /\ base <= g /\ n <= c /\ c <= 9223372036854775807 := by
 rcases h.2 with ⟨k1, k2⟩ | ⟨g', cap', cur, k1, k2, k3, k4, k5, k6, k7⟩
 . exact absurd k2 h0
 . injection k1 with a1 a2 a3
   exact ⟨g', a1, k2, by omega, by simp only [maxLen] at k5; omega⟩
end Go.Proofs.YtdonecnhdkjniaaGreatDoor
