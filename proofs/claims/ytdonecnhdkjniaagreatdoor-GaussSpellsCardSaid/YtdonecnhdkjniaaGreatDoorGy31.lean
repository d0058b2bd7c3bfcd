/- Several texts in one: ShelfR, CutBar, ReadFit, Bytes, TrimDigits. -/
import Derived.Shelf.Small.Wraps
import Derived.Shelf.Strconv.Atoi
import Derived.Shelf.Strings.Search2
import Derived.Shelf.Strings.Trim
import Derived.Test.YtdonecnhdkjniaaGreatDoorGy30
import Derived.Lib.IndexLaws
import Derived.Lib.UnsafeStr
import Derived.Shelf.Strings.SlTrimAscii
set_option maxRecDepth 100000
set_option maxHeartbeats 8000000
namespace Go.Proofs

open Go.Shelf
def Tryz.lays160_ren : Go.Shelf.Ren := ⟨fun | 160 => 178 | 232 => 215 | 231 => 214 | 227 => 101 | 234 => 217 | 233 => 216 | 236 => 219 | 235 => 218 | 228 => 102 | 271 => 103 | 151 => 246 | 197 => 176 | 120 => 175 | 152 => 99 | 260 => 212 | 137 => 171 | 119 => 172 | 224 => 173 | 225 => 174 | 217 => 211 | 266 => 244 | n => n, fun | 9 => 9 | 4 => 4 | 3 => 3 | 5 => 5 | 117 => 90 | 116 => 89 | 0 => 0 | 124 => 235 | 21 => 21 | 105 => 93 | 46 => 218 | 119 => 264 | 139 => 267 | 138 => 266 | n => n, fun | 3 => 2 | 4 => 3 | n => n⟩
theorem Tryz.lays160 : Go.Proofs.Lays.n160 Tryz.prog Tryz.lays160_ren := {
 mixed := by kernel_rfl
 f119 := Tryz.func172.trans (congrArg some (by kernel_rfl))
 f120 := Tryz.func175.trans (congrArg some (by kernel_rfl))
 f137 := Tryz.func171.trans (congrArg some (by kernel_rfl))
 f151 := Tryz.func246.trans (congrArg some (by kernel_rfl))
 f152 := Tryz.func99.trans (congrArg some (by kernel_rfl))
 f160 := Tryz.func178.trans (congrArg some (by kernel_rfl))
 f197 := Tryz.func176.trans (congrArg some (by kernel_rfl))
 f217 := Tryz.func211.trans (congrArg some (by kernel_rfl))
 f224 := Tryz.func173.trans (congrArg some (by kernel_rfl))
 f225 := Tryz.func174.trans (congrArg some (by kernel_rfl))
 f227 := Tryz.func101.trans (congrArg some (by kernel_rfl))
 f228 := Tryz.func102.trans (congrArg some (by kernel_rfl))
 f231 := Tryz.func214.trans (congrArg some (by kernel_rfl))
 f232 := Tryz.func215.trans (congrArg some (by kernel_rfl))
 f233 := Tryz.func216.trans (congrArg some (by kernel_rfl))
 f234 := Tryz.func217.trans (congrArg some (by kernel_rfl))
 f235 := Tryz.func218.trans (congrArg some (by kernel_rfl))
 f236 := Tryz.func219.trans (congrArg some (by kernel_rfl))
 f260 := Tryz.func212.trans (congrArg some (by kernel_rfl))
 f266 := Tryz.func244.trans (congrArg some (by kernel_rfl))
 f271 := Tryz.func103.trans (congrArg some (by kernel_rfl))
 t0 := Tryz.underlying0
 a0 := Tryz.isAgg0
 z0 := Tryz.sizeOf0
 v0 := Tryz.zeroValue0
 t3 := Tryz.underlying3
 a3 := Tryz.isAgg3
 z3 := Tryz.sizeOf3
 v3 := Tryz.zeroValue3
 t4 := Tryz.underlying4
 a4 := Tryz.isAgg4
 z4 := Tryz.sizeOf4
 v4 := Tryz.zeroValue4
 t5 := Tryz.underlying5
 a5 := Tryz.isAgg5
 z5 := Tryz.sizeOf5
 v5 := Tryz.zeroValue5
 t9 := Tryz.underlying9
 a9 := Tryz.isAgg9
 z9 := Tryz.sizeOf9
 v9 := Tryz.zeroValue9
 t21 := Tryz.underlying21
 a21 := Tryz.isAgg21
 z21 := Tryz.sizeOf21
 v21 := Tryz.zeroValue21
 t46 := Tryz.underlying218
 a46 := Tryz.isAgg218
 z46 := Tryz.sizeOf218
 v46 := Tryz.zeroValue218
 t105 := Tryz.underlying93
 a105 := Tryz.isAgg93
 z105 := Tryz.sizeOf93
 v105 := Tryz.zeroValue93
 t116 := Tryz.underlying89
 a116 := Tryz.isAgg89
 z116 := Tryz.sizeOf89
 t117 := Tryz.underlying90
 a117 := Tryz.isAgg90
 z117 := Tryz.sizeOf90
 v117 := Tryz.zeroValue90
 t119 := Tryz.underlying264
 a119 := Tryz.isAgg264
 z119 := Tryz.sizeOf264
 t124 := Tryz.underlying235
 a124 := Tryz.isAgg235
 z124 := Tryz.sizeOf235
 v124 := Tryz.zeroValue235
 t138 := Tryz.underlying266
 a138 := Tryz.isAgg266
 z138 := Tryz.sizeOf266
 v138 := Tryz.zeroValue266
 t139 := Tryz.underlying267
 a139 := Tryz.isAgg267
 z139 := Tryz.sizeOf267
 v139 := Tryz.zeroValue267
 g3 := by kernel_rfl
 g4 := by kernel_rfl }
def Tryz.lays103_ren : Go.Shelf.Ren := ⟨fun | 103 => 29 | 210 => 108 | 206 => 182 | n => n, fun | 9 => 9 | 4 => 4 | 24 => 66 | 3 => 3 | n => n, fun | n => n⟩
theorem Tryz.lays103 : Go.Proofs.Lays.n103 Tryz.prog Tryz.lays103_ren := {
 mixed := by kernel_rfl
 f103 := Tryz.func29.trans (congrArg some (by kernel_rfl))
 f206 := Tryz.func182.trans (congrArg some (by kernel_rfl))
 f210 := Tryz.func108.trans (congrArg some (by kernel_rfl))
 t3 := Tryz.underlying3
 a3 := Tryz.isAgg3
 z3 := Tryz.sizeOf3
 v3 := Tryz.zeroValue3
 t4 := Tryz.underlying4
 a4 := Tryz.isAgg4
 z4 := Tryz.sizeOf4
 v4 := Tryz.zeroValue4
 t9 := Tryz.underlying9
 a9 := Tryz.isAgg9
 z9 := Tryz.sizeOf9
 v9 := Tryz.zeroValue9
 t24 := Tryz.underlying66
 a24 := Tryz.isAgg66
 z24 := Tryz.sizeOf66
 v24 := Tryz.zeroValue66 }
open Go.RowKit in
theorem Tryz.strings_CutPrefix (s p : ByteArray) (w : World) :
 Calls Tryz.prog 29 #[.string s, .string p] w fun e w' => e = .returned (.tuple #[.string ⟨(Lib.trimPrefix s.data.toList p.data.toList).toArray⟩, .bool (Lib.hasPrefix s.data.toList p.data.toList)]) /\ w' = w := Any.strings_CutPrefix Tryz.lays103 s p w
def Tryz.lays104_ren : Go.Shelf.Ren := ⟨fun | 104 => 25 | 211 => 98 | 207 => 170 | n => n, fun | 9 => 9 | 4 => 4 | 24 => 66 | 3 => 3 | n => n, fun | n => n⟩
theorem Tryz.lays104 : Go.Proofs.Lays.n104 Tryz.prog Tryz.lays104_ren := {
 mixed := by kernel_rfl
 f104 := Tryz.func25.trans (congrArg some (by kernel_rfl))
 f207 := Tryz.func170.trans (congrArg some (by kernel_rfl))
 f211 := Tryz.func98.trans (congrArg some (by kernel_rfl))
 t3 := Tryz.underlying3
 a3 := Tryz.isAgg3
 z3 := Tryz.sizeOf3
 v3 := Tryz.zeroValue3
 t4 := Tryz.underlying4
 a4 := Tryz.isAgg4
 z4 := Tryz.sizeOf4
 v4 := Tryz.zeroValue4
 t9 := Tryz.underlying9
 a9 := Tryz.isAgg9
 z9 := Tryz.sizeOf9
 v9 := Tryz.zeroValue9
 t24 := Tryz.underlying66
 a24 := Tryz.isAgg66
 z24 := Tryz.sizeOf66
 v24 := Tryz.zeroValue66 }
open Go.RowKit in
theorem Tryz.strings_CutSuffix (s p : ByteArray) (w : World) (hs : s.size <= 9223372036854775807) :
 Calls Tryz.prog 25 #[.string s, .string p] w fun e w' => e = .returned (.tuple #[.string ⟨(Lib.trimSuffix s.data.toList p.data.toList).toArray⟩, .bool (Lib.hasSuffix s.data.toList p.data.toList)]) /\ w' = w := Any.strings_CutSuffix Tryz.lays104 s p w hs
def Tryz.lays172_ren : Go.Shelf.Ren := ⟨fun | 172 => 179 | 244 => 220 | 245 => 221 | 247 => 247 | 279 => 248 | 280 => 249 | 281 => 250 | 282 => 251 | 287 => 271 | 316 => 272 | 171 => 164 | 205 => 273 | 321 => 290 | 322 => 291 | 243 => 207 | 246 => 242 | 283 => 266 | 284 => 267 | 285 => 268 | 286 => 269 | 129 => 286 | 317 => 285 | 318 => 287 | 319 => 288 | 320 => 289 | 337 => 292 | 338 => 293 | n => n, fun | 9 => 9 | 3 => 3 | 75 => 226 | 76 => 228 | 4 => 4 | 5 => 5 | 167 => 269 | 37 => 222 | 0 => 0 | 85 => 270 | 2 => 2 | 168 => 272 | 53 => 216 | 175 => 286 | 46 => 218 | 210 => 290 | 127 => 248 | 145 => 304 | 143 => 302 | 21 => 21 | 171 => 280 | 173 => 283 | 212 => 297 | 51 => 109 | 20 => 20 | 213 => 298 | 232 => 305 | 233 => 306 | 80 => 230 | n => n, fun | 15 => 4 | 16 => 5 | 17 => 6 | 18 => 7 | 19 => 8 | n => n⟩
theorem Tryz.lays172 : Go.Proofs.Lays.n172 Tryz.prog Tryz.lays172_ren := {
 mixed := by kernel_rfl
 f129 := Tryz.func286.trans (congrArg some (by kernel_rfl))
 f171 := Tryz.func164.trans (congrArg some (by kernel_rfl))
 f172 := Tryz.func179.trans (congrArg some (by kernel_rfl))
 f205 := Tryz.func273.trans (congrArg some (by kernel_rfl))
 f243 := Tryz.func207.trans (congrArg some (by kernel_rfl))
 f244 := Tryz.func220.trans (congrArg some (by kernel_rfl))
 f245 := Tryz.func221.trans (congrArg some (by kernel_rfl))
 f246 := Tryz.func242.trans (congrArg some (by kernel_rfl))
 f247 := Tryz.func247.trans (congrArg some (by kernel_rfl))
 f279 := Tryz.func248.trans (congrArg some (by kernel_rfl))
 f280 := Tryz.func249.trans (congrArg some (by kernel_rfl))
 f281 := Tryz.func250.trans (congrArg some (by kernel_rfl))
 f282 := Tryz.func251.trans (congrArg some (by kernel_rfl))
 f283 := Tryz.func266.trans (congrArg some (by kernel_rfl))
 f284 := Tryz.func267.trans (congrArg some (by kernel_rfl))
 f285 := Tryz.func268.trans (congrArg some (by kernel_rfl))
 f286 := Tryz.func269.trans (congrArg some (by kernel_rfl))
 f287 := Tryz.func271.trans (congrArg some (by kernel_rfl))
 f316 := Tryz.func272.trans (congrArg some (by kernel_rfl))
 f317 := Tryz.func285.trans (congrArg some (by kernel_rfl))
 f318 := Tryz.func287.trans (congrArg some (by kernel_rfl))
 f319 := Tryz.func288.trans (congrArg some (by kernel_rfl))
 f320 := Tryz.func289.trans (congrArg some (by kernel_rfl))
 f321 := Tryz.func290.trans (congrArg some (by kernel_rfl))
 f322 := Tryz.func291.trans (congrArg some (by kernel_rfl))
 f337 := Tryz.func292.trans (congrArg some (by kernel_rfl))
 f338 := Tryz.func293.trans (congrArg some (by kernel_rfl))
 t0 := Tryz.underlying0
 a0 := Tryz.isAgg0
 z0 := Tryz.sizeOf0
 v0 := Tryz.zeroValue0
 t2 := Tryz.underlying2
 a2 := Tryz.isAgg2
 z2 := Tryz.sizeOf2
 v2 := Tryz.zeroValue2
 t3 := Tryz.underlying3
 a3 := Tryz.isAgg3
 z3 := Tryz.sizeOf3
 v3 := Tryz.zeroValue3
 t4 := Tryz.underlying4
 a4 := Tryz.isAgg4
 z4 := Tryz.sizeOf4
 v4 := Tryz.zeroValue4
 t5 := Tryz.underlying5
 a5 := Tryz.isAgg5
 z5 := Tryz.sizeOf5
 v5 := Tryz.zeroValue5
 t9 := Tryz.underlying9
 a9 := Tryz.isAgg9
 z9 := Tryz.sizeOf9
 v9 := Tryz.zeroValue9
 t20 := Tryz.underlying20
 a20 := Tryz.isAgg20
 z20 := Tryz.sizeOf20
 v20 := Tryz.zeroValue20
 t21 := Tryz.underlying21
 a21 := Tryz.isAgg21
 z21 := Tryz.sizeOf21
 v21 := Tryz.zeroValue21
 t37 := Tryz.underlying222
 a37 := Tryz.isAgg222
 z37 := Tryz.sizeOf222
 v37 := Tryz.zeroValue222
 t46 := Tryz.underlying218
 a46 := Tryz.isAgg218
 z46 := Tryz.sizeOf218
 v46 := Tryz.zeroValue218
 t51 := Tryz.underlying109
 a51 := Tryz.isAgg109
 z51 := Tryz.sizeOf109
 v51 := Tryz.zeroValue109
 t53 := Tryz.underlying216
 a53 := Tryz.isAgg216
 z53 := Tryz.sizeOf216
 v53 := Tryz.zeroValue216
 t75 := Tryz.underlying226
 a75 := Tryz.isAgg226
 z75 := Tryz.sizeOf226
 v75 := Tryz.zeroValue226
 t76 := Tryz.underlying228
 a76 := Tryz.isAgg228
 z76 := Tryz.sizeOf228
 v76 := Tryz.zeroValue228
 t85 := Tryz.underlying270
 a85 := Tryz.isAgg270
 z85 := Tryz.sizeOf270
 v85 := Tryz.zeroValue270
 t127 := Tryz.underlying248
 a127 := Tryz.isAgg248
 z127 := Tryz.sizeOf248
 v127 := Tryz.zeroValue248
 t143 := Tryz.underlying302
 a143 := Tryz.isAgg302
 z143 := Tryz.sizeOf302
 v143 := Tryz.zeroValue302
 t145 := Tryz.underlying304
 a145 := Tryz.isAgg304
 z145 := Tryz.sizeOf304
 v145 := Tryz.zeroValue304
 t167 := Tryz.underlying269
 a167 := Tryz.isAgg269
 z167 := Tryz.sizeOf269
 v167 := Tryz.zeroValue269
 t168 := Tryz.underlying272
 a168 := Tryz.isAgg272
 z168 := Tryz.sizeOf272
 v168 := Tryz.zeroValue272
 t171 := Tryz.underlying280
 a171 := Tryz.isAgg280
 z171 := Tryz.sizeOf280
 v171 := Tryz.zeroValue280
 t173 := Tryz.underlying283
 a173 := Tryz.isAgg283
 z173 := Tryz.sizeOf283
 v173 := Tryz.zeroValue283
 t175 := Tryz.underlying286
 a175 := Tryz.isAgg286
 z175 := Tryz.sizeOf286
 v175 := Tryz.zeroValue286
 t210 := Tryz.underlying290
 a210 := Tryz.isAgg290
 z210 := Tryz.sizeOf290
 v210 := Tryz.zeroValue290
 t212 := Tryz.underlying297
 a212 := Tryz.isAgg297
 z212 := Tryz.sizeOf297
 v212 := Tryz.zeroValue297
 t213 := Tryz.underlying298
 a213 := Tryz.isAgg298
 z213 := Tryz.sizeOf298
 t232 := Tryz.underlying305
 a232 := Tryz.isAgg305
 z232 := Tryz.sizeOf305
 v232 := Tryz.zeroValue305
 t233 := Tryz.underlying306
 a233 := Tryz.isAgg306
 z233 := Tryz.sizeOf306
 v233 := Tryz.zeroValue306
 g15 := by kernel_rfl
 g16 := by kernel_rfl
 g17 := by kernel_rfl
 g18 := by kernel_rfl
 g19 := by kernel_rfl }
open Go.RowKit in
theorem Tryz.strconv_Atoi (s : ByteArray) (n : Int) (hl : s.size <= 18) (h : Lib.atoi s.data.toList = some n) (w : World) :
 Calls Tryz.prog 179 #[.string s] w fun e w' => e = .returned (.tuple #[.int .i64 n, .nilIface]) /\ ∃ t, w' = Lib.bytesWorld w 5 t := Any.strconv_Atoi Tryz.lays172 s n hl h w
def Tryz.lays219_ren : Go.Shelf.Ren := ⟨fun | 219 => 213 | 217 => 211 | 225 => 174 | 224 => 173 | 267 => 245 | 266 => 244 | 314 => 270 | n => n, fun | 9 => 9 | 3 => 3 | 4 => 4 | 5 => 5 | 46 => 218 | 146 => 246 | 51 => 109 | n => n, fun | 1 => 0 | n => n⟩
theorem Tryz.lays219 : Go.Proofs.Lays.n219 Tryz.prog Tryz.lays219_ren := {
 mixed := by kernel_rfl
 f217 := Tryz.func211.trans (congrArg some (by kernel_rfl))
 f219 := Tryz.func213.trans (congrArg some (by kernel_rfl))
 f224 := Tryz.func173.trans (congrArg some (by kernel_rfl))
 f225 := Tryz.func174.trans (congrArg some (by kernel_rfl))
 f266 := Tryz.func244.trans (congrArg some (by kernel_rfl))
 f267 := Tryz.func245.trans (congrArg some (by kernel_rfl))
 f314 := Tryz.func270.trans (congrArg some (by kernel_rfl))
 t3 := Tryz.underlying3
 a3 := Tryz.isAgg3
 z3 := Tryz.sizeOf3
 v3 := Tryz.zeroValue3
 t4 := Tryz.underlying4
 a4 := Tryz.isAgg4
 z4 := Tryz.sizeOf4
 v4 := Tryz.zeroValue4
 t5 := Tryz.underlying5
 a5 := Tryz.isAgg5
 z5 := Tryz.sizeOf5
 v5 := Tryz.zeroValue5
 t9 := Tryz.underlying9
 a9 := Tryz.isAgg9
 z9 := Tryz.sizeOf9
 v9 := Tryz.zeroValue9
 t46 := Tryz.underlying218
 a46 := Tryz.isAgg218
 z46 := Tryz.sizeOf218
 v46 := Tryz.zeroValue218
 t51 := Tryz.underlying109
 a51 := Tryz.isAgg109
 z51 := Tryz.sizeOf109
 v51 := Tryz.zeroValue109
 t146 := Tryz.underlying246
 a146 := Tryz.isAgg246
 z146 := Tryz.sizeOf246
 v146 := Tryz.zeroValue246
 g1 := by kernel_rfl }
open Go.RowKit Go.Lib in
theorem Tryz.stringslite_Index_one (s : ByteArray) (c : UInt8) (w : World) :
 Calls Tryz.prog 213 #[.string s, .string ⟨#[c]⟩] w fun e w' => e = .returned (.int .i64 (Lib.indexByte s.data.toList c)) /\ w' = w := Any.stringslite_Index_one Tryz.lays219 s c w
end Go.Proofs

namespace Go.Proofs.YtdonecnhdkjniaaGreatDoor
open Go.RowKit

theorem index_front : ∀ {s : List UInt8}, (47 : UInt8) ∈ s -> Lib.indexByte s 47 = ((Z5 s).length : Int)
 | [], h => by cases h
 | x :: r, h => by
  unfold Lib.indexByte
  by_cases hx : x = 47
  . subst hx; simp [Z5]
  . have hr : (47 : UInt8) ∈ r := (List.mem_cons.1 h).resolve_left fun e => hx e.symm
    have ih := index_front hr
    have e1 : Z5 (x :: r) = x :: Z5 r := by unfold Z5; rw [List.takeWhile_cons, if_pos (by simpa using hx)]
    rw [if_neg (by simpa using hx), ih, e1, if_neg (by simp), List.length_cons]
    omega
theorem index_no : ∀ {s : List UInt8}, (47 : UInt8) ∉ s -> Lib.indexByte s 47 = -1
 | [], _ => rfl
 | x :: r, h => by
  have hx : x ≠ 47 := fun e => h (by rw [e]; exact List.mem_cons_self ..)
  unfold Lib.indexByte
  rw [if_neg (by simpa using hx), index_no fun k => h (List.mem_cons_of_mem _ k)]
  rfl
theorem front_len {s : List UInt8} (h : (47 : UInt8) ∈ s) : (Z5 s).length + 1 + (Y4 s).length = s.length := by
 have e := congrArg List.length (XE h)
 rw [List.length_append, List.length_cons] at e
 omega
theorem ext_front {s : ByteArray} (h : (47 : UInt8) ∈ s.data.toList) : s.extract 0 (Z5 s.data.toList).length = ⟨(Z5 s.data.toList).toArray⟩ := by
 apply ByteArray.ext
 apply Array.ext'
 rw [Lib.extract_data]
 have e := XE h
 simp only [List.drop_zero, Nat.sub_zero]
 generalize Z5 s.data.toList = a at *
 generalize Y4 s.data.toList = b at *
 rw [e]; simp
theorem ext_back {s : ByteArray} : s.extract ((Z5 s.data.toList).length + 1) s.size = ⟨(Y4 s.data.toList).toArray⟩ := by
 apply ByteArray.ext
 apply Array.ext'
 rw [Lib.extract_data]
 unfold Y4
 rw [List.take_of_length_le]
 rw [List.length_drop, <- Lib.size_eq]
 omega

theorem cut_no (s : ByteArray) (h : (47 : UInt8) ∉ s.data.toList) (w : World) :
  Calls Tryz.prog 177 #[.string s, .string ⟨#[47]⟩] w fun e w' => e = .returned (.tuple #[.string s, .string ⟨#[]⟩, .bool false]) /\ Below w.heap.size w w' := by
 have C := Tryz.stringslite_Index_one s 47 w
 rw [index_no h] at C
 clear h
 go_enter Tryz.func177, Tryz.ntmps177
 go_wp2_with fail
 refine C.mono ?_
 rintro e w' ⟨rfl, hw⟩
 have HW := Hd hw
 clear hw C
 go_wp2_with fail
 go_ret3
 exact ⟨rfl, by rw [HW.out]; exact Below.refl _ _⟩
theorem cut_at (s : ByteArray) (i : Nat) (hi : Lib.indexByte s.data.toList 47 = (i : Int)) (hl : i + 1 <= s.size) (hs : s.size <= 65536) (w : World) :
  Calls Tryz.prog 177 #[.string s, .string ⟨#[47]⟩] w fun e w' => e = .returned (.tuple #[.string (s.extract 0 i), .string (s.extract (i + 1) s.size), .bool true]) /\ Below w.heap.size w w' := by
 have C := Tryz.stringslite_Index_one s 47 w
 rw [hi] at C
 have a1 : (0 : Int) <= (i : Int) := by omega
 have a2 : (i : Int) <= (s.size : Int) := by omega
 have a3 : (i : Int) + 1 <= (s.size : Int) := by omega
 have a4 : (0 : Int) <= (i : Int) + 1 := by omega
 have hw1 : IntKind.i64.wrap ((i : Int) + 1) = (i : Int) + 1 := by apply IntWalk.i64_in <;> omega
 have ht : ((i : Int) + 1).toNat = i + 1 := by omega
 clear hi
 go_enter Tryz.func177, Tryz.ntmps177
 go_wp2_with fail
 refine C.mono ?_
 rintro e w' ⟨rfl, hw⟩
 have HW := Hd hw
 clear hw C
 go_wp2_with fail
 go_region
 go_wp2_with fail
 go_ret3
 exact ⟨rfl, by rw [HW.out]; exact (Below.refl _ _).drew⟩
theorem strings_cut (s a b : ByteArray) (f : Bool) (w : World) (C : Calls Tryz.prog 177 #[.string s, .string ⟨#[47]⟩] w fun e w' => e = .returned (.tuple #[.string a, .string b, .bool f]) /\ Below w.heap.size w w') :
  Calls Tryz.prog 104 #[.string s, .string ⟨#[47]⟩] w fun e w' => e = .returned (.tuple #[.string a, .string b, .bool f]) /\ Below w.heap.size w w' := by
 go_enter Tryz.func104, Tryz.ntmps104
 go_wp2_with fail
 refine C.mono ?_
 rintro e w' ⟨rfl, hw⟩
 have HW := Hd hw
 clear hw C
 go_wp2_with fail
 go_ret3
 exact ⟨rfl, HW.out⟩
def cutB (s : List UInt8) : List UInt8 := if 47 ∈ s then Y4 s else []
theorem strings_Cut_bar (s : ByteArray) (hs : s.size <= 65536) (w : World) :
   Calls Tryz.prog 104 #[.string s, .string ⟨#[47]⟩] w fun e w' => e = .returned (.tuple #[.string ⟨(Z5 s.data.toList).toArray⟩, .string ⟨(cutB s.data.toList).toArray⟩, .bool (decide (47 ∈ s.data.toList))]) /\ Below w.heap.size w w' := by
 by_cases h : (47 : UInt8) ∈ s.data.toList
 . have hl := front_len h
   rw [<- Lib.size_eq] at hl
   have C := strings_cut s _ _ _ w (cut_at s (Z5 s.data.toList).length (index_front h) (by omega) hs w)
   rw [ext_front h, ext_back] at C
   unfold cutB
   rw [if_pos h, decide_eq_true h]
   exact C
 . have C := strings_cut s _ _ _ w (cut_no s h w)
   unfold cutB
   rw [if_neg h, decide_eq_false h, front_all h]
   exact C

theorem dec_room (k v : Nat) (h : (Lib.decDigits v).length <= k) : v < 10 ^ k := by
 refine Decidable.byContradiction fun hn => ?_
 have e := dec_split k v (by omega)
 have e2 := congrArg List.length e
 rw [List.length_append, padN_length] at e2
 have h3 : (Lib.decDigits (v / 10 ^ k)).length ≠ 0 := fun h0 => dec_ne _ (List.eq_nil_of_length_eq_zero h0)
 omega
theorem lz_room (k : Nat) (x : Int) (h : (Lib.decDigits x.natAbs).length <= 9 * k) : lz x <= k := by
 unfold lz
 refine Z4.2 (Nat.lt_of_lt_of_le (dec_room _ _ h) ?_)
 rw [Nat.pow_mul]
 exact Nat.pow_le_pow_left (by decide) _
theorem lz_read {s : List UInt8} {z : Int} (h : Xm s = some z) (hs : s.length <= 65536) : lz z <= 7282 := by
 refine lz_room 7282 z ?_
 have e := congrArg List.length (itoa_readZ h)
 unfold Lib.itoa at e
 split at e
 . rw [List.length_cons] at e; omega
 . rename_i hz
   rw [show z.toNat = z.natAbs by omega] at e
   omega
theorem front_le (s : List UInt8) : (Z5 s).length <= s.length := (List.takeWhile_sublist _).length_le
theorem back_le (s : List UInt8) : (Y4 s).length <= s.length := by unfold Y4; rw [List.length_drop]; omega

structure Front8 (w : World) (g cap : Nat) (zs : List UInt8) : Prop where
 ex : ∃ rest : List Value, zs.length + rest.length = cap /\ Z2 w g 5 (Lib.byteCells zs ++ rest).toArray
theorem row_cut {w : World} {base n cap g m : Nat} {t : TypeId} {xs : List Value} (h : w.ownsRow base t 1 (.slice (some ⟨g, 0, none⟩) n cap) n xs) (hm : m <= n) : w.ownsRow base t 1 (.slice (some ⟨g, 0, none⟩) m cap) m (xs.take m) := by
 refine ⟨by have := h.1; rw [List.length_take]; omega, ?_⟩
 rcases h.2 with ⟨k1, k2⟩ | ⟨g', cap', cur, k1, k2, k3, k4, k5, k6, k7⟩
 . cases k1
 . injection k1 with a1 a2 a3
   injection a1 with a1
   injection a1 with a1
   subst a1 a3
   refine .inr ⟨g, cap, cur, rfl, k2, k3, by omega, k5, k6, ?_⟩
   rw [<- k7, List.take_take]
   congr 1
   omega
theorem own_block {w : World} {base n c : Nat} {t : TypeId} {A : Option Addr} {xs : List Value} (h : w.ownsRow base t 1 (.slice A n c) n xs) (h0 : n ≠ 0) : ∃ g, A = some ⟨g, 0, none⟩ /\ base <= g /\ n <= c /\ c <= 9223372036854775807 := by
 rcases h.2 with ⟨k1, k2⟩ | ⟨g', cap', cur, k1, k2, k3, k4, k5, k6, k7⟩
 . exact absurd k2 h0
 . injection k1 with a1 a2 a3
   exact ⟨g', a1, k2, by omega, by simp only [maxLen] at k5; omega⟩

def Xs (b : UInt8) : Bool := decide (48 <= b.toNat /\ b.toNat <= 57)
def NonD (l : List UInt8) : Prop := ∃ b ∈ l, Xs b = false
theorem NonD.cons {l : List UInt8} {b : UInt8} (h : Xs b = true) : NonD (b :: l) ↔ NonD l := by
 unfold NonD
 constructor
 . rintro ⟨x, hx, hx2⟩
   rw [List.mem_cons] at hx
   rcases hx with rfl | hx
   . rw [h] at hx2; cases hx2
   . exact ⟨x, hx, hx2⟩
 . rintro ⟨x, hx, hx2⟩
   exact ⟨x, List.mem_cons_of_mem _ hx, hx2⟩
theorem Yy : ∀ (l : List UInt8) (acc : Nat), Lib.decFrom acc l = none ↔ NonD l
 | [], acc => by simp [Lib.decFrom, NonD]
 | b :: l, acc => by
  cases h : Xs b with
  | true =>
   have h2 : 48 <= b.toNat /\ b.toNat <= 57 := by unfold Xs at h; simpa using h
   rw [NonD.cons h, Lib.decFrom, digitVal_some h2.1 h2.2]
   exact Yy l _
  | false =>
   have h2 : ¬ (48 <= b.toNat /\ b.toNat <= 57) := by unfold Xs at h; simpa using h
   rw [Lib.decFrom, Je (by omega)]
   exact ⟨fun _ => ⟨b, List.mem_cons_self, h⟩, fun _ => rfl⟩
theorem digs_contains (x : UInt8) : ([48, 49, 50, 51, 52, 53, 54, 55, 56, 57] : List UInt8).contains x = Xs x := by
 rw [Bool.eq_iff_iff]
 unfold Xs
 simp [<- UInt8.toNat_inj]
 omega
theorem Xl {p : UInt8 -> Bool} : ∀ (l : List UInt8), l.dropWhile p = [] ↔ ∀ b ∈ l, p b = true
 | [] => by simp
 | b :: l => by
  rw [List.dropWhile_cons]
  cases h : p b with
  | true => simp [h, Xl l]
  | false => simp [h]
theorem nonD_not {l : List UInt8} : ¬ NonD l ↔ ∀ b ∈ l, Xs b = true := by
 unfold NonD
 constructor
 . intro h b hb
   cases hd : Xs b with
   | true => rfl
   | false => exact absurd ⟨b, hb, hd⟩ h
 . rintro h ⟨b, hb, hd⟩
   rw [h b hb] at hd; cases hd
theorem trimS_digits (l : List UInt8) : Lib.trimS l [48, 49, 50, 51, 52, 53, 54, 55, 56, 57] = [] ↔ ¬ NonD l := by
 have e : (fun x => ([48, 49, 50, 51, 52, 53, 54, 55, 56, 57] : List UInt8).contains x) = Xs := funext digs_contains
 unfold Lib.trimS Lib.trimLeftS Lib.trimRightS
 rw [e, Xl, nonD_not]
 constructor
 . intro h
   have h1 : (l.reverse.dropWhile Xs) = [] := by
    cases h2 : l.reverse.dropWhile Xs with
    | nil => rfl
    | cons x r =>
     exfalso
     have h3 := List.head?_dropWhile_not Xs l.reverse
     rw [h2] at h3
     simp at h3
     have := h x (by rw [h2]; simp)
     rw [h3] at this; cases this
   intro b hb
   exact (Xl _).1 h1 b (by simpa using hb)
 . intro h b hb
   have h1 : l.reverse.dropWhile Xs = [] := (Xl _).2 (fun b hb => h b (by simpa using hb))
   rw [h1] at hb
   cases hb
def Trimmed (s : ByteArray) (w : World) (e : Ending) (w' : World) : Prop := ∃ t : ByteArray, e = .returned (.string t) /\ (t.data.toList = [] ↔ ¬ NonD s.data.toList) /\ Below w.heap.size w w'
theorem XB (s : ByteArray) (hs : s.size <= 65536) (w : World) :
  Calls Tryz.prog 178 #[.string s, .string ⟨#[48, 49, 50, 51, 52, 53, 54, 55, 56, 57]⟩] w (Trimmed s w) :=
 (Any.strings_Trim_ascii Tryz.lays160 (fun _ => by kernel_rfl) (by kernel_rfl) s ⟨#[48, 49, 50, 51, 52, 53, 54, 55, 56, 57]⟩ w (by omega) (by decide) (by
  intro j b hb
  have hm : b ∈ ([48, 49, 50, 51, 52, 53, 54, 55, 56, 57] : List UInt8) := List.mem_of_getElem? hb
  have h2 := digs_contains b
  rw [List.contains_iff_mem.2 hm] at h2
  have h3 : 48 <= b.toNat /\ b.toNat <= 57 := by unfold Xs at h2; simpa using h2.symm
  omega)).mono fun _ _ ⟨h1, h2⟩ => ⟨_, h1, trimS_digits _, h2⟩
end Go.Proofs.YtdonecnhdkjniaaGreatDoor
