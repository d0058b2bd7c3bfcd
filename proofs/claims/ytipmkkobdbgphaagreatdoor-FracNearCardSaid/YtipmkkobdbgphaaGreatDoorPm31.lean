/- Several texts in one: ReadF, ShelfR, CutBar, ReadFit. -/
import Derived.Test.YtipmkkobdbgphaaGreatDoorPm30
import Derived.Test.YtipmkkobdbgphaaGreatDoorPm23
import Derived.Test.YtipmkkobdbgphaaGreatDoorPm28
import Derived.Shelf.Small.Wraps
import Derived.Shelf.Strconv.Atoi
import Derived.Shelf.Strings.Search2
import Derived.Shelf.Strings.Trim
import Derived.Test.YtipmkkobdbgphaaGreatDoorPm02
import Derived.Lib.IndexLaws
import Derived.OwnWalk
set_option maxRecDepth 100000
set_option maxHeartbeats 8000000
/- What a text is read as, as a fraction; plain. -/
namespace Go.Proofs.YtipmkkobdbgphaaGreatDoor

def frontS (s : List UInt8) : List UInt8 := s.takeWhile (· ≠ 47)
def backS (s : List UInt8) : List UInt8 := s.drop ((frontS s).length + 1)
def readF (s : List UInt8) : Option (Int × Int) := match readZ (frontS s) with
  | none => none
  | some n => if 47 ∈ s then (match readZ (backS s) with
      | none => none
      | some d => if 0 < d ∧ d ≠ 1 ∧ gcdZ n d = 1 then some (n, d) else none)
    else some (n, 1)
end Go.Proofs.YtipmkkobdbgphaaGreatDoor

/-
  DERIVED: THE SHELF's CONTRACTS AT THIS DUMP, IN PLAIN WORDS (tools/lay-plain.mjs out of 'TryzShelf.lean', which tools/lay-shelf.mjs wrote): THE SAME DECLARATIONS UNDER THE SAME NAMES: 'import', 'namespace', 'open', 'def', 'theorem' AND NOTHING ELSE: no command of the shelf's: FOR A HAND-IN. Each laying: the table of numbers ('.._ren') and one theorem, a field a fact of the dump's own or the kernel's comparison; each contract: ONE APPLICATION.
-/
namespace Go.Proofs

open Go.Shelf
def Tryz.lays160_ren : Go.Shelf.Ren := ⟨fun | 160 => 225 | 232 => 252 | 231 => 251 | 227 => 253 | 234 => 255 | 233 => 254 | 236 => 257 | 235 => 256 | 228 => 273 | 271 => 276 | 151 => 275 | 197 => 274 | 120 => 293 | 152 => 292 | 260 => 291 | 137 => 303 | 119 => 304 | 224 => 270 | 225 => 269 | 217 => 268 | 266 => 289 | n => n, fun | 9 => 9 | 4 => 4 | 3 => 3 | 5 => 5 | 117 => 266 | 116 => 265 | 0 => 0 | 124 => 269 | 21 => 21 | 105 => 280 | 46 => 105 | 119 => 310 | 139 => 313 | 138 => 312 | n => n, fun | 3 => 7 | 4 => 8 | n => n⟩
def Tryz.lays103_ren : Go.Shelf.Ren := ⟨fun | 103 => 224 | 210 => 250 | 206 => 272 | n => n, fun | 9 => 9 | 4 => 4 | 24 => 251 | 3 => 3 | n => n, fun | n => n⟩
def Tryz.lays172_ren : Go.Shelf.Ren := ⟨fun | 172 => 226 | 244 => 258 | 245 => 259 | 247 => 277 | 279 => 278 | 280 => 279 | 281 => 280 | 282 => 281 | 287 => 294 | 316 => 295 | 171 => 218 | 205 => 296 | 321 => 305 | 322 => 306 | 243 => 247 | 246 => 266 | 283 => 285 | 284 => 286 | 285 => 287 | 286 => 288 | 129 => 299 | 317 => 298 | 318 => 300 | 319 => 301 | 320 => 302 | 337 => 307 | 338 => 128 | n => n, fun | 9 => 9 | 3 => 3 | 75 => 244 | 76 => 246 | 4 => 4 | 5 => 5 | 167 => 283 | 37 => 240 | 0 => 0 | 85 => 284 | 2 => 2 | 168 => 286 | 53 => 64 | 175 => 298 | 46 => 105 | 210 => 302 | 127 => 261 | 145 => 319 | 143 => 317 | 21 => 21 | 171 => 292 | 173 => 294 | 212 => 306 | 51 => 104 | 20 => 20 | 213 => 307 | 232 => 320 | 233 => 229 | 80 => 248 | n => n, fun | 15 => 4 | 16 => 5 | 17 => 6 | 18 => 9 | 19 => 1 | n => n⟩
def Tryz.lays219_ren : Go.Shelf.Ren := ⟨fun | 219 => 249 | 217 => 268 | 225 => 269 | 224 => 270 | 267 => 271 | 266 => 289 | 314 => 290 | n => n, fun | 9 => 9 | 3 => 3 | 4 => 4 | 5 => 5 | 46 => 105 | 146 => 258 | 51 => 104 | n => n, fun | 1 => 3 | n => n⟩
end Go.Proofs

/- strings.Cut by one bar. -/
namespace Go.Proofs.YtipmkkobdbgphaaGreatDoor
open Go.RowKit

def cutB (s : List UInt8) : List UInt8 := if 47 ∈ s then backS s else []
/- How many limbs a number has of which the text is told; plain. -/

end Go.Proofs.YtipmkkobdbgphaaGreatDoor
