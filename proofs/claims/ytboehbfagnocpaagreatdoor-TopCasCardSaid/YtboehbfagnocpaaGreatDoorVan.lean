/- Sh. -/
import Derived.Shelf.Strings.Builder1
import Derived.Shelf.Strings.Builder2
import Derived.Shelf.Strings.OnBuilder
import Derived.Shelf.Strings.Trim
import Derived.Shelf.Small.Utf8
import Derived.Shelf.Small.Strs
import Derived.Shelf.Small.Wraps
import Derived.Shelf.Strings.Builder2Cap
import Derived.Shelf.Strconv.Itoa0
import Derived.Shelf.Strconv.Itoa1
import Derived.Shelf.LaysM
import Derived.Shelf.Strconv.Itoa2
import Derived.Shelf.Strconv.Itoa3
import Derived.Shelf.Strconv.ParseIntEmpty
import Derived.Shelf.Strconv.Clone
import Derived.Shelf.Strconv.SyntaxError
import Derived.Shelf.LaysC
import Derived.Shelf.Strconv.ToError
import Derived.Shelf.Strconv.Lower
import Derived.Shelf.Strconv.ParseUint10
import Derived.Shelf.Strconv.ParseUint10Empty
import Derived.Shelf.Strconv.ParseUint10Any
import Derived.Shelf.Strconv.ParseInt10
import Derived.Shelf.Strconv.RangeError
import Derived.Shelf.Strconv.ToErrorRange
import Derived.Shelf.Strconv.ParseUintEmpty
import Derived.Shelf.Strconv.ParseUint10b64
import Derived.Shelf.Strconv.ParseUint10At
import Derived.Shelf.Strconv.ParseInt10At64
import Derived.Shelf.Strconv.ParseInt10All
import Derived.Shelf.Strconv.ParseIntPublic10
import Derived.Ground.MpProg
import Derived.Shelf.Pu.ParseUintPublic10
import Derived.Shelf.Strings.Search1
import Derived.Shelf.Strings.Search2
import Derived.Shelf.Strings.Search3
import Derived.Shelf.Strings.Cut
import Derived.Shelf.Strings.Shaped
import Derived.Shelf.Strings.Prefix
import Derived.Shelf.Unicode.Decode
import Derived.Shelf.Strings.Runes
import Derived.Shelf.Strings.AsciiSet
import Derived.Shelf.Bits.Mul64
import Derived.Shelf.Unicode.DecodeSlow
import Derived.Shelf.Unicode.DecodeAny
import Derived.Shelf.Unicode.DecodeLast
import Derived.Shelf.Slices.Turned
import Derived.Ground.Names2Prog
import Derived.Shelf.Slices.Clone
import Derived.Ground.SlgnProg
import Derived.Shelf.SlicesE.Clone
import Derived.Test.YtboehbfagnocpaaGreatDoorProg
set_option linter.unusedVariables false
set_option linter.unusedSimpArgs false
set_option maxRecDepth 100000
namespace Go.Proofs.YtboehbfagnocpaaGreatDoor
open Go.Shelf
def Tryz.lays169_ren : Go.Shelf.Ren := ⟨fun | 169 => 262 | n => n, fun | 70 => 364 | 9 => 9 | 0 => 0 | 72 => 366 | 37 => 118 | 127 => 398 | 3 => 3 | 5 => 5 | n => n, fun | n => n⟩
theorem Tryz.lays169 : Go.Proofs.Lays.n169 Tryz.prog Tryz.lays169_ren := {
  mixed := by kernel_rfl
  f169 := Tryz.func262.trans (congrArg some (by kernel_rfl))
  t0 := Tryz.underlying0
  a0 := Tryz.isAgg0
  z0 := Tryz.sizeOf0
  v0 := Tryz.zeroValue0
  t3 := Tryz.underlying3
  a3 := Tryz.isAgg3
  z3 := Tryz.sizeOf3
  v3 := Tryz.zeroValue3
  t9 := Tryz.underlying9
  a9 := Tryz.isAgg9
  z9 := Tryz.sizeOf9
  v9 := Tryz.zeroValue9
  t37 := Tryz.underlying118
  a37 := Tryz.isAgg118
  z37 := Tryz.sizeOf118
  v37 := Tryz.zeroValue118
  t70 := Tryz.underlying364
  a70 := Tryz.isAgg364
  z70 := Tryz.sizeOf364
  v70 := Tryz.zeroValue364
  t72 := Tryz.underlying366
  a72 := Tryz.isAgg366
  z72 := Tryz.sizeOf366
  v72 := Tryz.zeroValue366
  t127 := Tryz.underlying398
  a127 := Tryz.isAgg398
  z127 := Tryz.sizeOf398
  v127 := Tryz.zeroValue398 }
theorem Tryz.Builder_Extra_169 : Builder.Extra Tryz.prog Tryz.lays169_ren := {
  sizeBuilder := by kernel_rfl
  liesBuilder := by kernel_rfl
  t5 := Tryz.underlying5
  a5 := Tryz.isAgg5
  z5 := Tryz.sizeOf5
  v5 := Tryz.zeroValue5
  infoByte := by kernel_rfl
  cellsByte := by kernel_rfl
  sizeByte := by kernel_rfl
  neB5 := by decide }
open Go.RowKit in
theorem Tryz.Builder_String_any (B b : Nat) (l : List UInt8) (w : World) (h : Lib.IsBuilder 366 5 B b (Lib.byteCells l) w) (hBw : B ≤ w.heap.size) :
    Calls Tryz.prog 262 #[.pointer (some ⟨b, 0, none⟩)] w fun e w' => e = .returned (.string ⟨l.toArray⟩) ∧ Below B w w' := Any.Builder_String_any Tryz.lays169 Tryz.Builder_Extra_169 B b l w h hBw
def Tryz.lays156_ren : Go.Shelf.Ren := ⟨fun | 156 => 321 | 165 => 352 | 166 => 261 | 169 => 262 | 240 => 295 | 241 => 361 | 276 => 323 | 277 => 365 | n => n, fun | 31 => 31 | 9 => 9 | 3 => 3 | 4 => 4 | 0 => 0 | 20 => 20 | 72 => 366 | 76 => 367 | 70 => 364 | 37 => 118 | 75 => 336 | 127 => 398 | 164 => 420 | 5 => 5 | 80 => 360 | n => n, fun | n => n⟩
theorem Tryz.lays156 : Go.Proofs.Lays.n156 Tryz.prog Tryz.lays156_ren := {
  mixed := by kernel_rfl
  f156 := Tryz.func321.trans (congrArg some (by kernel_rfl))
  f165 := Tryz.func352.trans (congrArg some (by kernel_rfl))
  f166 := Tryz.func261.trans (congrArg some (by kernel_rfl))
  f169 := Tryz.func262.trans (congrArg some (by kernel_rfl))
  f240 := Tryz.func295.trans (congrArg some (by kernel_rfl))
  f241 := Tryz.func361.trans (congrArg some (by kernel_rfl))
  f276 := Tryz.func323.trans (congrArg some (by kernel_rfl))
  f277 := Tryz.func365.trans (congrArg some (by kernel_rfl))
  t0 := Tryz.underlying0
  a0 := Tryz.isAgg0
  z0 := Tryz.sizeOf0
  v0 := Tryz.zeroValue0
  t3 := Tryz.underlying3
  a3 := Tryz.isAgg3
  z3 := Tryz.sizeOf3
  v3 := Tryz.zeroValue3
  t4 := Tryz.underlying4
  a4 := Tryz.isAgg4
  z4 := Tryz.sizeOf4
  v4 := Tryz.zeroValue4
  t9 := Tryz.underlying9
  a9 := Tryz.isAgg9
  z9 := Tryz.sizeOf9
  v9 := Tryz.zeroValue9
  t20 := Tryz.underlying20
  a20 := Tryz.isAgg20
  z20 := Tryz.sizeOf20
  v20 := Tryz.zeroValue20
  t31 := Tryz.underlying31
  a31 := Tryz.isAgg31
  z31 := Tryz.sizeOf31
  v31 := Tryz.zeroValue31
  t37 := Tryz.underlying118
  a37 := Tryz.isAgg118
  z37 := Tryz.sizeOf118
  v37 := Tryz.zeroValue118
  t70 := Tryz.underlying364
  a70 := Tryz.isAgg364
  z70 := Tryz.sizeOf364
  v70 := Tryz.zeroValue364
  t72 := Tryz.underlying366
  a72 := Tryz.isAgg366
  z72 := Tryz.sizeOf366
  v72 := Tryz.zeroValue366
  t75 := Tryz.underlying336
  a75 := Tryz.isAgg336
  z75 := Tryz.sizeOf336
  v75 := Tryz.zeroValue336
  t76 := Tryz.underlying367
  a76 := Tryz.isAgg367
  z76 := Tryz.sizeOf367
  v76 := Tryz.zeroValue367
  t127 := Tryz.underlying398
  a127 := Tryz.isAgg398
  z127 := Tryz.sizeOf398
  v127 := Tryz.zeroValue398
  t164 := Tryz.underlying420
  a164 := Tryz.isAgg420
  z164 := Tryz.sizeOf420
  v164 := Tryz.zeroValue420 }
theorem Tryz.Builder_Extra_156 : Builder.Extra Tryz.prog Tryz.lays156_ren := {
  sizeBuilder := by kernel_rfl
  liesBuilder := by kernel_rfl
  t5 := Tryz.underlying5
  a5 := Tryz.isAgg5
  z5 := Tryz.sizeOf5
  v5 := Tryz.zeroValue5
  infoByte := by kernel_rfl
  cellsByte := by kernel_rfl
  sizeByte := by kernel_rfl
  neB5 := by decide }
open Go.RowKit in
theorem Tryz.strings_Join_none (a : Option Addr) (c : Nat) (sep : ByteArray) (w : World) :
    Calls Tryz.prog 321 #[.slice a 0 c, .string sep] w fun e w' => e = .returned (.string ⟨#[]⟩) ∧ w' = w := Any.strings_Join_none Tryz.lays156 Tryz.Builder_Extra_156 a c sep w
open Go.RowKit in
theorem Tryz.strings_Join (bk o c : Nat) (xs : List ByteArray) (sep : ByteArray) (w : World) (hcells : ∀ (j : Nat) x, xs[j]? = some x → w.cell? ⟨bk, o + j, none⟩ = some (.string x)) (hbk : bk < w.heap.size) (hN : xs.length ≤ 140737488355328) (hcap : xs.length ≤ c) (hlen : (Lib.join (xs.map (·.data.toList)) sep.data.toList).length ≤ 140737488355328) :
    Calls Tryz.prog 321 #[.slice (some ⟨bk, o, none⟩) xs.length c, .string sep] w fun e w' => e = .returned (.string ⟨(Lib.join (xs.map (·.data.toList)) sep.data.toList).toArray⟩) ∧ Below w.heap.size w w' := Any.strings_Join Tryz.lays156 Tryz.Builder_Extra_156 bk o c xs sep w hcells hbk hN hcap hlen
def Tryz.lays161_ren : Go.Shelf.Ren := ⟨fun | 161 => 248 | 231 => 282 | 227 => 283 | 233 => 284 | 235 => 285 | 228 => 309 | 197 => 310 | 151 => 311 | 260 => 334 | 152 => 335 | 137 => 249 | 119 => 356 | 224 => 332 | 225 => 331 | 217 => 286 | 266 => 312 | n => n, fun | 9 => 9 | 4 => 4 | 3 => 3 | 5 => 5 | 117 => 384 | 116 => 383 | 0 => 0 | 124 => 387 | 105 => 410 | 21 => 21 | 119 => 437 | 46 => 139 | 139 => 440 | 138 => 439 | n => n, fun | 3 => 6 | 4 => 7 | n => n⟩
theorem Tryz.lays161 : Go.Proofs.Lays.n161 Tryz.prog Tryz.lays161_ren := {
  mixed := by kernel_rfl
  f119 := Tryz.func356.trans (congrArg some (by kernel_rfl))
  f137 := Tryz.func249.trans (congrArg some (by kernel_rfl))
  f151 := Tryz.func311.trans (congrArg some (by kernel_rfl))
  f152 := Tryz.func335.trans (congrArg some (by kernel_rfl))
  f161 := Tryz.func248.trans (congrArg some (by kernel_rfl))
  f197 := Tryz.func310.trans (congrArg some (by kernel_rfl))
  f217 := Tryz.func286.trans (congrArg some (by kernel_rfl))
  f224 := Tryz.func332.trans (congrArg some (by kernel_rfl))
  f225 := Tryz.func331.trans (congrArg some (by kernel_rfl))
  f227 := Tryz.func283.trans (congrArg some (by kernel_rfl))
  f228 := Tryz.func309.trans (congrArg some (by kernel_rfl))
  f231 := Tryz.func282.trans (congrArg some (by kernel_rfl))
  f233 := Tryz.func284.trans (congrArg some (by kernel_rfl))
  f235 := Tryz.func285.trans (congrArg some (by kernel_rfl))
  f260 := Tryz.func334.trans (congrArg some (by kernel_rfl))
  f266 := Tryz.func312.trans (congrArg some (by kernel_rfl))
  t0 := Tryz.underlying0
  a0 := Tryz.isAgg0
  z0 := Tryz.sizeOf0
  v0 := Tryz.zeroValue0
  t3 := Tryz.underlying3
  a3 := Tryz.isAgg3
  z3 := Tryz.sizeOf3
  v3 := Tryz.zeroValue3
  t4 := Tryz.underlying4
  a4 := Tryz.isAgg4
  z4 := Tryz.sizeOf4
  v4 := Tryz.zeroValue4
  t5 := Tryz.underlying5
  a5 := Tryz.isAgg5
  z5 := Tryz.sizeOf5
  v5 := Tryz.zeroValue5
  t9 := Tryz.underlying9
  a9 := Tryz.isAgg9
  z9 := Tryz.sizeOf9
  v9 := Tryz.zeroValue9
  t21 := Tryz.underlying21
  a21 := Tryz.isAgg21
  z21 := Tryz.sizeOf21
  v21 := Tryz.zeroValue21
  t46 := Tryz.underlying139
  a46 := Tryz.isAgg139
  z46 := Tryz.sizeOf139
  v46 := Tryz.zeroValue139
  t105 := Tryz.underlying410
  a105 := Tryz.isAgg410
  z105 := Tryz.sizeOf410
  v105 := Tryz.zeroValue410
  t116 := Tryz.underlying383
  a116 := Tryz.isAgg383
  z116 := Tryz.sizeOf383
  t117 := Tryz.underlying384
  a117 := Tryz.isAgg384
  z117 := Tryz.sizeOf384
  v117 := Tryz.zeroValue384
  t119 := Tryz.underlying437
  a119 := Tryz.isAgg437
  z119 := Tryz.sizeOf437
  t124 := Tryz.underlying387
  a124 := Tryz.isAgg387
  z124 := Tryz.sizeOf387
  v124 := Tryz.zeroValue387
  t138 := Tryz.underlying439
  a138 := Tryz.isAgg439
  z138 := Tryz.sizeOf439
  v138 := Tryz.zeroValue439
  t139 := Tryz.underlying440
  a139 := Tryz.isAgg440
  z139 := Tryz.sizeOf440
  v139 := Tryz.zeroValue440
  g3 := by kernel_rfl
  g4 := by kernel_rfl }
open Go.RowKit in
theorem Tryz.strings_TrimLeft_one (s : ByteArray) (c : UInt8) (hc : c.toNat < 128) (w : World) :
    Calls Tryz.prog 248 #[.string s, .string ⟨#[c]⟩] w fun e w' => e = .returned (.string ⟨(Lib.trimLeftB s.data.toList c).toArray⟩) ∧ w' = w := Any.strings_TrimLeft_one Tryz.lays161 s c hc w
def Tryz.lays160_ren : Go.Shelf.Ren := ⟨fun | 160 => 272 | 232 => 297 | 231 => 282 | 227 => 283 | 234 => 298 | 233 => 284 | 236 => 299 | 235 => 285 | 228 => 309 | 271 => 325 | 151 => 311 | 197 => 310 | 120 => 353 | 152 => 335 | 260 => 334 | 137 => 249 | 119 => 356 | 224 => 332 | 225 => 331 | 217 => 286 | 266 => 312 | n => n, fun | 9 => 9 | 4 => 4 | 3 => 3 | 5 => 5 | 117 => 384 | 116 => 383 | 0 => 0 | 124 => 387 | 21 => 21 | 105 => 410 | 46 => 139 | 119 => 437 | 139 => 440 | 138 => 439 | n => n, fun | 3 => 6 | 4 => 7 | n => n⟩
theorem Tryz.lays160 : Go.Proofs.Lays.n160 Tryz.prog Tryz.lays160_ren := {
  mixed := by kernel_rfl
  f119 := Tryz.func356.trans (congrArg some (by kernel_rfl))
  f120 := Tryz.func353.trans (congrArg some (by kernel_rfl))
  f137 := Tryz.func249.trans (congrArg some (by kernel_rfl))
  f151 := Tryz.func311.trans (congrArg some (by kernel_rfl))
  f152 := Tryz.func335.trans (congrArg some (by kernel_rfl))
  f160 := Tryz.func272.trans (congrArg some (by kernel_rfl))
  f197 := Tryz.func310.trans (congrArg some (by kernel_rfl))
  f217 := Tryz.func286.trans (congrArg some (by kernel_rfl))
  f224 := Tryz.func332.trans (congrArg some (by kernel_rfl))
  f225 := Tryz.func331.trans (congrArg some (by kernel_rfl))
  f227 := Tryz.func283.trans (congrArg some (by kernel_rfl))
  f228 := Tryz.func309.trans (congrArg some (by kernel_rfl))
  f231 := Tryz.func282.trans (congrArg some (by kernel_rfl))
  f232 := Tryz.func297.trans (congrArg some (by kernel_rfl))
  f233 := Tryz.func284.trans (congrArg some (by kernel_rfl))
  f234 := Tryz.func298.trans (congrArg some (by kernel_rfl))
  f235 := Tryz.func285.trans (congrArg some (by kernel_rfl))
  f236 := Tryz.func299.trans (congrArg some (by kernel_rfl))
  f260 := Tryz.func334.trans (congrArg some (by kernel_rfl))
  f266 := Tryz.func312.trans (congrArg some (by kernel_rfl))
  f271 := Tryz.func325.trans (congrArg some (by kernel_rfl))
  t0 := Tryz.underlying0
  a0 := Tryz.isAgg0
  z0 := Tryz.sizeOf0
  v0 := Tryz.zeroValue0
  t3 := Tryz.underlying3
  a3 := Tryz.isAgg3
  z3 := Tryz.sizeOf3
  v3 := Tryz.zeroValue3
  t4 := Tryz.underlying4
  a4 := Tryz.isAgg4
  z4 := Tryz.sizeOf4
  v4 := Tryz.zeroValue4
  t5 := Tryz.underlying5
  a5 := Tryz.isAgg5
  z5 := Tryz.sizeOf5
  v5 := Tryz.zeroValue5
  t9 := Tryz.underlying9
  a9 := Tryz.isAgg9
  z9 := Tryz.sizeOf9
  v9 := Tryz.zeroValue9
  t21 := Tryz.underlying21
  a21 := Tryz.isAgg21
  z21 := Tryz.sizeOf21
  v21 := Tryz.zeroValue21
  t46 := Tryz.underlying139
  a46 := Tryz.isAgg139
  z46 := Tryz.sizeOf139
  v46 := Tryz.zeroValue139
  t105 := Tryz.underlying410
  a105 := Tryz.isAgg410
  z105 := Tryz.sizeOf410
  v105 := Tryz.zeroValue410
  t116 := Tryz.underlying383
  a116 := Tryz.isAgg383
  z116 := Tryz.sizeOf383
  t117 := Tryz.underlying384
  a117 := Tryz.isAgg384
  z117 := Tryz.sizeOf384
  v117 := Tryz.zeroValue384
  t119 := Tryz.underlying437
  a119 := Tryz.isAgg437
  z119 := Tryz.sizeOf437
  t124 := Tryz.underlying387
  a124 := Tryz.isAgg387
  z124 := Tryz.sizeOf387
  v124 := Tryz.zeroValue387
  t138 := Tryz.underlying439
  a138 := Tryz.isAgg439
  z138 := Tryz.sizeOf439
  v138 := Tryz.zeroValue439
  t139 := Tryz.underlying440
  a139 := Tryz.isAgg440
  z139 := Tryz.sizeOf440
  v139 := Tryz.zeroValue440
  g3 := by kernel_rfl
  g4 := by kernel_rfl }
def Tryz.lays106_ren : Go.Shelf.Ren := ⟨fun | 106 => 168 | 213 => 224 | 265 => 269 | n => n, fun | 9 => 9 | 3 => 3 | n => n, fun | n => n⟩
theorem Tryz.lays106 : Go.Proofs.Lays.n106 Tryz.prog Tryz.lays106_ren := {
  mixed := by kernel_rfl
  f106 := Tryz.func168.trans (congrArg some (by kernel_rfl))
  f213 := Tryz.func224.trans (congrArg some (by kernel_rfl))
  f265 := Tryz.func269.trans (congrArg some (by kernel_rfl))
  t3 := Tryz.underlying3
  a3 := Tryz.isAgg3
  z3 := Tryz.sizeOf3
  v3 := Tryz.zeroValue3
  t9 := Tryz.underlying9
  a9 := Tryz.isAgg9
  z9 := Tryz.sizeOf9
  v9 := Tryz.zeroValue9 }
open Go.RowKit in
theorem Tryz.strings_Compare (a b : ByteArray) (w : World) :
    Calls Tryz.prog 168 #[.string a, .string b] w fun e w' => e = .returned (.int .i64 (Lib.compareBytes a.data.toList b.data.toList)) ∧ w' = w := Any.strings_Compare Tryz.lays106 a b w
def Tryz.lays104_ren : Go.Shelf.Ren := ⟨fun | 104 => 316 | 211 => 341 | 207 => 330 | n => n, fun | 9 => 9 | 4 => 4 | 24 => 257 | 3 => 3 | n => n, fun | n => n⟩
theorem Tryz.lays104 : Go.Proofs.Lays.n104 Tryz.prog Tryz.lays104_ren := {
  mixed := by kernel_rfl
  f104 := Tryz.func316.trans (congrArg some (by kernel_rfl))
  f207 := Tryz.func330.trans (congrArg some (by kernel_rfl))
  f211 := Tryz.func341.trans (congrArg some (by kernel_rfl))
  t3 := Tryz.underlying3
  a3 := Tryz.isAgg3
  z3 := Tryz.sizeOf3
  v3 := Tryz.zeroValue3
  t4 := Tryz.underlying4
  a4 := Tryz.isAgg4
  z4 := Tryz.sizeOf4
  v4 := Tryz.zeroValue4
  t9 := Tryz.underlying9
  a9 := Tryz.isAgg9
  z9 := Tryz.sizeOf9
  v9 := Tryz.zeroValue9
  t24 := Tryz.underlying257
  a24 := Tryz.isAgg257
  z24 := Tryz.sizeOf257
  v24 := Tryz.zeroValue257 }
open Go.RowKit in
theorem Tryz.strings_CutSuffix (s p : ByteArray) (w : World) (hs : s.size ≤ 9223372036854775807) :
    Calls Tryz.prog 316 #[.string s, .string p] w fun e w' => e = .returned (.tuple #[.string ⟨(Lib.trimSuffix s.data.toList p.data.toList).toArray⟩, .bool (Lib.hasSuffix s.data.toList p.data.toList)]) ∧ w' = w := Any.strings_CutSuffix Tryz.lays104 s p w hs
def Tryz.lays283_ren : Go.Shelf.Ren := ⟨fun | 283 => 198 | n => n, fun | 3 => 3 | 9 => 9 | 4 => 4 | n => n, fun | n => n⟩
theorem Tryz.lays283 : Go.Proofs.Lays.n283 Tryz.prog Tryz.lays283_ren := {
  mixed := by kernel_rfl
  f283 := Tryz.func198.trans (congrArg some (by kernel_rfl))
  t3 := Tryz.underlying3
  a3 := Tryz.isAgg3
  z3 := Tryz.sizeOf3
  v3 := Tryz.zeroValue3
  t4 := Tryz.underlying4
  a4 := Tryz.isAgg4
  z4 := Tryz.sizeOf4
  v4 := Tryz.zeroValue4
  t9 := Tryz.underlying9
  a9 := Tryz.isAgg9
  z9 := Tryz.sizeOf9
  v9 := Tryz.zeroValue9 }
open Go.Lib in
theorem Tryz.internal_strconv_small (i : Nat) (h : i < 100) (w : World) :
    Calls Tryz.prog 198 #[.int .i64 i] w fun e w' => e = .returned (.string ⟨(Lib.decDigits i).toArray⟩) ∧ w' = w := Any.internal_strconv_small Tryz.lays283 i h w
def Tryz.laysC174_ren : Go.Shelf.Ren := ⟨fun | 174 => 364 | 247 => 367 | 245 => 274 | 287 => 273 | 279 => 302 | 280 => 303 | 281 => 304 | 282 => 305 | 321 => 300 | 322 => 301 | 316 => 326 | 171 => 328 | 205 => 327 | 243 => 354 | 246 => 362 | 283 => 198 | 284 => 199 | 285 => 200 | 286 => 201 | 129 => 242 | 317 => 241 | 318 => 243 | 319 => 244 | 320 => 245 | 337 => 278 | 338 => 279 | n => n, fun | 9 => 9 | 3 => 3 | 2 => 2 | 75 => 336 | 85 => 443 | 4 => 4 | 167 => 399 | 5 => 5 | 53 => 46 | 175 => 337 | 46 => 139 | 168 => 401 | 37 => 118 | 0 => 0 | 210 => 424 | 21 => 21 | 127 => 398 | 145 => 435 | 143 => 433 | 171 => 307 | 173 => 308 | 212 => 350 | 51 => 48 | 20 => 20 | 213 => 351 | 232 => 407 | 233 => 408 | 80 => 360 | n => n, fun | 15 => 4 | 16 => 5 | 17 => 0 | 18 => 2 | 19 => 3 | n => n⟩
theorem Tryz.laysC174 : Go.Proofs.LaysC.n174 Tryz.prog Tryz.laysC174_ren := {
  mixed := by kernel_rfl
  f129 := Tryz.func242.trans (congrArg some (by kernel_rfl))
  f171 := Tryz.func328.trans (congrArg some (by kernel_rfl))
  f174 := Tryz.func364.trans (congrArg some (by kernel_rfl))
  f205 := Tryz.func327.trans (congrArg some (by kernel_rfl))
  f243 := Tryz.func354.trans (congrArg some (by kernel_rfl))
  f245 := Tryz.func274.trans (congrArg some (by kernel_rfl))
  f246 := Tryz.func362.trans (congrArg some (by kernel_rfl))
  f247 := Tryz.func367.trans (congrArg some (by kernel_rfl))
  f279 := Tryz.func302.trans (congrArg some (by kernel_rfl))
  f280 := Tryz.func303.trans (congrArg some (by kernel_rfl))
  f281 := Tryz.func304.trans (congrArg some (by kernel_rfl))
  f282 := Tryz.func305.trans (congrArg some (by kernel_rfl))
  f283 := Tryz.func198.trans (congrArg some (by kernel_rfl))
  f284 := Tryz.func199.trans (congrArg some (by kernel_rfl))
  f285 := Tryz.func200.trans (congrArg some (by kernel_rfl))
  f286 := Tryz.func201.trans (congrArg some (by kernel_rfl))
  f287 := Tryz.func273.trans (congrArg some (by kernel_rfl))
  f316 := Tryz.func326.trans (congrArg some (by kernel_rfl))
  f317 := Tryz.func241.trans (congrArg some (by kernel_rfl))
  f318 := Tryz.func243.trans (congrArg some (by kernel_rfl))
  f319 := Tryz.func244.trans (congrArg some (by kernel_rfl))
  f320 := Tryz.func245.trans (congrArg some (by kernel_rfl))
  f321 := Tryz.func300.trans (congrArg some (by kernel_rfl))
  f322 := Tryz.func301.trans (congrArg some (by kernel_rfl))
  f337 := Tryz.func278.trans (congrArg some (by kernel_rfl))
  f338 := Tryz.func279.trans (congrArg some (by kernel_rfl))
  t0 := Tryz.underlying0
  a0 := Tryz.isAgg0
  z0 := Tryz.sizeOf0
  v0 := Tryz.zeroValue0
  t2 := Tryz.underlying2
  a2 := Tryz.isAgg2
  z2 := Tryz.sizeOf2
  v2 := Tryz.zeroValue2
  t3 := Tryz.underlying3
  a3 := Tryz.isAgg3
  z3 := Tryz.sizeOf3
  v3 := Tryz.zeroValue3
  t4 := Tryz.underlying4
  a4 := Tryz.isAgg4
  z4 := Tryz.sizeOf4
  v4 := Tryz.zeroValue4
  t5 := Tryz.underlying5
  a5 := Tryz.isAgg5
  z5 := Tryz.sizeOf5
  v5 := Tryz.zeroValue5
  t9 := Tryz.underlying9
  a9 := Tryz.isAgg9
  z9 := Tryz.sizeOf9
  v9 := Tryz.zeroValue9
  t20 := Tryz.underlying20
  a20 := Tryz.isAgg20
  z20 := Tryz.sizeOf20
  v20 := Tryz.zeroValue20
  t21 := Tryz.underlying21
  a21 := Tryz.isAgg21
  z21 := Tryz.sizeOf21
  v21 := Tryz.zeroValue21
  t37 := Tryz.underlying118
  a37 := Tryz.isAgg118
  z37 := Tryz.sizeOf118
  v37 := Tryz.zeroValue118
  t46 := Tryz.underlying139
  a46 := Tryz.isAgg139
  z46 := Tryz.sizeOf139
  v46 := Tryz.zeroValue139
  t51 := Tryz.underlying48
  a51 := Tryz.isAgg48
  z51 := Tryz.sizeOf48
  v51 := Tryz.zeroValue48
  t53 := Tryz.underlying46
  a53 := Tryz.isAgg46
  z53 := Tryz.sizeOf46
  v53 := Tryz.zeroValue46
  t75 := Tryz.underlying336
  a75 := Tryz.isAgg336
  z75 := Tryz.sizeOf336
  v75 := Tryz.zeroValue336
  t85 := Tryz.underlying443
  a85 := Tryz.isAgg443
  z85 := Tryz.sizeOf443
  v85 := Tryz.zeroValue443
  t127 := Tryz.underlying398
  a127 := Tryz.isAgg398
  z127 := Tryz.sizeOf398
  v127 := Tryz.zeroValue398
  t143 := Tryz.underlying433
  a143 := Tryz.isAgg433
  z143 := Tryz.sizeOf433
  v143 := Tryz.zeroValue433
  t145 := Tryz.underlying435
  a145 := Tryz.isAgg435
  z145 := Tryz.sizeOf435
  v145 := Tryz.zeroValue435
  t167 := Tryz.underlying399
  a167 := Tryz.isAgg399
  z167 := Tryz.sizeOf399
  v167 := Tryz.zeroValue399
  t168 := Tryz.underlying401
  a168 := Tryz.isAgg401
  z168 := Tryz.sizeOf401
  v168 := Tryz.zeroValue401
  t171 := Tryz.underlying307
  a171 := Tryz.isAgg307
  z171 := Tryz.sizeOf307
  v171 := Tryz.zeroValue307
  t173 := Tryz.underlying308
  a173 := Tryz.isAgg308
  z173 := Tryz.sizeOf308
  v173 := Tryz.zeroValue308
  t175 := Tryz.underlying337
  a175 := Tryz.isAgg337
  z175 := Tryz.sizeOf337
  v175 := Tryz.zeroValue337
  t210 := Tryz.underlying424
  a210 := Tryz.isAgg424
  z210 := Tryz.sizeOf424
  v210 := Tryz.zeroValue424
  t212 := Tryz.underlying350
  a212 := Tryz.isAgg350
  z212 := Tryz.sizeOf350
  v212 := Tryz.zeroValue350
  t213 := Tryz.underlying351
  a213 := Tryz.isAgg351
  z213 := Tryz.sizeOf351
  t232 := Tryz.underlying407
  a232 := Tryz.isAgg407
  z232 := Tryz.sizeOf407
  v232 := Tryz.zeroValue407
  t233 := Tryz.underlying408
  a233 := Tryz.isAgg408
  z233 := Tryz.sizeOf408
  v233 := Tryz.zeroValue408
  g15 := by kernel_rfl
  g16 := by kernel_rfl
  g17 := by kernel_rfl
  g18 := by kernel_rfl
  g19 := by kernel_rfl
  t80 := Tryz.underlying360
  a80 := Tryz.isAgg360
  z80 := Tryz.sizeOf360
  v80 := Tryz.zeroValue360
  i0 := by kernel_rfl
  i2 := by kernel_rfl
  i3 := by kernel_rfl
  i4 := by kernel_rfl
  i5 := by kernel_rfl
  i9 := by kernel_rfl
  i20 := by kernel_rfl
  i21 := by kernel_rfl
  i37 := by kernel_rfl
  i46 := by kernel_rfl
  i51 := by kernel_rfl
  i53 := by kernel_rfl
  i75 := by kernel_rfl
  i80 := by kernel_rfl
  i85 := by kernel_rfl
  i127 := by kernel_rfl
  i143 := by kernel_rfl
  i145 := by kernel_rfl
  i167 := by kernel_rfl
  i168 := by kernel_rfl
  i171 := by kernel_rfl
  i173 := by kernel_rfl
  i175 := by kernel_rfl
  i210 := by kernel_rfl
  i212 := by kernel_rfl
  i232 := by kernel_rfl
  i233 := by kernel_rfl
  m15 := by kernel_rfl
  m16 := by kernel_rfl
  m17 := by kernel_rfl
  m18 := by kernel_rfl
  m19 := by kernel_rfl
  c0 := by kernel_rfl
  c2 := by kernel_rfl
  c3 := by kernel_rfl
  c4 := by kernel_rfl
  c5 := by kernel_rfl
  c9 := by kernel_rfl
  c20 := by kernel_rfl
  c21 := by kernel_rfl
  c37 := by kernel_rfl
  c46 := by kernel_rfl
  c51 := by kernel_rfl
  c53 := by kernel_rfl
  c75 := by kernel_rfl
  c80 := by kernel_rfl
  c85 := by kernel_rfl
  c127 := by kernel_rfl
  c143 := by kernel_rfl
  c145 := by kernel_rfl
  c167 := by kernel_rfl
  c168 := by kernel_rfl
  c171 := by kernel_rfl
  c173 := by kernel_rfl
  c175 := by kernel_rfl
  c210 := by kernel_rfl
  c212 := by kernel_rfl
  c213 := by kernel_rfl
  c232 := by kernel_rfl
  c233 := by kernel_rfl }
open Go.RowKit in
theorem Tryz.strconv_ParseInt_10_at64_ok (s : ByteArray) (hmax : s.size ≤ 9223372036854775806) (v : Int) (h : Lib.parseIntB 64 s.data.toList = .ok v) (w : World) :
    Calls Tryz.prog 364 #[.string s, .int .i64 10, .int .i64 64] w fun e w' => e = .returned (.tuple #[.int .i64 v, .nilIface]) ∧ (w' = w ∨ ∃ t, w' = Lib.bytesWorld w 5 t) := Any.strconv_ParseInt_10_at64_ok Tryz.laysC174 s hmax v h w
def Tryz.laysPu14_ren : Go.Shelf.Ren := ⟨fun | 14 => 227 | 16 => 273 | 17 => 274 | 19 => 300 | 20 => 301 | 21 => 302 | 22 => 303 | 23 => 304 | 24 => 305 | 25 => 326 | 27 => 328 | 26 => 327 | 28 => 354 | 29 => 362 | 30 => 198 | 31 => 199 | 32 => 200 | 33 => 201 | 35 => 242 | 34 => 241 | 36 => 243 | 37 => 244 | 38 => 245 | 39 => 278 | 40 => 279 | n => n, fun | 9 => 9 | 3 => 3 | 22 => 46 | 24 => 336 | 25 => 337 | 4 => 4 | 34 => 399 | 5 => 5 | 36 => 139 | 37 => 118 | 0 => 0 | 39 => 401 | 21 => 21 | 44 => 424 | 47 => 398 | 50 => 435 | 48 => 433 | 2 => 2 | 52 => 307 | 55 => 308 | 59 => 350 | 60 => 48 | 20 => 20 | 61 => 351 | 65 => 407 | 66 => 408 | 67 => 360 | n => n, fun | 0 => 4 | 1 => 5 | 2 => 0 | 3 => 2 | 4 => 3 | n => n⟩
theorem Tryz.laysPu14 : Go.Proofs.LaysPu.n14 Tryz.prog Tryz.laysPu14_ren := {
  mixed := by kernel_rfl
  f14 := Tryz.func227.trans (congrArg some (by kernel_rfl))
  f16 := Tryz.func273.trans (congrArg some (by kernel_rfl))
  f17 := Tryz.func274.trans (congrArg some (by kernel_rfl))
  f19 := Tryz.func300.trans (congrArg some (by kernel_rfl))
  f20 := Tryz.func301.trans (congrArg some (by kernel_rfl))
  f21 := Tryz.func302.trans (congrArg some (by kernel_rfl))
  f22 := Tryz.func303.trans (congrArg some (by kernel_rfl))
  f23 := Tryz.func304.trans (congrArg some (by kernel_rfl))
  f24 := Tryz.func305.trans (congrArg some (by kernel_rfl))
  f25 := Tryz.func326.trans (congrArg some (by kernel_rfl))
  f26 := Tryz.func327.trans (congrArg some (by kernel_rfl))
  f27 := Tryz.func328.trans (congrArg some (by kernel_rfl))
  f28 := Tryz.func354.trans (congrArg some (by kernel_rfl))
  f29 := Tryz.func362.trans (congrArg some (by kernel_rfl))
  f30 := Tryz.func198.trans (congrArg some (by kernel_rfl))
  f31 := Tryz.func199.trans (congrArg some (by kernel_rfl))
  f32 := Tryz.func200.trans (congrArg some (by kernel_rfl))
  f33 := Tryz.func201.trans (congrArg some (by kernel_rfl))
  f34 := Tryz.func241.trans (congrArg some (by kernel_rfl))
  f35 := Tryz.func242.trans (congrArg some (by kernel_rfl))
  f36 := Tryz.func243.trans (congrArg some (by kernel_rfl))
  f37 := Tryz.func244.trans (congrArg some (by kernel_rfl))
  f38 := Tryz.func245.trans (congrArg some (by kernel_rfl))
  f39 := Tryz.func278.trans (congrArg some (by kernel_rfl))
  f40 := Tryz.func279.trans (congrArg some (by kernel_rfl))
  t0 := Tryz.underlying0
  a0 := Tryz.isAgg0
  z0 := Tryz.sizeOf0
  v0 := Tryz.zeroValue0
  i0 := by kernel_rfl
  t2 := Tryz.underlying2
  a2 := Tryz.isAgg2
  z2 := Tryz.sizeOf2
  v2 := Tryz.zeroValue2
  i2 := by kernel_rfl
  t3 := Tryz.underlying3
  a3 := Tryz.isAgg3
  z3 := Tryz.sizeOf3
  v3 := Tryz.zeroValue3
  i3 := by kernel_rfl
  t4 := Tryz.underlying4
  a4 := Tryz.isAgg4
  z4 := Tryz.sizeOf4
  v4 := Tryz.zeroValue4
  i4 := by kernel_rfl
  t5 := Tryz.underlying5
  a5 := Tryz.isAgg5
  z5 := Tryz.sizeOf5
  v5 := Tryz.zeroValue5
  i5 := by kernel_rfl
  t9 := Tryz.underlying9
  a9 := Tryz.isAgg9
  z9 := Tryz.sizeOf9
  v9 := Tryz.zeroValue9
  i9 := by kernel_rfl
  t20 := Tryz.underlying20
  a20 := Tryz.isAgg20
  z20 := Tryz.sizeOf20
  v20 := Tryz.zeroValue20
  i20 := by kernel_rfl
  t21 := Tryz.underlying21
  a21 := Tryz.isAgg21
  z21 := Tryz.sizeOf21
  v21 := Tryz.zeroValue21
  i21 := by kernel_rfl
  t22 := Tryz.underlying46
  a22 := Tryz.isAgg46
  z22 := Tryz.sizeOf46
  v22 := Tryz.zeroValue46
  i22 := by kernel_rfl
  t24 := Tryz.underlying336
  a24 := Tryz.isAgg336
  z24 := Tryz.sizeOf336
  v24 := Tryz.zeroValue336
  i24 := by kernel_rfl
  t25 := Tryz.underlying337
  a25 := Tryz.isAgg337
  z25 := Tryz.sizeOf337
  v25 := Tryz.zeroValue337
  i25 := by kernel_rfl
  t34 := Tryz.underlying399
  a34 := Tryz.isAgg399
  z34 := Tryz.sizeOf399
  v34 := Tryz.zeroValue399
  i34 := by kernel_rfl
  c34 := by kernel_rfl
  t36 := Tryz.underlying139
  a36 := Tryz.isAgg139
  z36 := Tryz.sizeOf139
  v36 := Tryz.zeroValue139
  i36 := by kernel_rfl
  t37 := Tryz.underlying118
  a37 := Tryz.isAgg118
  z37 := Tryz.sizeOf118
  v37 := Tryz.zeroValue118
  i37 := by kernel_rfl
  t39 := Tryz.underlying401
  a39 := Tryz.isAgg401
  z39 := Tryz.sizeOf401
  v39 := Tryz.zeroValue401
  i39 := by kernel_rfl
  t44 := Tryz.underlying424
  a44 := Tryz.isAgg424
  z44 := Tryz.sizeOf424
  v44 := Tryz.zeroValue424
  i44 := by kernel_rfl
  t47 := Tryz.underlying398
  a47 := Tryz.isAgg398
  z47 := Tryz.sizeOf398
  v47 := Tryz.zeroValue398
  i47 := by kernel_rfl
  t48 := Tryz.underlying433
  a48 := Tryz.isAgg433
  z48 := Tryz.sizeOf433
  v48 := Tryz.zeroValue433
  i48 := by kernel_rfl
  t50 := Tryz.underlying435
  a50 := Tryz.isAgg435
  z50 := Tryz.sizeOf435
  v50 := Tryz.zeroValue435
  i50 := by kernel_rfl
  t52 := Tryz.underlying307
  a52 := Tryz.isAgg307
  z52 := Tryz.sizeOf307
  v52 := Tryz.zeroValue307
  i52 := by kernel_rfl
  t55 := Tryz.underlying308
  a55 := Tryz.isAgg308
  z55 := Tryz.sizeOf308
  v55 := Tryz.zeroValue308
  i55 := by kernel_rfl
  t59 := Tryz.underlying350
  a59 := Tryz.isAgg350
  z59 := Tryz.sizeOf350
  v59 := Tryz.zeroValue350
  i59 := by kernel_rfl
  t60 := Tryz.underlying48
  a60 := Tryz.isAgg48
  z60 := Tryz.sizeOf48
  v60 := Tryz.zeroValue48
  i60 := by kernel_rfl
  t61 := Tryz.underlying351
  a61 := Tryz.isAgg351
  z61 := Tryz.sizeOf351
  t65 := Tryz.underlying407
  a65 := Tryz.isAgg407
  z65 := Tryz.sizeOf407
  v65 := Tryz.zeroValue407
  i65 := by kernel_rfl
  t66 := Tryz.underlying408
  a66 := Tryz.isAgg408
  z66 := Tryz.sizeOf408
  v66 := Tryz.zeroValue408
  i66 := by kernel_rfl
  t67 := Tryz.underlying360
  a67 := Tryz.isAgg360
  z67 := Tryz.sizeOf360
  v67 := Tryz.zeroValue360
  i67 := by kernel_rfl
  g0 := by kernel_rfl
  m0 := by kernel_rfl
  g1 := by kernel_rfl
  m1 := by kernel_rfl
  g2 := by kernel_rfl
  m2 := by kernel_rfl
  g3 := by kernel_rfl
  m3 := by kernel_rfl
  g4 := by kernel_rfl
  m4 := by kernel_rfl }
open Go.RowKit in
theorem Tryz.strconv_ParseUint_10_at64_ok (s : ByteArray) (hmax : s.size ≤ 9223372036854775806) (u : Nat) (h : Lib.parseUintB 64 s.data.toList = .ok u) (w : World) :
    Calls Tryz.prog 227 #[.string s, .int .i64 10, .int .i64 64] w fun e w' => e = .returned (.tuple #[.int .u64 u, .nilIface]) ∧ (w' = w ∨ w' = Lib.bytesWorld w 5 s) := Any.strconv_ParseUint_10_at64_ok Tryz.laysPu14 s hmax u h w
def Tryz.lays219_ren : Go.Shelf.Ren := ⟨fun | 219 => 308 | 217 => 286 | 225 => 331 | 224 => 332 | 267 => 333 | 266 => 312 | 314 => 355 | n => n, fun | 9 => 9 | 3 => 3 | 4 => 4 | 5 => 5 | 46 => 139 | 146 => 248 | 51 => 48 | n => n, fun | 1 => 1 | n => n⟩
theorem Tryz.lays219 : Go.Proofs.Lays.n219 Tryz.prog Tryz.lays219_ren := {
  mixed := by kernel_rfl
  f217 := Tryz.func286.trans (congrArg some (by kernel_rfl))
  f219 := Tryz.func308.trans (congrArg some (by kernel_rfl))
  f224 := Tryz.func332.trans (congrArg some (by kernel_rfl))
  f225 := Tryz.func331.trans (congrArg some (by kernel_rfl))
  f266 := Tryz.func312.trans (congrArg some (by kernel_rfl))
  f267 := Tryz.func333.trans (congrArg some (by kernel_rfl))
  f314 := Tryz.func355.trans (congrArg some (by kernel_rfl))
  t3 := Tryz.underlying3
  a3 := Tryz.isAgg3
  z3 := Tryz.sizeOf3
  v3 := Tryz.zeroValue3
  t4 := Tryz.underlying4
  a4 := Tryz.isAgg4
  z4 := Tryz.sizeOf4
  v4 := Tryz.zeroValue4
  t5 := Tryz.underlying5
  a5 := Tryz.isAgg5
  z5 := Tryz.sizeOf5
  v5 := Tryz.zeroValue5
  t9 := Tryz.underlying9
  a9 := Tryz.isAgg9
  z9 := Tryz.sizeOf9
  v9 := Tryz.zeroValue9
  t46 := Tryz.underlying139
  a46 := Tryz.isAgg139
  z46 := Tryz.sizeOf139
  v46 := Tryz.zeroValue139
  t51 := Tryz.underlying48
  a51 := Tryz.isAgg48
  z51 := Tryz.sizeOf48
  v51 := Tryz.zeroValue48
  t146 := Tryz.underlying248
  a146 := Tryz.isAgg248
  z146 := Tryz.sizeOf248
  v146 := Tryz.zeroValue248
  g1 := by kernel_rfl }
open Go.RowKit Go.Lib in
theorem Tryz.stringslite_Index_one (s : ByteArray) (c : UInt8) (w : World) :
    Calls Tryz.prog 308 #[.string s, .string ⟨#[c]⟩] w fun e w' => e = .returned (.int .i64 (Lib.indexByte s.data.toList c)) ∧ w' = w := Any.stringslite_Index_one Tryz.lays219 s c w
def Tryz.lays99_ren : Go.Shelf.Ren := ⟨fun | 99 => 294 | 206 => 322 | n => n, fun | 9 => 9 | 4 => 4 | 3 => 3 | n => n, fun | n => n⟩
theorem Tryz.lays99 : Go.Proofs.Lays.n99 Tryz.prog Tryz.lays99_ren := {
  mixed := by kernel_rfl
  f99 := Tryz.func294.trans (congrArg some (by kernel_rfl))
  f206 := Tryz.func322.trans (congrArg some (by kernel_rfl))
  t3 := Tryz.underlying3
  a3 := Tryz.isAgg3
  z3 := Tryz.sizeOf3
  v3 := Tryz.zeroValue3
  t4 := Tryz.underlying4
  a4 := Tryz.isAgg4
  z4 := Tryz.sizeOf4
  v4 := Tryz.zeroValue4
  t9 := Tryz.underlying9
  a9 := Tryz.isAgg9
  z9 := Tryz.sizeOf9
  v9 := Tryz.zeroValue9 }
open Go.RowKit Go.Lib in
theorem Tryz.strings_HasPrefix (s p : ByteArray) (w : World) :
    Calls Tryz.prog 294 #[.string s, .string p] w fun e w' => e = .returned (.bool (Lib.hasPrefix s.data.toList p.data.toList)) ∧ w' = w := Any.strings_HasPrefix Tryz.lays99 s p w
def Tryz.lays100_ren : Go.Shelf.Ren := ⟨fun | 100 => 346 | 207 => 330 | n => n, fun | 9 => 9 | 4 => 4 | 3 => 3 | n => n, fun | n => n⟩
theorem Tryz.lays100 : Go.Proofs.Lays.n100 Tryz.prog Tryz.lays100_ren := {
  mixed := by kernel_rfl
  f100 := Tryz.func346.trans (congrArg some (by kernel_rfl))
  f207 := Tryz.func330.trans (congrArg some (by kernel_rfl))
  t3 := Tryz.underlying3
  a3 := Tryz.isAgg3
  z3 := Tryz.sizeOf3
  v3 := Tryz.zeroValue3
  t4 := Tryz.underlying4
  a4 := Tryz.isAgg4
  z4 := Tryz.sizeOf4
  v4 := Tryz.zeroValue4
  t9 := Tryz.underlying9
  a9 := Tryz.isAgg9
  z9 := Tryz.sizeOf9
  v9 := Tryz.zeroValue9 }
open Go.RowKit Go.Lib in
theorem Tryz.strings_HasSuffix (s p : ByteArray) (w : World) (hs : s.size ≤ 9223372036854775807) :
    Calls Tryz.prog 346 #[.string s, .string p] w fun e w' => e = .returned (.bool (Lib.hasSuffix s.data.toList p.data.toList)) ∧ w' = w := Any.strings_HasSuffix Tryz.lays100 s p w hs
def Tryz.lays101_ren : Go.Shelf.Ren := ⟨fun | 101 => 363 | 208 => 366 | 206 => 322 | n => n, fun | 9 => 9 | 4 => 4 | 3 => 3 | n => n, fun | n => n⟩
theorem Tryz.lays101 : Go.Proofs.Lays.n101 Tryz.prog Tryz.lays101_ren := {
  mixed := by kernel_rfl
  f101 := Tryz.func363.trans (congrArg some (by kernel_rfl))
  f206 := Tryz.func322.trans (congrArg some (by kernel_rfl))
  f208 := Tryz.func366.trans (congrArg some (by kernel_rfl))
  t3 := Tryz.underlying3
  a3 := Tryz.isAgg3
  z3 := Tryz.sizeOf3
  v3 := Tryz.zeroValue3
  t4 := Tryz.underlying4
  a4 := Tryz.isAgg4
  z4 := Tryz.sizeOf4
  v4 := Tryz.zeroValue4
  t9 := Tryz.underlying9
  a9 := Tryz.isAgg9
  z9 := Tryz.sizeOf9
  v9 := Tryz.zeroValue9 }
open Go.RowKit Go.Lib in
theorem Tryz.strings_TrimPrefix (s p : ByteArray) (w : World) :
    Calls Tryz.prog 363 #[.string s, .string p] w fun e w' => e = .returned (.string ⟨(Lib.trimPrefix s.data.toList p.data.toList).toArray⟩) ∧ w' = w := Any.strings_TrimPrefix Tryz.lays101 s p w
def Tryz.lays102_ren : Go.Shelf.Ren := ⟨fun | 102 => 280 | 209 => 307 | 207 => 330 | n => n, fun | 9 => 9 | 4 => 4 | 3 => 3 | n => n, fun | n => n⟩
theorem Tryz.lays102 : Go.Proofs.Lays.n102 Tryz.prog Tryz.lays102_ren := {
  mixed := by kernel_rfl
  f102 := Tryz.func280.trans (congrArg some (by kernel_rfl))
  f207 := Tryz.func330.trans (congrArg some (by kernel_rfl))
  f209 := Tryz.func307.trans (congrArg some (by kernel_rfl))
  t3 := Tryz.underlying3
  a3 := Tryz.isAgg3
  z3 := Tryz.sizeOf3
  v3 := Tryz.zeroValue3
  t4 := Tryz.underlying4
  a4 := Tryz.isAgg4
  z4 := Tryz.sizeOf4
  v4 := Tryz.zeroValue4
  t9 := Tryz.underlying9
  a9 := Tryz.isAgg9
  z9 := Tryz.sizeOf9
  v9 := Tryz.zeroValue9 }
open Go.RowKit Go.Lib in
theorem Tryz.strings_TrimSuffix (s p : ByteArray) (w : World) (hs : s.size ≤ 9223372036854775807) :
    Calls Tryz.prog 280 #[.string s, .string p] w fun e w' => e = .returned (.string ⟨(Lib.trimSuffix s.data.toList p.data.toList).toArray⟩) ∧ w' = w := Any.strings_TrimSuffix Tryz.lays102 s p w hs
def Tryz.lays109_ren : Go.Shelf.Ren := ⟨fun | 109 => 349 | n => n, fun | 31 => 31 | 9 => 9 | 3 => 3 | 0 => 0 | 4 => 4 | n => n, fun | n => n⟩
theorem Tryz.lays109 : Go.Proofs.Lays.n109 Tryz.prog Tryz.lays109_ren := {
  mixed := by kernel_rfl
  f109 := Tryz.func349.trans (congrArg some (by kernel_rfl))
  t0 := Tryz.underlying0
  a0 := Tryz.isAgg0
  z0 := Tryz.sizeOf0
  v0 := Tryz.zeroValue0
  t3 := Tryz.underlying3
  a3 := Tryz.isAgg3
  z3 := Tryz.sizeOf3
  v3 := Tryz.zeroValue3
  t4 := Tryz.underlying4
  a4 := Tryz.isAgg4
  z4 := Tryz.sizeOf4
  v4 := Tryz.zeroValue4
  t9 := Tryz.underlying9
  a9 := Tryz.isAgg9
  z9 := Tryz.sizeOf9
  v9 := Tryz.zeroValue9
  t31 := Tryz.underlying31
  a31 := Tryz.isAgg31
  z31 := Tryz.sizeOf31
  v31 := Tryz.zeroValue31 }
open Go.Lib in
theorem Tryz.slices_Index_string (b off n c : Nat) (zs : List ByteArray) (x : ByteArray) (w : World) (hz : n ≤ zs.length) (hbig : n ≤ 9223372036854775807) (hc : ∀ j, j < zs.length → w.cell? ⟨b, off + j, none⟩ = some (.string (zs.getD j ByteArray.empty))) :
    Calls Tryz.prog 349 #[.slice (some ⟨b, off, none⟩) n c, .string x] w fun e w' => e = .returned (.int .i64 (Lib.idxOfS (zs.take n) x)) ∧ w' = w := Any.slices_Index_string Tryz.lays109 b off n c zs x w hz hbig hc
end Go.Proofs.YtboehbfagnocpaaGreatDoor
