/- Joined texts: Shelf, L, NA. -/
import Derived.Shelf.Strings.Builder1
import Derived.Shelf.Strings.Builder2
import Derived.Shelf.Strings.OnBuilder
import Derived.Shelf.Small.Utf8
import Derived.Shelf.Small.Wraps
import Derived.Shelf.Strings.BuilderF
import Derived.Shelf.Strings.BuilderK
import Derived.Shelf.Utf8.RuneCount
import Derived.Shelf.Strings.Builder2Cap
import Derived.Shelf.Strconv.Itoa0
import Derived.Shelf.Strconv.Itoa1
import Derived.Shelf.LaysM
import Derived.Shelf.Strconv.Itoa2
import Derived.Shelf.Strconv.Itoa3
import Derived.Shelf.Strconv.Itoa4
import Derived.Shelf.Strconv.ParseIntEmpty
import Derived.Shelf.Strconv.Clone
import Derived.Shelf.Strconv.SyntaxError
import Derived.Shelf.LaysC
import Derived.Shelf.Strconv.ToError
import Derived.Shelf.Strconv.Lower
import Derived.Shelf.Strconv.ParseUint10
import Derived.Shelf.Strconv.ParseUint10Empty
import Derived.Shelf.Strconv.ParseUint10Any
import Derived.Shelf.Strconv.ParseInt10
import Derived.Shelf.Strconv.RangeError
import Derived.Shelf.Strconv.ToErrorRange
import Derived.Shelf.Strconv.ParseUintEmpty
import Derived.Shelf.Strconv.ParseUint10b64
import Derived.Shelf.Strconv.ParseUint10b32
import Derived.Shelf.Strconv.ParseUint10b16
import Derived.Shelf.Strconv.ParseUint10b8
import Derived.Shelf.Strconv.ParseUint10At
import Derived.Shelf.Strconv.ParseInt10At64
import Derived.Shelf.Strconv.ParseInt10At32
import Derived.Shelf.Strconv.ParseInt10At16
import Derived.Shelf.Strconv.ParseInt10At8
import Derived.Shelf.Strconv.ParseInt10All
import Derived.Shelf.Strconv.ParseIntPublic10
import Derived.Shelf.Strconv.ErrVarParseInt
import Derived.Shelf.Strings.Search1
import Derived.Shelf.Strings.Search2
import Derived.Shelf.Strings.Search3
import Derived.Shelf.Strings.Cut
import Derived.Shelf.Strings.Count
import Derived.Shelf.Strings.Shaped
import Derived.Shelf.Strings.Prefix
import Derived.Shelf.Strings.Split
import Derived.Shelf.Strings.Fields
import Derived.Shelf.Strings.SplitShaped
import Derived.Shelf.Unicode.Latin
import Derived.Shelf.Unicode.Decode
import Derived.Shelf.Strings.RuneCount
import Derived.Shelf.Strings.Explode
import Derived.Shelf.Unicode.DecodeSlow
import Derived.Shelf.Unicode.DecodeAny
import Derived.Shelf.Unicode.Is16White
import Derived.Shelf.Unicode.IsSpaceAny
import Derived.Shelf.Unicode.Is16WhiteD
import Derived.Shelf.Unicode.CaseLookup
import Derived.Shelf.Unicode.CaseConvert
import Derived.Shelf.Unicode.CaseTo
import Derived.Shelf.Unicode.CaseLaid
import Derived.Shelf.Unicode.Is16Any
import Derived.Shelf.Unicode.Is32Any
import Derived.Shelf.Unicode.ExclAny
import Derived.Shelf.Slices.Turned
import Derived.Test.YthfpekhpeiebjaaGreatDoorProg
import Derived.Test.YthfpekhpeiebjaaGreatDoorCards
import Derived.Test.YthfpekhpeiebjaaGreatDoorTie
import Derived.WalkKit
import Derived.ProofKit
import Derived.OpenShut
import Derived.Below
import Derived.ChangeSame
import Derived.LaidLaws
import Derived.Deep.DeepHandedRow
import Derived.Deep.DeepWitnessRowRef
import Derived.Lib.LaidTab
import Derived.Lib.LaidU8
import Derived.Lay
import Derived.Lib.ParseIntBCases
import Derived.Lib.ItoaMem
import Derived.Lib.ItoaLen
set_option linter.unusedSimpArgs false
set_option linter.unusedVariables false
section
/- The library functions that the job's text calls: their contracts (printed by the kit's tools). -/
namespace Go.Proofs
open Go.Shelf
def Tryz.lays159_ren : Go.Shelf.Ren := ⟨fun | 159 => 83 | 165 => 87 | 166 => 37 | 167 => 106 | 169 => 40 | 230 => 107 | 204 => 108 | 240 => 69 | 241 => 110 | 197 => 116 | 118 => 128 | 168 => 129 | 270 => 130 | 262 => 131 | 276 => 88 | 277 => 132 | 260 => 135 | 242 => 140 | 313 => 141 | 278 => 142 | 274 => 143 | 275 => 144 | n => n, fun | 9 => 9 | 4 => 4 | 3 => 3 | 5 => 5 | 72 => 85 | 0 => 0 | 76 => 88 | 75 => 87 | 107 => 156 | 70 => 83 | 20 => 20 | 37 => 55 | 127 => 121 | 21 => 21 | 105 => 161 | 164 => 136 | 162 => 201 | 203 => 199 | 119 => 142 | 46 => 94 | 139 => 204 | 138 => 203 | 51 => 39 | 160 => 209 | 208 => 215 | 206 => 213 | 80 => 92 | n => n, fun | 13 => 6 | 3 => 7 | 4 => 8 | n => n⟩
theorem Tryz.lays159 : Go.Proofs.Lays.n159 Tryz.prog Tryz.lays159_ren := {
 mixed := by kernel_rfl
 f118 := Tryz.func128.trans (congrArg some (by kernel_rfl))
 f159 := Tryz.func83.trans (congrArg some (by kernel_rfl))
 f165 := Tryz.func87.trans (congrArg some (by kernel_rfl))
 f166 := Tryz.func37.trans (congrArg some (by kernel_rfl))
 f167 := Tryz.func106.trans (congrArg some (by kernel_rfl))
 f168 := Tryz.func129.trans (congrArg some (by kernel_rfl))
 f169 := Tryz.func40.trans (congrArg some (by kernel_rfl))
 f197 := Tryz.func116.trans (congrArg some (by kernel_rfl))
 f204 := Tryz.func108.trans (congrArg some (by kernel_rfl))
 f230 := Tryz.func107.trans (congrArg some (by kernel_rfl))
 f240 := Tryz.func69.trans (congrArg some (by kernel_rfl))
 f241 := Tryz.func110.trans (congrArg some (by kernel_rfl))
 f242 := Tryz.func140.trans (congrArg some (by kernel_rfl))
 f260 := Tryz.func135.trans (congrArg some (by kernel_rfl))
 f262 := Tryz.func131.trans (congrArg some (by kernel_rfl))
 f270 := Tryz.func130.trans (congrArg some (by kernel_rfl))
 f274 := Tryz.func143.trans (congrArg some (by kernel_rfl))
 f275 := Tryz.func144.trans (congrArg some (by kernel_rfl))
 f276 := Tryz.func88.trans (congrArg some (by kernel_rfl))
 f277 := Tryz.func132.trans (congrArg some (by kernel_rfl))
 f278 := Tryz.func142.trans (congrArg some (by kernel_rfl))
 f313 := Tryz.func141.trans (congrArg some (by kernel_rfl))
 t0 := Tryz.underlying0
 a0 := Tryz.isAgg0
 z0 := Tryz.sizeOf0
 v0 := Tryz.zeroValue0
 t3 := Tryz.underlying3
 a3 := Tryz.isAgg3
 z3 := Tryz.sizeOf3
 v3 := Tryz.zeroValue3
 t4 := Tryz.underlying4
 a4 := Tryz.isAgg4
 z4 := Tryz.sizeOf4
 v4 := Tryz.zeroValue4
 t5 := Tryz.underlying5
 a5 := Tryz.isAgg5
 z5 := Tryz.sizeOf5
 v5 := Tryz.zeroValue5
 t9 := Tryz.underlying9
 a9 := Tryz.isAgg9
 z9 := Tryz.sizeOf9
 v9 := Tryz.zeroValue9
 t20 := Tryz.underlying20
 a20 := Tryz.isAgg20
 z20 := Tryz.sizeOf20
 v20 := Tryz.zeroValue20
 t21 := Tryz.underlying21
 a21 := Tryz.isAgg21
 z21 := Tryz.sizeOf21
 v21 := Tryz.zeroValue21
 t37 := Tryz.underlying55
 a37 := Tryz.isAgg55
 z37 := Tryz.sizeOf55
 v37 := Tryz.zeroValue55
 t46 := Tryz.underlying94
 a46 := Tryz.isAgg94
 z46 := Tryz.sizeOf94
 v46 := Tryz.zeroValue94
 t51 := Tryz.underlying39
 a51 := Tryz.isAgg39
 z51 := Tryz.sizeOf39
 v51 := Tryz.zeroValue39
 t70 := Tryz.underlying83
 a70 := Tryz.isAgg83
 z70 := Tryz.sizeOf83
 v70 := Tryz.zeroValue83
 t72 := Tryz.underlying85
 a72 := Tryz.isAgg85
 z72 := Tryz.sizeOf85
 v72 := Tryz.zeroValue85
 t75 := Tryz.underlying87
 a75 := Tryz.isAgg87
 z75 := Tryz.sizeOf87
 v75 := Tryz.zeroValue87
 t76 := Tryz.underlying88
 a76 := Tryz.isAgg88
 z76 := Tryz.sizeOf88
 v76 := Tryz.zeroValue88
 t105 := Tryz.underlying161
 a105 := Tryz.isAgg161
 z105 := Tryz.sizeOf161
 v105 := Tryz.zeroValue161
 t107 := Tryz.underlying156
 a107 := Tryz.isAgg156
 z107 := Tryz.sizeOf156
 v107 := Tryz.zeroValue156
 t119 := Tryz.underlying142
 a119 := Tryz.isAgg142
 z119 := Tryz.sizeOf142
 t127 := Tryz.underlying121
 a127 := Tryz.isAgg121
 z127 := Tryz.sizeOf121
 v127 := Tryz.zeroValue121
 t138 := Tryz.underlying203
 a138 := Tryz.isAgg203
 z138 := Tryz.sizeOf203
 v138 := Tryz.zeroValue203
 t139 := Tryz.underlying204
 a139 := Tryz.isAgg204
 z139 := Tryz.sizeOf204
 v139 := Tryz.zeroValue204
 t160 := Tryz.underlying209
 a160 := Tryz.isAgg209
 z160 := Tryz.sizeOf209
 v160 := Tryz.zeroValue209
 t162 := Tryz.underlying201
 a162 := Tryz.isAgg201
 z162 := Tryz.sizeOf201
 v162 := Tryz.zeroValue201
 t164 := Tryz.underlying136
 a164 := Tryz.isAgg136
 z164 := Tryz.sizeOf136
 v164 := Tryz.zeroValue136
 t203 := Tryz.underlying199
 a203 := Tryz.isAgg199
 z203 := Tryz.sizeOf199
 v203 := Tryz.zeroValue199
 t206 := Tryz.underlying213
 a206 := Tryz.isAgg213
 z206 := Tryz.sizeOf213
 v206 := Tryz.zeroValue213
 t208 := Tryz.underlying215
 a208 := Tryz.isAgg215
 z208 := Tryz.sizeOf215
 v208 := Tryz.zeroValue215
 g3 := by kernel_rfl
 g4 := by kernel_rfl
 g13 := by kernel_rfl }
theorem Tryz.Builder_Extra_159 : Builder.Extra Tryz.prog Tryz.lays159_ren := {
 sizeBuilder := by kernel_rfl
 liesBuilder := by kernel_rfl
 t5 := Tryz.underlying5
 a5 := Tryz.isAgg5
 z5 := Tryz.sizeOf5
 v5 := Tryz.zeroValue5
 infoByte := by kernel_rfl
 cellsByte := by kernel_rfl
 sizeByte := by kernel_rfl
 neB5 := by decide }
open Go.RowKit in
theorem Tryz.strings_ToLower_ascii (s : ByteArray) (w : World) (hs : s.size ≤ 140737488355328) (hascii : ∀ (j : Nat) (b : UInt8), s.data.toList[j]? = some b → b.toNat < 128) :
  Calls Tryz.prog 83 #[.string s] w fun e w' => e = .returned (.string ⟨(Lib.toLowerA s.data.toList).toArray⟩) ∧ Below w.heap.size w w' := Any.strings_ToLower_ascii Tryz.lays159 Tryz.Builder_Extra_159 s w hs hascii
def Tryz.lays156_ren : Go.Shelf.Ren := ⟨fun | 156 => 68 | 165 => 87 | 166 => 37 | 169 => 40 | 240 => 69 | 241 => 110 | 276 => 88 | 277 => 132 | n => n, fun | 31 => 103 | 9 => 9 | 3 => 3 | 4 => 4 | 0 => 0 | 20 => 20 | 72 => 85 | 76 => 88 | 70 => 83 | 37 => 55 | 75 => 87 | 127 => 121 | 164 => 136 | 5 => 5 | 80 => 92 | n => n, fun | n => n⟩
theorem Tryz.lays156 : Go.Proofs.Lays.n156 Tryz.prog Tryz.lays156_ren := {
 mixed := by kernel_rfl
 f156 := Tryz.func68.trans (congrArg some (by kernel_rfl))
 f165 := Tryz.func87.trans (congrArg some (by kernel_rfl))
 f166 := Tryz.func37.trans (congrArg some (by kernel_rfl))
 f169 := Tryz.func40.trans (congrArg some (by kernel_rfl))
 f240 := Tryz.func69.trans (congrArg some (by kernel_rfl))
 f241 := Tryz.func110.trans (congrArg some (by kernel_rfl))
 f276 := Tryz.func88.trans (congrArg some (by kernel_rfl))
 f277 := Tryz.func132.trans (congrArg some (by kernel_rfl))
 t0 := Tryz.underlying0
 a0 := Tryz.isAgg0
 z0 := Tryz.sizeOf0
 v0 := Tryz.zeroValue0
 t3 := Tryz.underlying3
 a3 := Tryz.isAgg3
 z3 := Tryz.sizeOf3
 v3 := Tryz.zeroValue3
 t4 := Tryz.underlying4
 a4 := Tryz.isAgg4
 z4 := Tryz.sizeOf4
 v4 := Tryz.zeroValue4
 t9 := Tryz.underlying9
 a9 := Tryz.isAgg9
 z9 := Tryz.sizeOf9
 v9 := Tryz.zeroValue9
 t20 := Tryz.underlying20
 a20 := Tryz.isAgg20
 z20 := Tryz.sizeOf20
 v20 := Tryz.zeroValue20
 t31 := Tryz.underlying103
 a31 := Tryz.isAgg103
 z31 := Tryz.sizeOf103
 v31 := Tryz.zeroValue103
 t37 := Tryz.underlying55
 a37 := Tryz.isAgg55
 z37 := Tryz.sizeOf55
 v37 := Tryz.zeroValue55
 t70 := Tryz.underlying83
 a70 := Tryz.isAgg83
 z70 := Tryz.sizeOf83
 v70 := Tryz.zeroValue83
 t72 := Tryz.underlying85
 a72 := Tryz.isAgg85
 z72 := Tryz.sizeOf85
 v72 := Tryz.zeroValue85
 t75 := Tryz.underlying87
 a75 := Tryz.isAgg87
 z75 := Tryz.sizeOf87
 v75 := Tryz.zeroValue87
 t76 := Tryz.underlying88
 a76 := Tryz.isAgg88
 z76 := Tryz.sizeOf88
 v76 := Tryz.zeroValue88
 t127 := Tryz.underlying121
 a127 := Tryz.isAgg121
 z127 := Tryz.sizeOf121
 v127 := Tryz.zeroValue121
 t164 := Tryz.underlying136
 a164 := Tryz.isAgg136
 z164 := Tryz.sizeOf136
 v164 := Tryz.zeroValue136 }
theorem Tryz.Builder_Extra_156 : Builder.Extra Tryz.prog Tryz.lays156_ren := {
 sizeBuilder := by kernel_rfl
 liesBuilder := by kernel_rfl
 t5 := Tryz.underlying5
 a5 := Tryz.isAgg5
 z5 := Tryz.sizeOf5
 v5 := Tryz.zeroValue5
 infoByte := by kernel_rfl
 cellsByte := by kernel_rfl
 sizeByte := by kernel_rfl
 neB5 := by decide }
open Go.RowKit in
theorem Tryz.strings_Join (bk o c : Nat) (xs : List ByteArray) (sep : ByteArray) (w : World) (hcells : ∀ (j : Nat) x, xs[j]? = some x → w.cell? ⟨bk, o + j, none⟩ = some (.string x)) (hbk : bk < w.heap.size) (hN : xs.length ≤ 140737488355328) (hcap : xs.length ≤ c) (hlen : (Lib.join (xs.map (·.data.toList)) sep.data.toList).length ≤ 140737488355328) :
  Calls Tryz.prog 68 #[.slice (some ⟨bk, o, none⟩) xs.length c, .string sep] w fun e w' => e = .returned (.string ⟨(Lib.join (xs.map (·.data.toList)) sep.data.toList).toArray⟩) ∧ Below w.heap.size w w' := Any.strings_Join Tryz.lays156 Tryz.Builder_Extra_156 bk o c xs sep w hcells hbk hN hcap hlen
def Tryz.lays103_ren : Go.Shelf.Ren := ⟨fun | 103 => 27 | 210 => 51 | 206 => 76 | n => n, fun | 9 => 9 | 4 => 4 | 24 => 69 | 3 => 3 | n => n, fun | n => n⟩
theorem Tryz.lays103 : Go.Proofs.Lays.n103 Tryz.prog Tryz.lays103_ren := {
 mixed := by kernel_rfl
 f103 := Tryz.func27.trans (congrArg some (by kernel_rfl))
 f206 := Tryz.func76.trans (congrArg some (by kernel_rfl))
 f210 := Tryz.func51.trans (congrArg some (by kernel_rfl))
 t3 := Tryz.underlying3
 a3 := Tryz.isAgg3
 z3 := Tryz.sizeOf3
 v3 := Tryz.zeroValue3
 t4 := Tryz.underlying4
 a4 := Tryz.isAgg4
 z4 := Tryz.sizeOf4
 v4 := Tryz.zeroValue4
 t9 := Tryz.underlying9
 a9 := Tryz.isAgg9
 z9 := Tryz.sizeOf9
 v9 := Tryz.zeroValue9
 t24 := Tryz.underlying69
 a24 := Tryz.isAgg69
 z24 := Tryz.sizeOf69
 v24 := Tryz.zeroValue69 }
open Go.RowKit in
theorem Tryz.strings_CutPrefix (s p : ByteArray) (w : World) :
  Calls Tryz.prog 27 #[.string s, .string p] w fun e w' => e = .returned (.tuple #[.string ⟨(Lib.trimPrefix s.data.toList p.data.toList).toArray⟩, .bool (Lib.hasPrefix s.data.toList p.data.toList)]) ∧ w' = w := Any.strings_CutPrefix Tryz.lays103 s p w
def Tryz.laysM171_ren : Go.Shelf.Ren := ⟨fun | 171 => 38 | 243 => 70 | 246 => 81 | 283 => 102 | 284 => 103 | 285 => 104 | 286 => 105 | 129 => 124 | 317 => 123 | 318 => 125 | 319 => 126 | 320 => 127 | 337 => 138 | 338 => 139 | n => n, fun | 3 => 3 | 9 => 9 | 2 => 2 | 4 => 4 | 171 => 149 | 0 => 0 | 53 => 120 | 37 => 55 | 5 => 5 | 173 => 152 | 212 => 172 | 51 => 39 | 20 => 20 | 213 => 173 | 46 => 94 | 232 => 207 | 233 => 208 | n => n, fun | 17 => 5 | 18 => 9 | 19 => 10 | n => n⟩
theorem Tryz.laysM171 : Go.Proofs.LaysM.n171 Tryz.prog Tryz.laysM171_ren := {
 mixed := by kernel_rfl
 f129 := Tryz.func124.trans (congrArg some (by kernel_rfl))
 f171 := Tryz.func38.trans (congrArg some (by kernel_rfl))
 f243 := Tryz.func70.trans (congrArg some (by kernel_rfl))
 f246 := Tryz.func81.trans (congrArg some (by kernel_rfl))
 f283 := Tryz.func102.trans (congrArg some (by kernel_rfl))
 f284 := Tryz.func103.trans (congrArg some (by kernel_rfl))
 f285 := Tryz.func104.trans (congrArg some (by kernel_rfl))
 f286 := Tryz.func105.trans (congrArg some (by kernel_rfl))
 f317 := Tryz.func123.trans (congrArg some (by kernel_rfl))
 f318 := Tryz.func125.trans (congrArg some (by kernel_rfl))
 f319 := Tryz.func126.trans (congrArg some (by kernel_rfl))
 f320 := Tryz.func127.trans (congrArg some (by kernel_rfl))
 f337 := Tryz.func138.trans (congrArg some (by kernel_rfl))
 f338 := Tryz.func139.trans (congrArg some (by kernel_rfl))
 t0 := Tryz.underlying0
 a0 := Tryz.isAgg0
 z0 := Tryz.sizeOf0
 v0 := Tryz.zeroValue0
 t2 := Tryz.underlying2
 a2 := Tryz.isAgg2
 z2 := Tryz.sizeOf2
 v2 := Tryz.zeroValue2
 t3 := Tryz.underlying3
 a3 := Tryz.isAgg3
 z3 := Tryz.sizeOf3
 v3 := Tryz.zeroValue3
 t4 := Tryz.underlying4
 a4 := Tryz.isAgg4
 z4 := Tryz.sizeOf4
 v4 := Tryz.zeroValue4
 t5 := Tryz.underlying5
 a5 := Tryz.isAgg5
 z5 := Tryz.sizeOf5
 v5 := Tryz.zeroValue5
 t9 := Tryz.underlying9
 a9 := Tryz.isAgg9
 z9 := Tryz.sizeOf9
 v9 := Tryz.zeroValue9
 t20 := Tryz.underlying20
 a20 := Tryz.isAgg20
 z20 := Tryz.sizeOf20
 v20 := Tryz.zeroValue20
 t37 := Tryz.underlying55
 a37 := Tryz.isAgg55
 z37 := Tryz.sizeOf55
 v37 := Tryz.zeroValue55
 t46 := Tryz.underlying94
 a46 := Tryz.isAgg94
 z46 := Tryz.sizeOf94
 v46 := Tryz.zeroValue94
 t51 := Tryz.underlying39
 a51 := Tryz.isAgg39
 z51 := Tryz.sizeOf39
 v51 := Tryz.zeroValue39
 t53 := Tryz.underlying120
 a53 := Tryz.isAgg120
 z53 := Tryz.sizeOf120
 v53 := Tryz.zeroValue120
 t171 := Tryz.underlying149
 a171 := Tryz.isAgg149
 z171 := Tryz.sizeOf149
 v171 := Tryz.zeroValue149
 t173 := Tryz.underlying152
 a173 := Tryz.isAgg152
 z173 := Tryz.sizeOf152
 v173 := Tryz.zeroValue152
 t212 := Tryz.underlying172
 a212 := Tryz.isAgg172
 z212 := Tryz.sizeOf172
 v212 := Tryz.zeroValue172
 t213 := Tryz.underlying173
 a213 := Tryz.isAgg173
 z213 := Tryz.sizeOf173
 t232 := Tryz.underlying207
 a232 := Tryz.isAgg207
 z232 := Tryz.sizeOf207
 v232 := Tryz.zeroValue207
 t233 := Tryz.underlying208
 a233 := Tryz.isAgg208
 z233 := Tryz.sizeOf208
 v233 := Tryz.zeroValue208
 g17 := by kernel_rfl
 g18 := by kernel_rfl
 g19 := by kernel_rfl
 i0 := by kernel_rfl
 i2 := by kernel_rfl
 i3 := by kernel_rfl
 i4 := by kernel_rfl
 i5 := by kernel_rfl
 i9 := by kernel_rfl
 i20 := by kernel_rfl
 i37 := by kernel_rfl
 i46 := by kernel_rfl
 i51 := by kernel_rfl
 i53 := by kernel_rfl
 i171 := by kernel_rfl
 i173 := by kernel_rfl
 i212 := by kernel_rfl
 i232 := by kernel_rfl
 i233 := by kernel_rfl
 m17 := by kernel_rfl
 m18 := by kernel_rfl
 m19 := by kernel_rfl }
open Go.RowKit Go.Sort Go.Lib in
theorem Tryz.strconv_Itoa (n : Int) (h0 : -9223372036854775808 ≤ n) (h1 : n ≤ 9223372036854775807) (w : World) (htab : Lib.TabIs Tryz.prog w "internal/strconv.uint64pow10" .u64 Lib.pow10Tab) :
  Calls Tryz.prog 38 #[.int .i64 n] w fun e w' => e = .returned (.string ⟨(Lib.itoa n).toArray⟩) ∧ ∃ k os, w' = grow (w.drewN k) os := Any.strconv_Itoa Tryz.laysM171 n h0 h1 w htab
def Tryz.laysM173_ren : Go.Shelf.Ren := ⟨fun | 173 => 59 | 246 => 81 | 283 => 102 | 284 => 103 | 285 => 104 | 286 => 105 | 129 => 124 | 317 => 123 | 318 => 125 | 319 => 126 | 320 => 127 | 337 => 138 | 338 => 139 | n => n, fun | 2 => 2 | 3 => 3 | 9 => 9 | 4 => 4 | 171 => 149 | 0 => 0 | 53 => 120 | 37 => 55 | 5 => 5 | 173 => 152 | 212 => 172 | 51 => 39 | 20 => 20 | 213 => 173 | 46 => 94 | 232 => 207 | 233 => 208 | n => n, fun | 17 => 5 | 18 => 9 | 19 => 10 | n => n⟩
theorem Tryz.laysM173 : Go.Proofs.LaysM.n173 Tryz.prog Tryz.laysM173_ren := {
 mixed := by kernel_rfl
 f129 := Tryz.func124.trans (congrArg some (by kernel_rfl))
 f173 := Tryz.func59.trans (congrArg some (by kernel_rfl))
 f246 := Tryz.func81.trans (congrArg some (by kernel_rfl))
 f283 := Tryz.func102.trans (congrArg some (by kernel_rfl))
 f284 := Tryz.func103.trans (congrArg some (by kernel_rfl))
 f285 := Tryz.func104.trans (congrArg some (by kernel_rfl))
 f286 := Tryz.func105.trans (congrArg some (by kernel_rfl))
 f317 := Tryz.func123.trans (congrArg some (by kernel_rfl))
 f318 := Tryz.func125.trans (congrArg some (by kernel_rfl))
 f319 := Tryz.func126.trans (congrArg some (by kernel_rfl))
 f320 := Tryz.func127.trans (congrArg some (by kernel_rfl))
 f337 := Tryz.func138.trans (congrArg some (by kernel_rfl))
 f338 := Tryz.func139.trans (congrArg some (by kernel_rfl))
 t0 := Tryz.underlying0
 a0 := Tryz.isAgg0
 z0 := Tryz.sizeOf0
 v0 := Tryz.zeroValue0
 t2 := Tryz.underlying2
 a2 := Tryz.isAgg2
 z2 := Tryz.sizeOf2
 v2 := Tryz.zeroValue2
 t3 := Tryz.underlying3
 a3 := Tryz.isAgg3
 z3 := Tryz.sizeOf3
 v3 := Tryz.zeroValue3
 t4 := Tryz.underlying4
 a4 := Tryz.isAgg4
 z4 := Tryz.sizeOf4
 v4 := Tryz.zeroValue4
 t5 := Tryz.underlying5
 a5 := Tryz.isAgg5
 z5 := Tryz.sizeOf5
 v5 := Tryz.zeroValue5
 t9 := Tryz.underlying9
 a9 := Tryz.isAgg9
 z9 := Tryz.sizeOf9
 v9 := Tryz.zeroValue9
 t20 := Tryz.underlying20
 a20 := Tryz.isAgg20
 z20 := Tryz.sizeOf20
 v20 := Tryz.zeroValue20
 t37 := Tryz.underlying55
 a37 := Tryz.isAgg55
 z37 := Tryz.sizeOf55
 v37 := Tryz.zeroValue55
 t46 := Tryz.underlying94
 a46 := Tryz.isAgg94
 z46 := Tryz.sizeOf94
 v46 := Tryz.zeroValue94
 t51 := Tryz.underlying39
 a51 := Tryz.isAgg39
 z51 := Tryz.sizeOf39
 v51 := Tryz.zeroValue39
 t53 := Tryz.underlying120
 a53 := Tryz.isAgg120
 z53 := Tryz.sizeOf120
 v53 := Tryz.zeroValue120
 t171 := Tryz.underlying149
 a171 := Tryz.isAgg149
 z171 := Tryz.sizeOf149
 v171 := Tryz.zeroValue149
 t173 := Tryz.underlying152
 a173 := Tryz.isAgg152
 z173 := Tryz.sizeOf152
 v173 := Tryz.zeroValue152
 t212 := Tryz.underlying172
 a212 := Tryz.isAgg172
 z212 := Tryz.sizeOf172
 v212 := Tryz.zeroValue172
 t213 := Tryz.underlying173
 a213 := Tryz.isAgg173
 z213 := Tryz.sizeOf173
 t232 := Tryz.underlying207
 a232 := Tryz.isAgg207
 z232 := Tryz.sizeOf207
 v232 := Tryz.zeroValue207
 t233 := Tryz.underlying208
 a233 := Tryz.isAgg208
 z233 := Tryz.sizeOf208
 v233 := Tryz.zeroValue208
 g17 := by kernel_rfl
 g18 := by kernel_rfl
 g19 := by kernel_rfl
 i0 := by kernel_rfl
 i2 := by kernel_rfl
 i3 := by kernel_rfl
 i4 := by kernel_rfl
 i5 := by kernel_rfl
 i9 := by kernel_rfl
 i20 := by kernel_rfl
 i37 := by kernel_rfl
 i46 := by kernel_rfl
 i51 := by kernel_rfl
 i53 := by kernel_rfl
 i171 := by kernel_rfl
 i173 := by kernel_rfl
 i212 := by kernel_rfl
 i232 := by kernel_rfl
 i233 := by kernel_rfl
 m17 := by kernel_rfl
 m18 := by kernel_rfl
 m19 := by kernel_rfl }
open Go.RowKit Go.Sort Go.Lib in
theorem Tryz.strconv_FormatInt_10 (n : Int) (h0 : -9223372036854775808 ≤ n) (h1 : n ≤ 9223372036854775807) (w : World) (htab : Lib.TabIs Tryz.prog w "internal/strconv.uint64pow10" .u64 Lib.pow10Tab) :
  Calls Tryz.prog 59 #[.int .i64 n, .int .i64 10] w fun e w' => e = .returned (.string ⟨(Lib.itoa n).toArray⟩) ∧ ∃ k os, w' = grow (w.drewN k) os := Any.strconv_FormatInt_10 Tryz.laysM173 n h0 h1 w htab
def Tryz.laysC174_ren : Go.Shelf.Ren := ⟨fun | 174 => 57 | 247 => 79 | 245 => 80 | 287 => 97 | 279 => 98 | 280 => 99 | 281 => 100 | 282 => 101 | 321 => 119 | 322 => 120 | 316 => 121 | 171 => 38 | 205 => 122 | 243 => 70 | 246 => 81 | 283 => 102 | 284 => 103 | 285 => 104 | 286 => 105 | 129 => 124 | 317 => 123 | 318 => 125 | 319 => 126 | 320 => 127 | 337 => 138 | 338 => 139 | n => n, fun | 9 => 9 | 3 => 3 | 2 => 2 | 75 => 87 | 85 => 108 | 4 => 4 | 167 => 145 | 5 => 5 | 53 => 120 | 175 => 130 | 46 => 94 | 168 => 146 | 37 => 55 | 0 => 0 | 210 => 169 | 21 => 21 | 127 => 121 | 145 => 196 | 143 => 194 | 171 => 149 | 173 => 152 | 212 => 172 | 51 => 39 | 20 => 20 | 213 => 173 | 232 => 207 | 233 => 208 | 80 => 92 | n => n, fun | 15 => 3 | 16 => 4 | 17 => 5 | 18 => 9 | 19 => 10 | n => n⟩
theorem Tryz.laysC174 : Go.Proofs.LaysC.n174 Tryz.prog Tryz.laysC174_ren := {
 mixed := by kernel_rfl
 f129 := Tryz.func124.trans (congrArg some (by kernel_rfl))
 f171 := Tryz.func38.trans (congrArg some (by kernel_rfl))
 f174 := Tryz.func57.trans (congrArg some (by kernel_rfl))
 f205 := Tryz.func122.trans (congrArg some (by kernel_rfl))
 f243 := Tryz.func70.trans (congrArg some (by kernel_rfl))
 f245 := Tryz.func80.trans (congrArg some (by kernel_rfl))
 f246 := Tryz.func81.trans (congrArg some (by kernel_rfl))
 f247 := Tryz.func79.trans (congrArg some (by kernel_rfl))
 f279 := Tryz.func98.trans (congrArg some (by kernel_rfl))
 f280 := Tryz.func99.trans (congrArg some (by kernel_rfl))
 f281 := Tryz.func100.trans (congrArg some (by kernel_rfl))
 f282 := Tryz.func101.trans (congrArg some (by kernel_rfl))
 f283 := Tryz.func102.trans (congrArg some (by kernel_rfl))
 f284 := Tryz.func103.trans (congrArg some (by kernel_rfl))
 f285 := Tryz.func104.trans (congrArg some (by kernel_rfl))
 f286 := Tryz.func105.trans (congrArg some (by kernel_rfl))
 f287 := Tryz.func97.trans (congrArg some (by kernel_rfl))
 f316 := Tryz.func121.trans (congrArg some (by kernel_rfl))
 f317 := Tryz.func123.trans (congrArg some (by kernel_rfl))
 f318 := Tryz.func125.trans (congrArg some (by kernel_rfl))
 f319 := Tryz.func126.trans (congrArg some (by kernel_rfl))
 f320 := Tryz.func127.trans (congrArg some (by kernel_rfl))
 f321 := Tryz.func119.trans (congrArg some (by kernel_rfl))
 f322 := Tryz.func120.trans (congrArg some (by kernel_rfl))
 f337 := Tryz.func138.trans (congrArg some (by kernel_rfl))
 f338 := Tryz.func139.trans (congrArg some (by kernel_rfl))
 t0 := Tryz.underlying0
 a0 := Tryz.isAgg0
 z0 := Tryz.sizeOf0
 v0 := Tryz.zeroValue0
 t2 := Tryz.underlying2
 a2 := Tryz.isAgg2
 z2 := Tryz.sizeOf2
 v2 := Tryz.zeroValue2
 t3 := Tryz.underlying3
 a3 := Tryz.isAgg3
 z3 := Tryz.sizeOf3
 v3 := Tryz.zeroValue3
 t4 := Tryz.underlying4
 a4 := Tryz.isAgg4
 z4 := Tryz.sizeOf4
 v4 := Tryz.zeroValue4
 t5 := Tryz.underlying5
 a5 := Tryz.isAgg5
 z5 := Tryz.sizeOf5
 v5 := Tryz.zeroValue5
 t9 := Tryz.underlying9
 a9 := Tryz.isAgg9
 z9 := Tryz.sizeOf9
 v9 := Tryz.zeroValue9
 t20 := Tryz.underlying20
 a20 := Tryz.isAgg20
 z20 := Tryz.sizeOf20
 v20 := Tryz.zeroValue20
 t21 := Tryz.underlying21
 a21 := Tryz.isAgg21
 z21 := Tryz.sizeOf21
 v21 := Tryz.zeroValue21
 t37 := Tryz.underlying55
 a37 := Tryz.isAgg55
 z37 := Tryz.sizeOf55
 v37 := Tryz.zeroValue55
 t46 := Tryz.underlying94
 a46 := Tryz.isAgg94
 z46 := Tryz.sizeOf94
 v46 := Tryz.zeroValue94
 t51 := Tryz.underlying39
 a51 := Tryz.isAgg39
 z51 := Tryz.sizeOf39
 v51 := Tryz.zeroValue39
 t53 := Tryz.underlying120
 a53 := Tryz.isAgg120
 z53 := Tryz.sizeOf120
 v53 := Tryz.zeroValue120
 t75 := Tryz.underlying87
 a75 := Tryz.isAgg87
 z75 := Tryz.sizeOf87
 v75 := Tryz.zeroValue87
 t85 := Tryz.underlying108
 a85 := Tryz.isAgg108
 z85 := Tryz.sizeOf108
 v85 := Tryz.zeroValue108
 t127 := Tryz.underlying121
 a127 := Tryz.isAgg121
 z127 := Tryz.sizeOf121
 v127 := Tryz.zeroValue121
 t143 := Tryz.underlying194
 a143 := Tryz.isAgg194
 z143 := Tryz.sizeOf194
 v143 := Tryz.zeroValue194
 t145 := Tryz.underlying196
 a145 := Tryz.isAgg196
 z145 := Tryz.sizeOf196
 v145 := Tryz.zeroValue196
 t167 := Tryz.underlying145
 a167 := Tryz.isAgg145
 z167 := Tryz.sizeOf145
 v167 := Tryz.zeroValue145
 t168 := Tryz.underlying146
 a168 := Tryz.isAgg146
 z168 := Tryz.sizeOf146
 v168 := Tryz.zeroValue146
 t171 := Tryz.underlying149
 a171 := Tryz.isAgg149
 z171 := Tryz.sizeOf149
 v171 := Tryz.zeroValue149
 t173 := Tryz.underlying152
 a173 := Tryz.isAgg152
 z173 := Tryz.sizeOf152
 v173 := Tryz.zeroValue152
 t175 := Tryz.underlying130
 a175 := Tryz.isAgg130
 z175 := Tryz.sizeOf130
 v175 := Tryz.zeroValue130
 t210 := Tryz.underlying169
 a210 := Tryz.isAgg169
 z210 := Tryz.sizeOf169
 v210 := Tryz.zeroValue169
 t212 := Tryz.underlying172
 a212 := Tryz.isAgg172
 z212 := Tryz.sizeOf172
 v212 := Tryz.zeroValue172
 t213 := Tryz.underlying173
 a213 := Tryz.isAgg173
 z213 := Tryz.sizeOf173
 t232 := Tryz.underlying207
 a232 := Tryz.isAgg207
 z232 := Tryz.sizeOf207
 v232 := Tryz.zeroValue207
 t233 := Tryz.underlying208
 a233 := Tryz.isAgg208
 z233 := Tryz.sizeOf208
 v233 := Tryz.zeroValue208
 g15 := by kernel_rfl
 g16 := by kernel_rfl
 g17 := by kernel_rfl
 g18 := by kernel_rfl
 g19 := by kernel_rfl
 t80 := Tryz.underlying92
 a80 := Tryz.isAgg92
 z80 := Tryz.sizeOf92
 v80 := Tryz.zeroValue92
 i0 := by kernel_rfl
 i2 := by kernel_rfl
 i3 := by kernel_rfl
 i4 := by kernel_rfl
 i5 := by kernel_rfl
 i9 := by kernel_rfl
 i20 := by kernel_rfl
 i21 := by kernel_rfl
 i37 := by kernel_rfl
 i46 := by kernel_rfl
 i51 := by kernel_rfl
 i53 := by kernel_rfl
 i75 := by kernel_rfl
 i80 := by kernel_rfl
 i85 := by kernel_rfl
 i127 := by kernel_rfl
 i143 := by kernel_rfl
 i145 := by kernel_rfl
 i167 := by kernel_rfl
 i168 := by kernel_rfl
 i171 := by kernel_rfl
 i173 := by kernel_rfl
 i175 := by kernel_rfl
 i210 := by kernel_rfl
 i212 := by kernel_rfl
 i232 := by kernel_rfl
 i233 := by kernel_rfl
 m15 := by kernel_rfl
 m16 := by kernel_rfl
 m17 := by kernel_rfl
 m18 := by kernel_rfl
 m19 := by kernel_rfl
 c0 := by kernel_rfl
 c2 := by kernel_rfl
 c3 := by kernel_rfl
 c4 := by kernel_rfl
 c5 := by kernel_rfl
 c9 := by kernel_rfl
 c20 := by kernel_rfl
 c21 := by kernel_rfl
 c37 := by kernel_rfl
 c46 := by kernel_rfl
 c51 := by kernel_rfl
 c53 := by kernel_rfl
 c75 := by kernel_rfl
 c80 := by kernel_rfl
 c85 := by kernel_rfl
 c127 := by kernel_rfl
 c143 := by kernel_rfl
 c145 := by kernel_rfl
 c167 := by kernel_rfl
 c168 := by kernel_rfl
 c171 := by kernel_rfl
 c173 := by kernel_rfl
 c175 := by kernel_rfl
 c210 := by kernel_rfl
 c212 := by kernel_rfl
 c213 := by kernel_rfl
 c232 := by kernel_rfl
 c233 := by kernel_rfl }
open Go.RowKit in
theorem Tryz.strconv_ParseInt_10_at64_ok (s : ByteArray) (hmax : s.size ≤ 9223372036854775806) (v : Int) (h : Lib.parseIntB 64 s.data.toList = .ok v) (w : World) :
  Calls Tryz.prog 57 #[.string s, .int .i64 10, .int .i64 64] w fun e w' => e = .returned (.tuple #[.int .i64 v, .nilIface]) ∧ (w' = w ∨ ∃ t, w' = Lib.bytesWorld w 5 t) := Any.strconv_ParseInt_10_at64_ok Tryz.laysC174 s hmax v h w
open Go.RowKit in
theorem Tryz.strconv_ParseInt_10_at64_syntax_var (s : ByteArray) (hlim : s.size ≤ 281474976710656) (h : Lib.parseIntB 64 s.data.toList = Lib.parseIntB 64 []) (tp : TypeId) (p : Value) (w : World) (hvar : w.var? Tryz.prog "strconv.ErrSyntax" = some #[.iface tp p]) :
  Calls Tryz.prog 57 #[.string s, .int .i64 10, .int .i64 64] w fun e w' => ∃ N, e = .returned (.tuple #[.int .i64 (0), .iface 146 (.pointer (some ⟨N, 0, none⟩))]) ∧ w.heap.size ≤ N ∧ w'.heap[N]? = some (.cells #[.string ⟨#[80, 97, 114, 115, 101, 73, 110, 116]⟩, .string s, .iface tp p] 169 (0, 0)) ∧ Below w.heap.size w w' := Any.strconv_ParseInt_10_at64_syntax_var Tryz.laysC174 s hlim (h.trans rfl) tp p w hvar
open Go.RowKit in
theorem Tryz.strconv_ParseInt_10_at64_range_var (s : ByteArray) (hlim : s.size ≤ 281474976710656) (h : Lib.parseIntB 64 s.data.toList = .range) (tp : TypeId) (p : Value) (w : World) (hvar : w.var? Tryz.prog "strconv.ErrRange" = some #[.iface tp p]) :
  Calls Tryz.prog 57 #[.string s, .int .i64 10, .int .i64 64] w fun e w' => ∃ N, e = .returned (.tuple #[.int .i64 (Lib.intSat 64 s.data.toList), .iface 146 (.pointer (some ⟨N, 0, none⟩))]) ∧ w.heap.size ≤ N ∧ w'.heap[N]? = some (.cells #[.string ⟨#[80, 97, 114, 115, 101, 73, 110, 116]⟩, .string s, .iface tp p] 169 (0, 0)) ∧ Below w.heap.size w w' := Any.strconv_ParseInt_10_at64_range_var Tryz.laysC174 s hlim h tp p w hvar
def Tryz.lays145_ren : Go.Shelf.Ren := ⟨fun | 145 => 50 | 220 => 75 | 219 => 91 | 217 => 111 | 225 => 112 | 224 => 113 | 267 => 114 | 266 => 133 | 314 => 134 | n => n, fun | 9 => 9 | 4 => 4 | 59 => 101 | 3 => 3 | 5 => 5 | 46 => 94 | 146 => 181 | 51 => 39 | n => n, fun | 1 => 1 | n => n⟩
theorem Tryz.lays145 : Go.Proofs.Lays.n145 Tryz.prog Tryz.lays145_ren := {
 mixed := by kernel_rfl
 f145 := Tryz.func50.trans (congrArg some (by kernel_rfl))
 f217 := Tryz.func111.trans (congrArg some (by kernel_rfl))
 f219 := Tryz.func91.trans (congrArg some (by kernel_rfl))
 f220 := Tryz.func75.trans (congrArg some (by kernel_rfl))
 f224 := Tryz.func113.trans (congrArg some (by kernel_rfl))
 f225 := Tryz.func112.trans (congrArg some (by kernel_rfl))
 f266 := Tryz.func133.trans (congrArg some (by kernel_rfl))
 f267 := Tryz.func114.trans (congrArg some (by kernel_rfl))
 f314 := Tryz.func134.trans (congrArg some (by kernel_rfl))
 t3 := Tryz.underlying3
 a3 := Tryz.isAgg3
 z3 := Tryz.sizeOf3
 v3 := Tryz.zeroValue3
 t4 := Tryz.underlying4
 a4 := Tryz.isAgg4
 z4 := Tryz.sizeOf4
 v4 := Tryz.zeroValue4
 t5 := Tryz.underlying5
 a5 := Tryz.isAgg5
 z5 := Tryz.sizeOf5
 v5 := Tryz.zeroValue5
 t9 := Tryz.underlying9
 a9 := Tryz.isAgg9
 z9 := Tryz.sizeOf9
 v9 := Tryz.zeroValue9
 t46 := Tryz.underlying94
 a46 := Tryz.isAgg94
 z46 := Tryz.sizeOf94
 v46 := Tryz.zeroValue94
 t51 := Tryz.underlying39
 a51 := Tryz.isAgg39
 z51 := Tryz.sizeOf39
 v51 := Tryz.zeroValue39
 t59 := Tryz.underlying101
 a59 := Tryz.isAgg101
 z59 := Tryz.sizeOf101
 v59 := Tryz.zeroValue101
 t146 := Tryz.underlying181
 a146 := Tryz.isAgg181
 z146 := Tryz.sizeOf181
 v146 := Tryz.zeroValue181
 g1 := by kernel_rfl }
open Go.RowKit Go.Lib in
theorem Tryz.strings_Cut (s sep : ByteArray) (m : Int) (w : World) (hs : s.size < 4294967281) (hm : w.cell? ⟨1, 0, none⟩ = some (.int .i64 m)) :
  Calls Tryz.prog 50 #[.string s, .string sep] w fun e w' => e = .returned (.tuple #[.string ⟨(Lib.cut s.data.toList sep.data.toList).1.toArray⟩, .string ⟨(Lib.cut s.data.toList sep.data.toList).2.1.toArray⟩, .bool (Lib.cut s.data.toList sep.data.toList).2.2]) ∧ ∃ n, w' = w.drewN n := Any.strings_Cut Tryz.lays145 s sep m w hs hm
def Tryz.lays146_ren : Go.Shelf.Ren := ⟨fun | 146 => 52 | 221 => 77 | 268 => 92 | 138 => 93 | 143 => 94 | 195 => 115 | 197 => 116 | 218 => 117 | 219 => 91 | 260 => 135 | 217 => 111 | 225 => 112 | 224 => 113 | 267 => 114 | 266 => 133 | 314 => 134 | n => n, fun | 9 => 9 | 31 => 103 | 3 => 3 | 4 => 4 | 0 => 0 | 105 => 161 | 21 => 21 | 5 => 5 | 46 => 94 | 119 => 142 | 139 => 204 | 138 => 203 | 146 => 181 | 51 => 39 | n => n, fun | 1 => 1 | 3 => 7 | 4 => 8 | n => n⟩
theorem Tryz.lays146 : Go.Proofs.Lays.n146 Tryz.prog Tryz.lays146_ren := {
 mixed := by kernel_rfl
 f138 := Tryz.func93.trans (congrArg some (by kernel_rfl))
 f143 := Tryz.func94.trans (congrArg some (by kernel_rfl))
 f146 := Tryz.func52.trans (congrArg some (by kernel_rfl))
 f195 := Tryz.func115.trans (congrArg some (by kernel_rfl))
 f197 := Tryz.func116.trans (congrArg some (by kernel_rfl))
 f217 := Tryz.func111.trans (congrArg some (by kernel_rfl))
 f218 := Tryz.func117.trans (congrArg some (by kernel_rfl))
 f219 := Tryz.func91.trans (congrArg some (by kernel_rfl))
 f221 := Tryz.func77.trans (congrArg some (by kernel_rfl))
 f224 := Tryz.func113.trans (congrArg some (by kernel_rfl))
 f225 := Tryz.func112.trans (congrArg some (by kernel_rfl))
 f260 := Tryz.func135.trans (congrArg some (by kernel_rfl))
 f266 := Tryz.func133.trans (congrArg some (by kernel_rfl))
 f267 := Tryz.func114.trans (congrArg some (by kernel_rfl))
 f268 := Tryz.func92.trans (congrArg some (by kernel_rfl))
 f314 := Tryz.func134.trans (congrArg some (by kernel_rfl))
 t0 := Tryz.underlying0
 a0 := Tryz.isAgg0
 z0 := Tryz.sizeOf0
 v0 := Tryz.zeroValue0
 t3 := Tryz.underlying3
 a3 := Tryz.isAgg3
 z3 := Tryz.sizeOf3
 v3 := Tryz.zeroValue3
 t4 := Tryz.underlying4
 a4 := Tryz.isAgg4
 z4 := Tryz.sizeOf4
 v4 := Tryz.zeroValue4
 t5 := Tryz.underlying5
 a5 := Tryz.isAgg5
 z5 := Tryz.sizeOf5
 v5 := Tryz.zeroValue5
 t9 := Tryz.underlying9
 a9 := Tryz.isAgg9
 z9 := Tryz.sizeOf9
 v9 := Tryz.zeroValue9
 t21 := Tryz.underlying21
 a21 := Tryz.isAgg21
 z21 := Tryz.sizeOf21
 v21 := Tryz.zeroValue21
 t31 := Tryz.underlying103
 a31 := Tryz.isAgg103
 z31 := Tryz.sizeOf103
 v31 := Tryz.zeroValue103
 t46 := Tryz.underlying94
 a46 := Tryz.isAgg94
 z46 := Tryz.sizeOf94
 v46 := Tryz.zeroValue94
 t51 := Tryz.underlying39
 a51 := Tryz.isAgg39
 z51 := Tryz.sizeOf39
 v51 := Tryz.zeroValue39
 t105 := Tryz.underlying161
 a105 := Tryz.isAgg161
 z105 := Tryz.sizeOf161
 v105 := Tryz.zeroValue161
 t119 := Tryz.underlying142
 a119 := Tryz.isAgg142
 z119 := Tryz.sizeOf142
 t138 := Tryz.underlying203
 a138 := Tryz.isAgg203
 z138 := Tryz.sizeOf203
 v138 := Tryz.zeroValue203
 t139 := Tryz.underlying204
 a139 := Tryz.isAgg204
 z139 := Tryz.sizeOf204
 v139 := Tryz.zeroValue204
 t146 := Tryz.underlying181
 a146 := Tryz.isAgg181
 z146 := Tryz.sizeOf181
 v146 := Tryz.zeroValue181
 g1 := by kernel_rfl
 g3 := by kernel_rfl
 g4 := by kernel_rfl }
open Go.RowKit Go.Lib in
theorem Tryz.strings_Split (s sep : ByteArray) (m : Int) (w : World) (hs : s.size < 4294967281) (hm : w.cell? ⟨1, 0, none⟩ = some (.int .i64 m)) (h1 : 1 ≤ sep.size) :
  Calls Tryz.prog 52 #[.string s, .string sep] w fun e w' =>
   e = .returned (.slice (some ⟨w.heap.size, 0, none⟩) (Lib.countB s sep + 1) (Lib.countB s sep + 1)) ∧ w' = w.alloc (.cells ((Lib.splitB sep 0 (Lib.countB s sep) s).map Value.string).toArray 9) := Any.strings_Split Tryz.lays146 (by kernel_rfl) s sep m w hs hm h1
def Tryz.laysM146_ren : Go.Shelf.Ren := ⟨fun | 146 => 52 | 221 => 77 | 268 => 92 | 138 => 93 | 143 => 94 | 195 => 115 | 197 => 116 | 218 => 117 | 219 => 91 | 260 => 135 | 217 => 111 | 225 => 112 | 224 => 113 | 267 => 114 | 266 => 133 | 314 => 134 | n => n, fun | 9 => 9 | 31 => 103 | 3 => 3 | 4 => 4 | 0 => 0 | 105 => 161 | 21 => 21 | 5 => 5 | 46 => 94 | 119 => 142 | 139 => 204 | 138 => 203 | 146 => 181 | 51 => 39 | n => n, fun | 1 => 1 | 3 => 7 | 4 => 8 | n => n⟩
theorem Tryz.laysM146 : Go.Proofs.LaysM.n146 Tryz.prog Tryz.laysM146_ren := {
 mixed := by kernel_rfl
 f138 := Tryz.func93.trans (congrArg some (by kernel_rfl))
 f143 := Tryz.func94.trans (congrArg some (by kernel_rfl))
 f146 := Tryz.func52.trans (congrArg some (by kernel_rfl))
 f195 := Tryz.func115.trans (congrArg some (by kernel_rfl))
 f197 := Tryz.func116.trans (congrArg some (by kernel_rfl))
 f217 := Tryz.func111.trans (congrArg some (by kernel_rfl))
 f218 := Tryz.func117.trans (congrArg some (by kernel_rfl))
 f219 := Tryz.func91.trans (congrArg some (by kernel_rfl))
 f221 := Tryz.func77.trans (congrArg some (by kernel_rfl))
 f224 := Tryz.func113.trans (congrArg some (by kernel_rfl))
 f225 := Tryz.func112.trans (congrArg some (by kernel_rfl))
 f260 := Tryz.func135.trans (congrArg some (by kernel_rfl))
 f266 := Tryz.func133.trans (congrArg some (by kernel_rfl))
 f267 := Tryz.func114.trans (congrArg some (by kernel_rfl))
 f268 := Tryz.func92.trans (congrArg some (by kernel_rfl))
 f314 := Tryz.func134.trans (congrArg some (by kernel_rfl))
 t0 := Tryz.underlying0
 a0 := Tryz.isAgg0
 z0 := Tryz.sizeOf0
 v0 := Tryz.zeroValue0
 t3 := Tryz.underlying3
 a3 := Tryz.isAgg3
 z3 := Tryz.sizeOf3
 v3 := Tryz.zeroValue3
 t4 := Tryz.underlying4
 a4 := Tryz.isAgg4
 z4 := Tryz.sizeOf4
 v4 := Tryz.zeroValue4
 t5 := Tryz.underlying5
 a5 := Tryz.isAgg5
 z5 := Tryz.sizeOf5
 v5 := Tryz.zeroValue5
 t9 := Tryz.underlying9
 a9 := Tryz.isAgg9
 z9 := Tryz.sizeOf9
 v9 := Tryz.zeroValue9
 t21 := Tryz.underlying21
 a21 := Tryz.isAgg21
 z21 := Tryz.sizeOf21
 v21 := Tryz.zeroValue21
 t31 := Tryz.underlying103
 a31 := Tryz.isAgg103
 z31 := Tryz.sizeOf103
 v31 := Tryz.zeroValue103
 t46 := Tryz.underlying94
 a46 := Tryz.isAgg94
 z46 := Tryz.sizeOf94
 v46 := Tryz.zeroValue94
 t51 := Tryz.underlying39
 a51 := Tryz.isAgg39
 z51 := Tryz.sizeOf39
 v51 := Tryz.zeroValue39
 t105 := Tryz.underlying161
 a105 := Tryz.isAgg161
 z105 := Tryz.sizeOf161
 v105 := Tryz.zeroValue161
 t119 := Tryz.underlying142
 a119 := Tryz.isAgg142
 z119 := Tryz.sizeOf142
 t138 := Tryz.underlying203
 a138 := Tryz.isAgg203
 z138 := Tryz.sizeOf203
 v138 := Tryz.zeroValue203
 t139 := Tryz.underlying204
 a139 := Tryz.isAgg204
 z139 := Tryz.sizeOf204
 v139 := Tryz.zeroValue204
 t146 := Tryz.underlying181
 a146 := Tryz.isAgg181
 z146 := Tryz.sizeOf181
 v146 := Tryz.zeroValue181
 g1 := by kernel_rfl
 g3 := by kernel_rfl
 g4 := by kernel_rfl
 i0 := by kernel_rfl
 i3 := by kernel_rfl
 i4 := by kernel_rfl
 i5 := by kernel_rfl
 i9 := by kernel_rfl
 i21 := by kernel_rfl
 i31 := by kernel_rfl
 i46 := by kernel_rfl
 i51 := by kernel_rfl
 i105 := by kernel_rfl
 i138 := by kernel_rfl
 i139 := by kernel_rfl
 i146 := by kernel_rfl
 m1 := by kernel_rfl
 s1_3 := fun w h => Go.Proofs.cell_of_shapedOpen_int (zero := #[.int .i64 0]) (t := 3) h (of_decide_eq_true (by kernel_rfl)) (by kernel_rfl) rfl (by kernel_rfl) (by kernel_rfl) Tryz.underlying3
 m3 := by kernel_rfl
 m4 := by kernel_rfl }
def Tryz.laysM157_ren : Go.Shelf.Ren := ⟨fun | 157 => 78 | 229 => 95 | 199 => 96 | 261 => 118 | 311 => 136 | 312 => 137 | n => n, fun | 9 => 9 | 31 => 103 | 3 => 3 | 5 => 5 | 4 => 4 | 119 => 142 | 0 => 0 | 40 => 144 | 152 => 163 | 21 => 21 | 154 => 165 | 51 => 39 | 141 => 167 | 196 => 186 | 193 => 183 | 198 => 189 | 49 => 187 | 194 => 184 | 201 => 192 | 226 => 205 | 46 => 94 | 227 => 206 | n => n, fun | 0 => 0 | 6 => 2 | n => n⟩
theorem Tryz.laysM157 : Go.Proofs.LaysM.n157 Tryz.prog Tryz.laysM157_ren := {
 mixed := by kernel_rfl
 f157 := Tryz.func78.trans (congrArg some (by kernel_rfl))
 f199 := Tryz.func96.trans (congrArg some (by kernel_rfl))
 f229 := Tryz.func95.trans (congrArg some (by kernel_rfl))
 f261 := Tryz.func118.trans (congrArg some (by kernel_rfl))
 f311 := Tryz.func136.trans (congrArg some (by kernel_rfl))
 f312 := Tryz.func137.trans (congrArg some (by kernel_rfl))
 t0 := Tryz.underlying0
 a0 := Tryz.isAgg0
 z0 := Tryz.sizeOf0
 v0 := Tryz.zeroValue0
 t3 := Tryz.underlying3
 a3 := Tryz.isAgg3
 z3 := Tryz.sizeOf3
 v3 := Tryz.zeroValue3
 t4 := Tryz.underlying4
 a4 := Tryz.isAgg4
 z4 := Tryz.sizeOf4
 v4 := Tryz.zeroValue4
 t5 := Tryz.underlying5
 a5 := Tryz.isAgg5
 z5 := Tryz.sizeOf5
 v5 := Tryz.zeroValue5
 t9 := Tryz.underlying9
 a9 := Tryz.isAgg9
 z9 := Tryz.sizeOf9
 v9 := Tryz.zeroValue9
 t21 := Tryz.underlying21
 a21 := Tryz.isAgg21
 z21 := Tryz.sizeOf21
 v21 := Tryz.zeroValue21
 t31 := Tryz.underlying103
 a31 := Tryz.isAgg103
 z31 := Tryz.sizeOf103
 v31 := Tryz.zeroValue103
 t40 := Tryz.underlying144
 a40 := Tryz.isAgg144
 z40 := Tryz.sizeOf144
 v40 := Tryz.zeroValue144
 t46 := Tryz.underlying94
 a46 := Tryz.isAgg94
 z46 := Tryz.sizeOf94
 v46 := Tryz.zeroValue94
 t49 := Tryz.underlying187
 a49 := Tryz.isAgg187
 z49 := Tryz.sizeOf187
 v49 := Tryz.zeroValue187
 t51 := Tryz.underlying39
 a51 := Tryz.isAgg39
 z51 := Tryz.sizeOf39
 v51 := Tryz.zeroValue39
 t119 := Tryz.underlying142
 a119 := Tryz.isAgg142
 z119 := Tryz.sizeOf142
 t141 := Tryz.underlying167
 a141 := Tryz.isAgg167
 z141 := Tryz.sizeOf167
 v141 := Tryz.zeroValue167
 t152 := Tryz.underlying163
 a152 := Tryz.isAgg163
 z152 := Tryz.sizeOf163
 v152 := Tryz.zeroValue163
 t154 := Tryz.underlying165
 a154 := Tryz.isAgg165
 z154 := Tryz.sizeOf165
 v154 := Tryz.zeroValue165
 t193 := Tryz.underlying183
 a193 := Tryz.isAgg183
 z193 := Tryz.sizeOf183
 v193 := Tryz.zeroValue183
 t194 := Tryz.underlying184
 a194 := Tryz.isAgg184
 z194 := Tryz.sizeOf184
 v194 := Tryz.zeroValue184
 t196 := Tryz.underlying186
 a196 := Tryz.isAgg186
 z196 := Tryz.sizeOf186
 v196 := Tryz.zeroValue186
 t198 := Tryz.underlying189
 a198 := Tryz.isAgg189
 z198 := Tryz.sizeOf189
 v198 := Tryz.zeroValue189
 t201 := Tryz.underlying192
 a201 := Tryz.isAgg192
 z201 := Tryz.sizeOf192
 v201 := Tryz.zeroValue192
 t226 := Tryz.underlying205
 a226 := Tryz.isAgg205
 z226 := Tryz.sizeOf205
 v226 := Tryz.zeroValue205
 t227 := Tryz.underlying206
 a227 := Tryz.isAgg206
 z227 := Tryz.sizeOf206
 v227 := Tryz.zeroValue206
 g0 := by kernel_rfl
 g6 := by kernel_rfl
 i0 := by kernel_rfl
 i3 := by kernel_rfl
 i4 := by kernel_rfl
 i5 := by kernel_rfl
 i9 := by kernel_rfl
 i21 := by kernel_rfl
 i31 := by kernel_rfl
 i40 := by kernel_rfl
 i46 := by kernel_rfl
 i49 := by kernel_rfl
 i51 := by kernel_rfl
 i141 := by kernel_rfl
 i152 := by kernel_rfl
 i154 := by kernel_rfl
 i193 := by kernel_rfl
 i194 := by kernel_rfl
 i196 := by kernel_rfl
 i198 := by kernel_rfl
 i201 := by kernel_rfl
 i226 := by kernel_rfl
 i227 := by kernel_rfl
 m0 := by kernel_rfl
 m6 := by kernel_rfl }
open Go.RowKit Go.Lib in
theorem Tryz.strings_Fields_laid (s : ByteArray) (w : World) (hs : s.size < 4294967281) (hascii : ∀ (j : Nat) b, s.data.toList[j]? = some b → b.toNat < 128) (htab : Lib.TabIs Tryz.prog w "strings.asciiSpace" .u8 Lib.asciiSpaceTab) :
  Calls Tryz.prog 78 #[.string s] w fun e w' =>
   e = .returned (.slice (some ⟨w.heap.size, 0, none⟩) (Lib.fields s.data.toList).length (Lib.fields s.data.toList).length) ∧ w' = w.alloc (.cells ((Lib.fields s.data.toList).map fun l => Value.string ⟨l.toArray⟩).toArray 9) := Any.strings_Fields_laid Tryz.laysM157 s w hs hascii htab
def Tryz.lays109_ren : Go.Shelf.Ren := ⟨fun | 109 => 54 | n => n, fun | 31 => 103 | 9 => 9 | 3 => 3 | 0 => 0 | 4 => 4 | n => n, fun | n => n⟩
theorem Tryz.lays109 : Go.Proofs.Lays.n109 Tryz.prog Tryz.lays109_ren := {
 mixed := by kernel_rfl
 f109 := Tryz.func54.trans (congrArg some (by kernel_rfl))
 t0 := Tryz.underlying0
 a0 := Tryz.isAgg0
 z0 := Tryz.sizeOf0
 v0 := Tryz.zeroValue0
 t3 := Tryz.underlying3
 a3 := Tryz.isAgg3
 z3 := Tryz.sizeOf3
 v3 := Tryz.zeroValue3
 t4 := Tryz.underlying4
 a4 := Tryz.isAgg4
 z4 := Tryz.sizeOf4
 v4 := Tryz.zeroValue4
 t9 := Tryz.underlying9
 a9 := Tryz.isAgg9
 z9 := Tryz.sizeOf9
 v9 := Tryz.zeroValue9
 t31 := Tryz.underlying103
 a31 := Tryz.isAgg103
 z31 := Tryz.sizeOf103
 v31 := Tryz.zeroValue103 }
open Go.Lib in
theorem Tryz.slices_Index_string (b off n c : Nat) (zs : List ByteArray) (x : ByteArray) (w : World) (hz : n ≤ zs.length) (hbig : n ≤ 9223372036854775807) (hc : ∀ j, j < zs.length → w.cell? ⟨b, off + j, none⟩ = some (.string (zs.getD j ByteArray.empty))) :
  Calls Tryz.prog 54 #[.slice (some ⟨b, off, none⟩) n c, .string x] w fun e w' => e = .returned (.int .i64 (Lib.idxOfS (zs.take n) x)) ∧ w' = w := Any.slices_Index_string Tryz.lays109 b off n c zs x w hz hbig hc
end Go.Proofs
end
section
/- The world of the witness, in which the listed variables hold what their initialisers lay; and what the list gives of a world. -/
namespace Go.Proofs.YthfpekhpeiebjaaGreatDoor
open Go.ChangeShapes Go.WideShapes Go.ChangeAt Go.RowKit
theorem own : ownKnob Tryz.prog.godebug = none := by kernel_rfl
theorem gTab : Tryz.prog.globalNamed "strings.asciiSpace" = some 0 := by kernel_rfl
theorem gTabType : (Tryz.prog.globals[0]?).map (·.type) = some 142 := by kernel_rfl
theorem cellsTab : Tryz.prog.cellsOf 142 = 256 := by kernel_rfl
theorem cells5 : Tryz.prog.cellsOf 5 = 1 := by kernel_rfl
theorem gPow : Tryz.prog.globalNamed "internal/strconv.uint64pow10" = some 5 := by kernel_rfl
theorem gPowType : (Tryz.prog.globals[5]?).map (·.type) = some 172 := by kernel_rfl
theorem cellsPow : Tryz.prog.cellsOf 172 = 20 := by kernel_rfl
theorem cells120 : Tryz.prog.cellsOf 120 = 1 := by kernel_rfl
theorem gSyn : Tryz.prog.globalNamed "strconv.ErrSyntax" = some 3 := by kernel_rfl
theorem gSynType : (Tryz.prog.globals[3]?).map (·.type) = some 87 := by kernel_rfl
theorem gRng : Tryz.prog.globalNamed "strconv.ErrRange" = some 4 := by kernel_rfl
theorem gRngType : (Tryz.prog.globals[4]?).map (·.type) = some 87 := by kernel_rfl
noncomputable def laidWorld (os : Os) : World := World.laidAll Tryz.prog os Rows.scriptBackRow.laid
section
variable {H : Type} {enc : TypeId × Value → H} {P : Program}
theorem post_of_below {f : Func} {s : ChangeSpec} {apart fresh handsOn again : Bool} {W W' : World} {args : Array Value} {v : Value} {ds gs : List (DataW H)} {before pa pv : List MemPlace}
  (hW : DataW.Whole enc P f.params.toList s.vars apart W args.toList ds gs before)
  (hres : ∀ (b : Nat) (sp : Nat → Bool) (hd : Bool), DataW.TrodAll enc P W' b sp hd f.resultTypes.toList (v.resultList f.resultTypes.size) (s.fn H (ds ++ gs)).results [])
  (hargs : ∀ sp : Nat → Bool, (∀ p ∈ before, sp p.block = true) → DataW.TrodAll enc P W' 0 sp true f.params.toList args.toList (s.fn H (ds ++ gs)).args pa)
  (hvars : ∀ sp : Nat → Bool, (∀ p ∈ before, sp p.block = true) → DataW.TrodVars enc P W' sp s.vars (s.fn H (ds ++ gs)).vars pv)
  (hps : before = pa ++ pv) (hb : Below W.heap.size W W')
  (hok : ∀ (j : Nat) (t : TypeId) (r : Value), f.resultTypes[j]? = some t → (v.resultList f.resultTypes.size)[j]? = some r → Value.okWide P W' .any 0 t r) :
  s.post enc P f apart fresh handsOn again W args v W' := by
 have hlt : ∀ p ∈ before, p.block < W.heap.size := fun p hp => hW.lt p hp
 have hold : ∀ p ∈ before, (fun b => decide (b < W.heap.size)) p.block = true := fun p hp => by simpa using hlt p hp
 refine ⟨ds, gs, before, [], pa, pv, hW, hres _ _ _, hargs _ hold, hvars _ hold, World.keptBut_mono (fun p hp => ⟨hp, ?_⟩) (hb.frame (· ∈ before)), fun _ => ?_⟩
 ·rw [hps, List.mem_append] at hp
  exact Or.inr hp
 ·obtain ⟨_, _, _, _, _, hz, hn⟩ := hW
  refine ⟨hok, _, _, ([] ++ pa) ++ pv, ⟨[] ++ pa, pv, trodAll_append (hargs _ (fun _ _ => rfl)) (hres _ _ _), hvars _ (fun _ _ => rfl), rfl, ?_, ?_⟩, ?_⟩
  ·intro b off hp
   have hin : MemPlace.cell b off ∈ before := by rw [hps]; simpa using hp
   rw [hb.frozen (hlt _ hin)]
   exact hz b off hin
  ·intro ha
   have := hn ha
   rw [hps] at this
   simpa using this
  ·intro p hp _
   rw [hps]
   simpa using hp
end
theorem table_of {W : World} {l : List (String × DataW Unit)} (h : laidMet Tryz.prog l W) (hm : (("strings.asciiSpace", Rows.laid_strings_asciiSpace) : String × DataW Unit) ∈ l) : Lib.TabIs Tryz.prog W "strings.asciiSpace" .u8 Lib.asciiSpaceTab := by
 rw [show (Rows.laid_strings_asciiSpace : DataW Unit) = Lib.tabData .u8 Lib.asciiSpaceTab by kernel_rfl] at hm
 obtain ⟨g', t', cs, fuel, p, hg', ht', hvar, hd⟩ := Lib.laidMet.reads h hm
 obtain rfl := Option.some.inj (gTab.symm.trans hg')
 obtain rfl := Option.some.inj (gTabType.symm.trans ht')
 unfold Lib.TabIs
 rw [hvar, ← Lib.cells_of_tab Tryz.underlying142 Tryz.underlying5 cells5 cellsTab hd]
theorem pow_of {W : World} {l : List (String × DataW Unit)} (h : laidMet Tryz.prog l W) (hm : (("internal/strconv.uint64pow10", Rows.laid_internal_strconv_uint64pow10) : String × DataW Unit) ∈ l) : Lib.TabIs Tryz.prog W "internal/strconv.uint64pow10" .u64 Lib.pow10Tab := by
 rw [show (Rows.laid_internal_strconv_uint64pow10 : DataW Unit) = Lib.tabData .u64 Lib.pow10Tab by kernel_rfl] at hm
 obtain ⟨g', t', cs, fuel, p, hg', ht', hvar, hd⟩ := Lib.laidMet.reads h hm
 obtain rfl := Option.some.inj (gPow.symm.trans hg')
 obtain rfl := Option.some.inj (gPowType.symm.trans ht')
 unfold Lib.TabIs
 rw [hvar, ← Lib.cells_of_tab Tryz.underlying172 Tryz.underlying120 cells120 cellsPow hd]
theorem syn_of {W : World} {l : List (String × DataW Unit)} (h : laidMet Tryz.prog l W) (hm : (("strconv.ErrSyntax", Rows.laid_strconv_ErrSyntax) : String × DataW Unit) ∈ l) : ∃ tp q, W.var? Tryz.prog "strconv.ErrSyntax" = some #[.iface tp q] := by
 obtain ⟨g', t', cs, fuel, p, hg', ht', hvar, hd⟩ := Lib.laidMet.reads h hm
 obtain rfl := Option.some.inj (gSyn.symm.trans hg')
 obtain rfl := Option.some.inj (gSynType.symm.trans ht')
 obtain ⟨_, u, v, hc, _, _⟩ := iface_of_trod Tryz.underlying87 hd
 exact ⟨u, v, hvar.trans (congrArg some (Array.toList_inj.1 hc))⟩
theorem rng_of {W : World} {l : List (String × DataW Unit)} (h : laidMet Tryz.prog l W) (hm : (("strconv.ErrRange", Rows.laid_strconv_ErrRange) : String × DataW Unit) ∈ l) : ∃ tp q, W.var? Tryz.prog "strconv.ErrRange" = some #[.iface tp q] := by
 obtain ⟨g', t', cs, fuel, p, hg', ht', hvar, hd⟩ := Lib.laidMet.reads h hm
 obtain rfl := Option.some.inj (gRng.symm.trans hg')
 obtain rfl := Option.some.inj (gRngType.symm.trans ht')
 obtain ⟨_, u, v, hc, _, _⟩ := iface_of_trod Tryz.underlying87 hd
 exact ⟨u, v, hvar.trans (congrArg some (Array.toList_inj.1 hc))⟩
theorem max_of {W : World} (h : W.ShapedOpen Tryz.prog) : ∃ m, W.cell? ⟨1, 0, none⟩ = some (.int .i64 m) := Tryz.laysM146.s1_3 W h
theorem laid_met (os : Os) (args : Array Value) : laidMet Tryz.prog Rows.scriptBackRow.laid ((laidWorld os).forCall (fun _ _ => 0) ⟨#[], args, []⟩).memory :=
 laidMet_laidAll args (by kernel_rfl) (by kernel_rfl)
end Go.Proofs.YthfpekhpeiebjaaGreatDoor
end
section
/- Numbers and quoted keys in plain Lean: what both readings take. -/
namespace Go.Proofs.YthfpekhpeiebjaaGreatDoor
open Go.Lib
theorem chr (d : Nat) (h : d < 10) : (UInt8.ofNat (48 + d)).toNat = 48 + d := by simp [UInt8.toNat_ofNat']; omega
/-! ### numbers -/
theorem parse_dec : ∀ (m u : Nat) (r : List UInt8), u ≤ m → u < 18446744073709551616 → parseUintM (2 ^ 64 - 1) 0 (decDigits u ++ r) = parseUintM (2 ^ 64 - 1) u r
 | m, u, r, hm, hb => by
  by_cases h : u < 10
  ·rw [decDigits_one h, List.singleton_append, parseUintM, chr u h, if_pos (by omega), if_neg (by omega), if_neg (by omega), Nat.zero_mul, Nat.zero_add, show 48 + u - 48 = u by omega]
  ·match m with
   | 0 => omega
   | m + 1 =>
    rw [decDigits, dif_neg h, List.append_assoc, parse_dec m (u / 10) _ (by omega) (by omega), List.singleton_append, parseUintM, chr (u % 10) (by omega), if_pos (by omega), if_neg (by omega), if_neg (by omega),
     show u / 10 * 10 + (48 + u % 10 - 48) = u by omega]
theorem dec_first (u : Nat) : ∃ c r, decDigits u = c :: r ∧ c.toNat ≠ 43 ∧ c.toNat ≠ 45 := by
 induction u using Nat.strongRecOn with
 | _ u ih =>
  by_cases h : u < 10
  ·rw [decDigits_one h]
   exact ⟨_, [], rfl, by rw [chr u h]; omega, by rw [chr u h]; omega⟩
  ·obtain ⟨c, r, e, h1, h2⟩ := ih (u / 10) (by omega)
   rw [decDigits, dif_neg h, e]
   exact ⟨c, _, rfl, h1, h2⟩
theorem parse_mag {u : Nat} (h : u < 18446744073709551616) : parseUintB 64 (decDigits u) = .ok u := by
 obtain ⟨c, r, e, _, _⟩ := dec_first u
 unfold parseUintB
 rw [if_neg (by rw [e]; simp)]
 have := parse_dec u u [] (Nat.le_refl _) h
 rw [List.append_nil] at this
 rw [this]
 rfl
def in64 (x : Int) : Prop := -9223372036854775808 ≤ x ∧ x ≤ 9223372036854775807
theorem parse_itoa {x : Int} (h : in64 x) : parseIntB 64 (itoa x) = .ok x := by
 obtain ⟨h1, h2⟩ := h
 by_cases hx : x < 0
 ·unfold itoa
  rw [if_pos hx, parseIntB_minus, parse_mag (by omega)]
  unfold signedC
  simp only
  rw [if_neg (by omega), show -((x.natAbs : Nat) : Int) = x by omega]
 ·unfold itoa
  rw [if_neg hx]
  obtain ⟨c, r, e, h43, h45⟩ := dec_first x.toNat
  have hp := parse_mag (u := x.toNat) (by omega)
  rw [e] at hp ⊢
  rw [parseIntB_plain 64 c r h43 h45, hp]
  unfold signlessC
  simp only
  rw [if_neg (by omega), Int.toNat_of_nonneg (by omega)]
theorem parse_in {s : List UInt8} {x : Int} (h : parseIntB 64 s = .ok x) : in64 x := by
 have hc : ∀ (o : NumEnd Nat), signlessC (2 ^ (64 - 1)) o = .ok x → in64 x := fun o ho => by
  unfold signlessC at ho
  split at ho <;> try (cases ho; done)
  rename_i u
  split at ho
  ·cases ho
  ·injection ho with ho
   unfold in64
   omega
 have hs : ∀ (o : NumEnd Nat), signedC (2 ^ (64 - 1)) o = .ok x → in64 x := fun o ho => by
  unfold signedC at ho
  split at ho <;> try (cases ho; done)
  rename_i u
  split at ho
  ·cases ho
  ·injection ho with ho
   unfold in64
   omega
 cases s with
 | nil => cases h
 | cons c r =>
  by_cases h43 : c.toNat = 43
  ·have : c = 43 := UInt8.toNat_inj.1 h43
   subst this
   rw [parseIntB_plus] at h
   exact hc _ h
  ·by_cases h45 : c.toNat = 45
   ·have : c = 45 := UInt8.toNat_inj.1 h45
    subst this
    rw [parseIntB_minus] at h
    exact hs _ h
   ·rw [parseIntB_plain 64 c r h43 h45] at h
    exact hc _ h
def numK (s : List UInt8) : Option Int := match parseIntB 64 s with
 | .ok n => if itoa n = s then some n else none
 | _ => none
theorem numK_iff (s : List UInt8) (x : Int) : numK s = some x ↔ s = itoa x ∧ in64 x := by
 unfold numK
 constructor
 ·intro h
  split at h
  ·rename_i n hn
   split at h
   ·rename_i he
    injection h with h
    subst h
    exact ⟨he.symm, parse_in hn⟩
   ·cases h
  ·cases h
 ·rintro ⟨rfl, h⟩
  rw [parse_itoa h]
  simp
def numGo : Nat → List UInt8 → Option Nat
 | n, [] => some n
 | n, c :: r => if c.toNat < 48 ∨ 57 < c.toNat ∨ 922337203685477580 < n then none else numGo (n * 10 + (c.toNat - 48)) r
def numEnd (neg : Bool) (s : List UInt8) : Option Nat → Option Int
 | none => none
 | some n => if itoa (bif neg then IntKind.i64.wrap (0 - IntKind.i64.wrap (n : Int)) else IntKind.i64.wrap (n : Int)) = s then some (bif neg then IntKind.i64.wrap (0 - IntKind.i64.wrap (n : Int)) else IntKind.i64.wrap (n : Int)) else none
def numR (s : List UInt8) : Option Int :=
 match s with
 | 45 :: r => if r = [] ∨ 20 < s.length then none else numEnd true s (numGo 0 r)
 | s => if s = [] ∨ 20 < s.length then none else numEnd false s (numGo 0 s)
theorem num_dec : ∀ (m u : Nat) (r : List UInt8), u ≤ m → u ≤ 9223372036854775809 → numGo 0 (decDigits u ++ r) = numGo u r
 | m, u, r, hm, hb => by
  by_cases h : u < 10
  ·rw [decDigits_one h, List.singleton_append, numGo, chr u h, if_neg (by omega), Nat.zero_mul, Nat.zero_add, show 48 + u - 48 = u by omega]
  ·match m with
   | 0 => omega
   | m + 1 =>
    rw [decDigits, dif_neg h, List.append_assoc, num_dec m (u / 10) _ (by omega) (by omega), List.singleton_append, numGo, chr (u % 10) (by omega), if_neg (by omega), show u / 10 * 10 + (48 + u % 10 - 48) = u by omega]
theorem wrap_in (x : Int) : in64 (IntKind.i64.wrap x) := by
 unfold in64
 simp only [IntKind.wrap, IntKind.bits, IntKind.signed]
 simp
 omega
theorem wrap_id {x : Int} (h : in64 x) : IntKind.i64.wrap x = x := by
 unfold in64 at h
 simp only [IntKind.wrap, IntKind.bits, IntKind.signed]
 simp
 omega
theorem numEnd_in {neg : Bool} {s : List UInt8} {o : Option Nat} {x : Int} (h : numEnd neg s o = some x) : s = itoa x ∧ in64 x := by
 cases o with
 | none => cases h
 | some n =>
  simp only [numEnd] at h
  split at h
  ·rename_i he
   injection h with h
   subst h
   refine ⟨he.symm, ?_⟩
   cases neg <;> exact wrap_in _
  ·cases h
theorem dec_len {u : Nat} (h : u < 10000000000000000000) : (decDigits u).length ≤ 19 := by
 have go : ∀ (k u : Nat), u < 10 ^ (k + 1) → (decDigits u).length ≤ k + 1 := by
  intro k
  induction k with
  | zero =>
   intro u hu
   rw [decDigits_one (by simpa using hu)]
   simp
  | succ k ih =>
   intro u hu
   by_cases h10 : u < 10
   ·rw [decDigits_one h10]
    simp
   ·rw [decDigits, dif_neg h10, List.length_append, List.length_singleton]
    have := ih (u / 10) (by rw [Nat.pow_succ] at hu; omega)
    omega
 exact go 18 u (by simpa using h)
theorem numR_iff (s : List UInt8) (x : Int) : numR s = some x ↔ s = itoa x ∧ in64 x := by
 constructor
 ·intro h
  unfold numR at h
  split at h
  ·split at h
   ·cases h
   ·exact numEnd_in h
  ·split at h
   ·cases h
   ·exact numEnd_in h
 ·rintro ⟨rfl, h⟩
  have h' := h
  obtain ⟨h1, h2⟩ := h'
  by_cases hx : x < 0
  ·have e : itoa x = 45 :: decDigits x.natAbs := by unfold itoa; rw [if_pos hx]
   obtain ⟨c, r, ed, _, _⟩ := dec_first x.natAbs
   have hl := dec_len (u := x.natAbs) (by omega)
   have hg := num_dec x.natAbs x.natAbs [] (Nat.le_refl _) (by omega)
   rw [List.append_nil] at hg
   unfold numR
   rw [e]
   simp only
   rw [if_neg (by rw [ed] at hl ⊢; simp at hl ⊢; omega), hg]
   simp only [numGo, numEnd, cond_true]
   have hw : IntKind.i64.wrap (0 - IntKind.i64.wrap ((x.natAbs : Nat) : Int)) = x := by
    simp only [IntKind.wrap, IntKind.bits, IntKind.signed]
    simp
    omega
   rw [hw, if_pos e]
  ·have e : itoa x = decDigits x.toNat := by unfold itoa; rw [if_neg hx]
   obtain ⟨c, r, ed, _, h45⟩ := dec_first x.toNat
   have hl := dec_len (u := x.toNat) (by omega)
   have hg := num_dec x.toNat x.toNat [] (Nat.le_refl _) (by omega)
   rw [List.append_nil] at hg
   unfold numR
   rw [e]
   have hc : c ≠ 45 := fun hc => h45 (by rw [hc]; rfl)
   split
   ·rename_i r' he
    rw [ed] at he
    injection he with he _
    exact absurd he hc
   ·rw [if_neg (by rw [ed] at hl ⊢; simp at hl ⊢; omega), hg]
    simp only [numGo, numEnd, cond_false]
    have hw : IntKind.i64.wrap ((x.toNat : Nat) : Int) = x := by rw [Int.toNat_of_nonneg (by omega)]; exact wrap_id h
    rw [hw, if_pos e]
theorem nums_alike (s : List UInt8) : numR s = numK s := by
 cases h : numR s with
 | none =>
  cases h2 : numK s with
  | none => rfl
  | some x =>
   rw [(numR_iff s x).2 ((numK_iff s x).1 h2)] at h
   cases h
 | some x => exact ((numK_iff s x).2 ((numR_iff s x).1 h)).symm
/-! ### quoted keys -/
def hexB (n : Nat) : UInt8 := if n < 10 then UInt8.ofNat (48 + n) else UInt8.ofNat (87 + n)
def plainC (c : UInt8) : Bool := decide (32 ≤ c.toNat) && (decide (c.toNat ≤ 126) && (decide (c.toNat ≠ 34) && decide (c.toNat ≠ 92)))
def q1 (c : UInt8) : List UInt8 := if plainC c then [c] else [92, 120, hexB (c.toNat / 16), hexB (c.toNat % 16)]
def quoteB (k : List UInt8) : List UInt8 := 34 :: (k.flatMap q1 ++ [34])
def dg (c : UInt8) : Option Nat := if 48 ≤ c.toNat ∧ c.toNat ≤ 57 then some (c.toNat - 48) else if 97 ≤ c.toNat ∧ c.toNat ≤ 102 then some (c.toNat - 87) else none
def unq : List UInt8 → List UInt8 → Option (List UInt8 × List UInt8)
 | _, [] => none
 | b, c :: s => if c = 34 then some (b, s) else if c = 92 then
   (match s with
    | x :: h :: l :: r => if x = 120 then (match dg h, dg l with
     | some i, some j => if plainC (UInt8.ofNat (16 * i + j)) then none else unq (b ++ [UInt8.ofNat (16 * i + j)]) r
     | _, _ => none) else none
    | _ => none)
  else if c.toNat < 32 ∨ 126 < c.toNat then none else unq (b ++ [c]) s
theorem unq_cons (b : List UInt8) (c : UInt8) (s : List UInt8) : unq b (c :: s) = if c = 34 then some (b, s) else if c = 92 then
   (match s with
    | x :: h :: l :: r => if x = 120 then (match dg h, dg l with
     | some i, some j => if plainC (UInt8.ofNat (16 * i + j)) then none else unq (b ++ [UInt8.ofNat (16 * i + j)]) r
     | _, _ => none) else none
    | _ => none)
  else if c.toNat < 32 ∨ 126 < c.toNat then none else unq (b ++ [c]) s := by
 match s with
 | [] => rfl
 | [_] => rfl
 | [_, _] => rfl
 | _ :: _ :: _ :: _ => rfl
theorem unq_step (b : List UInt8) (c : UInt8) (s : List UInt8) (h34 : c ≠ 34) (h92 : c ≠ 92) (hc : ¬ (c.toNat < 32 ∨ 126 < c.toNat)) : unq b (c :: s) = unq (b ++ [c]) s := by
 rw [unq_cons, if_neg h34, if_neg h92, if_neg hc]
theorem unq_end (b s : List UInt8) : unq b (34 :: s) = some (b, s) := by
 rw [unq_cons, if_pos rfl]
theorem unq_esc (b : List UInt8) (x h l : UInt8) (r : List UInt8) : unq b (92 :: x :: h :: l :: r) = if x = 120 then (match dg h, dg l with
  | some i, some j => if plainC (UInt8.ofNat (16 * i + j)) then none else unq (b ++ [UInt8.ofNat (16 * i + j)]) r
  | _, _ => none) else none := by
 rw [unq_cons, if_neg (by decide), if_pos rfl]
theorem dg_hex : ∀ i : Fin 16, dg (hexB i.val) = some i.val := by decide +kernel
theorem dg_lt {c : UInt8} {i : Nat} (h : dg c = some i) : i < 16 ∧ hexB i = c := by
 unfold dg at h
 split at h
 ·injection h with h
  subst h
  refine ⟨by omega, ?_⟩
  unfold hexB
  rw [if_pos (by omega)]
  apply UInt8.toNat_inj.1
  simp [UInt8.toNat_ofNat']
  omega
 ·split at h
  ·injection h with h
   subst h
   refine ⟨by omega, ?_⟩
   unfold hexB
   rw [if_neg (by omega)]
   apply UInt8.toNat_inj.1
   simp [UInt8.toNat_ofNat']
   omega
  ·cases h
theorem byte_two (c : UInt8) : UInt8.ofNat (16 * (c.toNat / 16) + c.toNat % 16) = c := by
 rw [Nat.div_add_mod]
 simp
theorem plain_of {c : UInt8} (h : plainC c = true) : c ≠ 34 ∧ c ≠ 92 ∧ ¬ (c.toNat < 32 ∨ 126 < c.toNat) := by
 simp only [plainC, Bool.and_eq_true, decide_eq_true_eq] at h
 obtain ⟨h1, h2, h3, h4⟩ := h
 refine ⟨fun e => h3 (by rw [e]; rfl), fun e => h4 (by rw [e]; rfl), by omega⟩
theorem unq_quote : ∀ (k b r : List UInt8), unq b (k.flatMap q1 ++ 34 :: r) = some (b ++ k, r)
 | [], b, r => by rw [List.flatMap_nil, List.nil_append, unq_end, List.append_nil]
 | c :: k, b, r => by
  rw [List.flatMap_cons, List.append_assoc]
  by_cases hp : plainC c = true
  ·obtain ⟨h1, h2, h3⟩ := plain_of hp
   rw [show q1 c = [c] by unfold q1; rw [if_pos hp], List.singleton_append, unq_step _ _ _ h1 h2 h3, unq_quote k, List.append_assoc]
   rfl
  ·have h1 := dg_hex ⟨c.toNat / 16, by have := c.toNat_lt; omega⟩
   have h2 := dg_hex ⟨c.toNat % 16, by omega⟩
   simp only at h1 h2
   rw [show q1 c = [92, 120, hexB (c.toNat / 16), hexB (c.toNat % 16)] by unfold q1; rw [if_neg hp]]
   simp only [List.cons_append, List.nil_append]
   rw [unq_esc, if_pos rfl, h1, h2]
   simp only
   rw [byte_two, if_neg hp, unq_quote k, List.append_assoc]
   rfl
theorem unq_inv : ∀ (m : Nat) (s b b' r : List UInt8), s.length ≤ m → unq b s = some (b', r) → ∃ k, b' = b ++ k ∧ s = k.flatMap q1 ++ 34 :: r
 | _, [], b, b', r, _, h => by simp [unq] at h
 | 0, c :: s, b, b', r, hm, _ => by simp at hm
 | m + 1, c :: s, b, b', r, hm, h => by
  have hs : s.length ≤ m := by simpa using hm
  by_cases h34 : c = 34
  ·subst h34
   rw [unq_end] at h
   injection h with h
   injection h with h1 h2
   subst h1 h2
   exact ⟨[], by simp, rfl⟩
  ·by_cases h92 : c = 92
   ·subst h92
    match s, hs with
    | [], _ => simp [unq] at h
    | [x], _ => simp [unq] at h
    | [x, y], _ => simp [unq] at h
    | x :: p :: l :: r', hs =>
     rw [unq_esc] at h
     split at h
     ·rename_i hx
      subst hx
      split at h
      ·rename_i i j hi hj
       split at h
       ·cases h
       ·rename_i hpl
        obtain ⟨k, hk, he⟩ := unq_inv m r' _ _ _ (by simp at hs; omega) h
        obtain ⟨hi1, hi2⟩ := dg_lt hi
        obtain ⟨hj1, hj2⟩ := dg_lt hj
        have hn : (UInt8.ofNat (16 * i + j)).toNat = 16 * i + j := by simp [UInt8.toNat_ofNat']; omega
        refine ⟨UInt8.ofNat (16 * i + j) :: k, by rw [hk, List.append_assoc]; rfl, ?_⟩
        rw [List.flatMap_cons, show q1 (UInt8.ofNat (16 * i + j)) = [92, 120, p, l] by
         unfold q1
         rw [if_neg hpl, hn, show (16 * i + j) / 16 = i by omega, show (16 * i + j) % 16 = j by omega, hi2, hj2], he]
        rfl
      ·cases h
     ·cases h
   ·by_cases hc : c.toNat < 32 ∨ 126 < c.toNat
    ·rw [unq_cons, if_neg h34, if_neg h92, if_pos hc] at h
     cases h
    ·rw [unq_step b c s h34 h92 hc] at h
     obtain ⟨k, hk, he⟩ := unq_inv m s _ _ _ hs h
     have hp : plainC c = true := by
      simp only [plainC, Bool.and_eq_true, decide_eq_true_eq]
      refine ⟨by omega, by omega, fun e => h34 (UInt8.toNat_inj.1 e), fun e => h92 (UInt8.toNat_inj.1 e)⟩
     refine ⟨c :: k, by rw [hk, List.append_assoc]; rfl, ?_⟩
     rw [List.flatMap_cons, show q1 c = [c] by unfold q1; rw [if_pos hp], he]
     rfl
def keyK : List UInt8 → Option (List UInt8 × List UInt8)
 | 34 :: s => unq [] s
 | _ => none
theorem keyK_iff (s k r : List UInt8) : keyK s = some (k, r) ↔ s = quoteB k ++ r := by
 constructor
 ·intro h
  unfold keyK at h
  split at h
  ·rename_i s'
   obtain ⟨k', hk, he⟩ := unq_inv s'.length s' [] k r (Nat.le_refl _) h
   rw [List.nil_append] at hk
   subst hk
   rw [he]
   simp [quoteB]
  ·cases h
 ·rintro rfl
  have := unq_quote k [] r
  rw [List.nil_append] at this
  simp only [quoteB, List.cons_append, List.append_assoc, List.nil_append, keyK]
  exact this
def lno : List UInt8 → Nat → List UInt8 → Option (List UInt8 × Nat)
 | b, i, [] => some (b, i)
 | b, i, c :: s => if c = 34 then some (b, i) else if c = 92 then
   (match s with
    | _ :: h :: l :: r => (match dg h, dg l with
     | some p, some q => lno (b ++ [UInt8.ofNat (16 * p + q)]) (i + 4) r
     | _, _ => none)
    | _ => none)
  else lno (b ++ [c]) (i + 1) s
theorem lno_cons (b : List UInt8) (i : Nat) (c : UInt8) (s : List UInt8) : lno b i (c :: s) = if c = 34 then some (b, i) else if c = 92 then
   (match s with
    | _ :: h :: l :: r => (match dg h, dg l with
     | some p, some q => lno (b ++ [UInt8.ofNat (16 * p + q)]) (i + 4) r
     | _, _ => none)
    | _ => none)
  else lno (b ++ [c]) (i + 1) s := by
 match s with
 | [] => rfl
 | [_] => rfl
 | [_, _] => rfl
 | _ :: _ :: _ :: _ => rfl
theorem lno_step (b : List UInt8) (i : Nat) (c : UInt8) (s : List UInt8) (h34 : c ≠ 34) (h92 : c ≠ 92) : lno b i (c :: s) = lno (b ++ [c]) (i + 1) s := by
 rw [lno_cons, if_neg h34, if_neg h92]
theorem lno_end (b : List UInt8) (i : Nat) (s : List UInt8) : lno b i (34 :: s) = some (b, i) := by
 rw [lno_cons, if_pos rfl]
theorem lno_esc (b : List UInt8) (i : Nat) (x h l : UInt8) (r : List UInt8) : lno b i (92 :: x :: h :: l :: r) = match dg h, dg l with
  | some p, some q => lno (b ++ [UInt8.ofNat (16 * p + q)]) (i + 4) r
  | _, _ => none := by
 rw [lno_cons, if_neg (by decide), if_pos rfl]
theorem lno_quote : ∀ (k b r : List UInt8) (i : Nat), lno b i (k.flatMap q1 ++ 34 :: r) = some (b ++ k, i + (k.flatMap q1).length)
 | [], b, r, i => by rw [List.flatMap_nil, List.nil_append, lno_end, List.append_nil]; rfl
 | c :: k, b, r, i => by
  rw [List.flatMap_cons, List.append_assoc]
  by_cases hp : plainC c = true
  ·obtain ⟨h1, h2, h3⟩ := plain_of hp
   rw [show q1 c = [c] by unfold q1; rw [if_pos hp], List.singleton_append, lno_step _ _ _ _ h1 h2, lno_quote k, List.append_assoc, List.length_append, List.length_singleton, Nat.add_assoc]
   rfl
  ·have h1 := dg_hex ⟨c.toNat / 16, by have := c.toNat_lt; omega⟩
   have h2 := dg_hex ⟨c.toNat % 16, by omega⟩
   simp only at h1 h2
   rw [show q1 c = [92, 120, hexB (c.toNat / 16), hexB (c.toNat % 16)] by unfold q1; rw [if_neg hp]]
   simp only [List.cons_append, List.nil_append]
   rw [lno_esc, h1, h2]
   simp only
   rw [byte_two, lno_quote k, List.append_assoc]
   simp only [List.length_cons, List.cons_append, List.nil_append]
   rw [show i + 4 + (k.flatMap q1).length = i + ((k.flatMap q1).length + 1 + 1 + 1 + 1) by omega]
def keyR (s : List UInt8) : Option (List UInt8 × Nat) := match s with
 | 34 :: s' => (match lno [] 1 s' with
  | some (b, i) => if s.length ≤ i ∨ quoteB b ≠ s.take (i + 1) then none else some (b, i + 1)
  | none => none)
 | _ => none
theorem keyR_iff (s k : List UInt8) (n : Nat) : keyR s = some (k, n) ↔ ∃ r, s = quoteB k ++ r ∧ n = (quoteB k).length := by
 constructor
 ·intro h
  unfold keyR at h
  split at h
  ·rename_i s'
   split at h
   ·rename_i b i _
    split at h
    ·cases h
    ·rename_i hq
     rw [not_or] at hq
     obtain ⟨h1, h2⟩ := hq
     have h2 := Classical.not_not.1 h2
     injection h with h
     injection h with h3 h4
     subst h3 h4
     refine ⟨(34 :: s').drop (i + 1), by rw [h2, List.take_append_drop], ?_⟩
     rw [h2, List.length_take]
     omega
   ·cases h
  ·cases h
 ·rintro ⟨r, rfl, rfl⟩
  have hl := lno_quote k [] r 1
  rw [List.nil_append] at hl
  have e : quoteB k ++ r = 34 :: (k.flatMap q1 ++ 34 :: r) := by simp [quoteB]
  have hlen : (quoteB k).length = (k.flatMap q1).length + 2 := by simp [quoteB]
  unfold keyR
  rw [e]
  simp only
  rw [hl]
  simp only
  rw [← e, if_neg, show 1 + (k.flatMap q1).length + 1 = (quoteB k).length by omega]
  rw [not_or]
  refine ⟨by rw [List.length_append]; omega, Classical.not_not.2 ?_⟩
  rw [show 1 + (k.flatMap q1).length + 1 = (quoteB k).length by omega, List.take_left]
end Go.Proofs.YthfpekhpeiebjaaGreatDoor
end
