/- Joined texts: Shelf, L, NA. -/
import Derived.Shelf.Strings.Builder1
import Derived.Shelf.Small.Strs
import Derived.Shelf.Utf8.RuneCount
import Derived.Shelf.Strconv.Itoa0
import Derived.Shelf.Strconv.Itoa1
import Derived.Shelf.LaysM
import Derived.Shelf.Strconv.Itoa2
import Derived.Shelf.Strconv.Itoa3
import Derived.Shelf.Strconv.Itoa4
import Derived.Shelf.Strconv.ParseIntEmpty
import Derived.Shelf.Strconv.Clone
import Derived.Shelf.Strconv.SyntaxError
import Derived.Shelf.LaysC
import Derived.Shelf.Strconv.ToError
import Derived.Shelf.Strconv.Lower
import Derived.Shelf.Strconv.ParseUint10
import Derived.Shelf.Strconv.ParseUint10Empty
import Derived.Shelf.Strconv.ParseUint10Any
import Derived.Shelf.Strconv.ParseInt10
import Derived.Shelf.Strconv.RangeError
import Derived.Shelf.Strconv.ToErrorRange
import Derived.Shelf.Strconv.ParseUintEmpty
import Derived.Shelf.Strconv.ParseUint10b64
import Derived.Shelf.Strconv.ParseUint10b32
import Derived.Shelf.Strconv.ParseUint10b16
import Derived.Shelf.Strconv.ParseUint10b8
import Derived.Shelf.Strconv.ParseUint10At
import Derived.Shelf.Strconv.ParseInt10At64
import Derived.Shelf.Strconv.ParseInt10At32
import Derived.Shelf.Strconv.ParseInt10At16
import Derived.Shelf.Strconv.ParseInt10At8
import Derived.Shelf.Strconv.ParseInt10All
import Derived.Shelf.Strconv.ParseIntPublic10
import Derived.Shelf.Strconv.ErrVarParseInt
import Derived.Shelf.Strings.Search1
import Derived.Shelf.Strings.Search2
import Derived.Shelf.Strings.Search3
import Derived.Shelf.Strings.Cut
import Derived.Shelf.Strings.Count
import Derived.Shelf.Strings.Shaped
import Derived.Shelf.Strings.Split
import Derived.Shelf.Strings.SplitShaped
import Derived.Shelf.Unicode.Decode
import Derived.Shelf.Strings.RuneCount
import Derived.Shelf.Strings.Explode
import Derived.Shelf.Unicode.DecodeSlow
import Derived.Shelf.Unicode.DecodeAny
import Derived.Test.YtkjnbafdmjakgaaDoorProg
import Derived.Test.YtkjnbafdmjakgaaDoorCards
import Derived.Test.YtkjnbafdmjakgaaDoorTie
import Derived.WalkKit
import Derived.ProofKit
import Derived.OpenShut
import Derived.Below
import Derived.ChangeSame
import Derived.LaidLaws
import Derived.Deep.DeepHandedRow
import Derived.Deep.DeepWitnessRowRef
import Derived.Lib.LaidTab
import Derived.Lib.LaidU8
import Derived.Lib.ParseIntBCases
import Derived.Lib.ItoaMem
import Derived.Lib.ItoaLen
set_option linter.unusedSimpArgs false
set_option linter.unusedVariables false
section
--@Shelf
/- The library functions that the job's text calls: their contracts (printed by the kit's tools). -/
namespace Go.Proofs
open Go.Shelf
def Tryd.lays137_ren : Go.Shelf.Ren := ⟨fun | 137 => 61 | 217 => 83 | 266 => 104 | n => n, fun | 9 => 9 | 5 => 5 | 3 => 3 | n => n, fun | n => n⟩
theorem Tryd.lays137 : Go.Proofs.Lays.n137 Tryd.prog Tryd.lays137_ren := {
 mixed := by kernel_rfl
 f137 := Tryd.func61.trans (congrArg some (by kernel_rfl))
 f217 := Tryd.func83.trans (congrArg some (by kernel_rfl))
 f266 := Tryd.func104.trans (congrArg some (by kernel_rfl))
 t3 := Tryd.underlying3
 a3 := Tryd.isAgg3
 z3 := Tryd.sizeOf3
 v3 := Tryd.zeroValue3
 t5 := Tryd.underlying5
 a5 := Tryd.isAgg5
 z5 := Tryd.sizeOf5
 v5 := Tryd.zeroValue5
 t9 := Tryd.underlying9
 a9 := Tryd.isAgg9
 z9 := Tryd.sizeOf9
 v9 := Tryd.zeroValue9 }
open Go.RowKit in
theorem Tryd.strings_IndexByte (s : ByteArray) (c : Int) (w : World) :
  Calls Tryd.prog 61 #[.string s, .int .u8 c] w fun e w' => e = .returned (.int .i64 (Lib.indexByte s.data.toList c.toNat.toUInt8)) ∧ w' = w := Any.strings_IndexByte Tryd.lays137 s c w
def Tryd.laysM173_ren : Go.Shelf.Ren := ⟨fun | 173 => 32 | 246 => 65 | 283 => 92 | 284 => 93 | 285 => 94 | 286 => 95 | 129 => 114 | 317 => 113 | 318 => 115 | 319 => 116 | 320 => 117 | 337 => 127 | 338 => 128 | n => n, fun | 2 => 2 | 3 => 3 | 9 => 9 | 4 => 4 | 171 => 152 | 0 => 0 | 53 => 123 | 37 => 83 | 5 => 5 | 173 => 155 | 212 => 175 | 51 => 176 | 20 => 20 | 213 => 177 | 46 => 119 | 232 => 192 | 233 => 193 | n => n, fun | 17 => 2 | 18 => 6 | 19 => 7 | n => n⟩
theorem Tryd.laysM173 : Go.Proofs.LaysM.n173 Tryd.prog Tryd.laysM173_ren := {
 mixed := by kernel_rfl
 f129 := Tryd.func114.trans (congrArg some (by kernel_rfl))
 f173 := Tryd.func32.trans (congrArg some (by kernel_rfl))
 f246 := Tryd.func65.trans (congrArg some (by kernel_rfl))
 f283 := Tryd.func92.trans (congrArg some (by kernel_rfl))
 f284 := Tryd.func93.trans (congrArg some (by kernel_rfl))
 f285 := Tryd.func94.trans (congrArg some (by kernel_rfl))
 f286 := Tryd.func95.trans (congrArg some (by kernel_rfl))
 f317 := Tryd.func113.trans (congrArg some (by kernel_rfl))
 f318 := Tryd.func115.trans (congrArg some (by kernel_rfl))
 f319 := Tryd.func116.trans (congrArg some (by kernel_rfl))
 f320 := Tryd.func117.trans (congrArg some (by kernel_rfl))
 f337 := Tryd.func127.trans (congrArg some (by kernel_rfl))
 f338 := Tryd.func128.trans (congrArg some (by kernel_rfl))
 t0 := Tryd.underlying0
 a0 := Tryd.isAgg0
 z0 := Tryd.sizeOf0
 v0 := Tryd.zeroValue0
 t2 := Tryd.underlying2
 a2 := Tryd.isAgg2
 z2 := Tryd.sizeOf2
 v2 := Tryd.zeroValue2
 t3 := Tryd.underlying3
 a3 := Tryd.isAgg3
 z3 := Tryd.sizeOf3
 v3 := Tryd.zeroValue3
 t4 := Tryd.underlying4
 a4 := Tryd.isAgg4
 z4 := Tryd.sizeOf4
 v4 := Tryd.zeroValue4
 t5 := Tryd.underlying5
 a5 := Tryd.isAgg5
 z5 := Tryd.sizeOf5
 v5 := Tryd.zeroValue5
 t9 := Tryd.underlying9
 a9 := Tryd.isAgg9
 z9 := Tryd.sizeOf9
 v9 := Tryd.zeroValue9
 t20 := Tryd.underlying20
 a20 := Tryd.isAgg20
 z20 := Tryd.sizeOf20
 v20 := Tryd.zeroValue20
 t37 := Tryd.underlying83
 a37 := Tryd.isAgg83
 z37 := Tryd.sizeOf83
 v37 := Tryd.zeroValue83
 t46 := Tryd.underlying119
 a46 := Tryd.isAgg119
 z46 := Tryd.sizeOf119
 v46 := Tryd.zeroValue119
 t51 := Tryd.underlying176
 a51 := Tryd.isAgg176
 z51 := Tryd.sizeOf176
 v51 := Tryd.zeroValue176
 t53 := Tryd.underlying123
 a53 := Tryd.isAgg123
 z53 := Tryd.sizeOf123
 v53 := Tryd.zeroValue123
 t171 := Tryd.underlying152
 a171 := Tryd.isAgg152
 z171 := Tryd.sizeOf152
 v171 := Tryd.zeroValue152
 t173 := Tryd.underlying155
 a173 := Tryd.isAgg155
 z173 := Tryd.sizeOf155
 v173 := Tryd.zeroValue155
 t212 := Tryd.underlying175
 a212 := Tryd.isAgg175
 z212 := Tryd.sizeOf175
 v212 := Tryd.zeroValue175
 t213 := Tryd.underlying177
 a213 := Tryd.isAgg177
 z213 := Tryd.sizeOf177
 t232 := Tryd.underlying192
 a232 := Tryd.isAgg192
 z232 := Tryd.sizeOf192
 v232 := Tryd.zeroValue192
 t233 := Tryd.underlying193
 a233 := Tryd.isAgg193
 z233 := Tryd.sizeOf193
 v233 := Tryd.zeroValue193
 g17 := by kernel_rfl
 g18 := by kernel_rfl
 g19 := by kernel_rfl
 i0 := by kernel_rfl
 i2 := by kernel_rfl
 i3 := by kernel_rfl
 i4 := by kernel_rfl
 i5 := by kernel_rfl
 i9 := by kernel_rfl
 i20 := by kernel_rfl
 i37 := by kernel_rfl
 i46 := by kernel_rfl
 i51 := by kernel_rfl
 i53 := by kernel_rfl
 i171 := by kernel_rfl
 i173 := by kernel_rfl
 i212 := by kernel_rfl
 i232 := by kernel_rfl
 i233 := by kernel_rfl
 m17 := by kernel_rfl
 m18 := by kernel_rfl
 m19 := by kernel_rfl }
open Go.RowKit Go.Sort Go.Lib in
theorem Tryd.strconv_FormatInt_10 (n : Int) (h0 : -9223372036854775808 ≤ n) (h1 : n ≤ 9223372036854775807) (w : World) (htab : Lib.TabIs Tryd.prog w "internal/strconv.uint64pow10" .u64 Lib.pow10Tab) :
  Calls Tryd.prog 32 #[.int .i64 n, .int .i64 10] w fun e w' => e = .returned (.string ⟨(Lib.itoa n).toArray⟩) ∧ ∃ k os, w' = grow (w.drewN k) os := Any.strconv_FormatInt_10 Tryd.laysM173 n h0 h1 w htab
def Tryd.laysC174_ren : Go.Shelf.Ren := ⟨fun | 174 => 31 | 247 => 63 | 245 => 64 | 287 => 87 | 279 => 88 | 280 => 89 | 281 => 90 | 282 => 91 | 321 => 108 | 322 => 109 | 316 => 110 | 171 => 112 | 205 => 111 | 243 => 126 | 246 => 65 | 283 => 92 | 284 => 93 | 285 => 94 | 286 => 95 | 129 => 114 | 317 => 113 | 318 => 115 | 319 => 116 | 320 => 117 | 337 => 127 | 338 => 128 | n => n, fun | 9 => 9 | 3 => 3 | 2 => 2 | 75 => 68 | 85 => 69 | 4 => 4 | 167 => 145 | 5 => 5 | 53 => 123 | 175 => 146 | 46 => 119 | 168 => 148 | 37 => 83 | 0 => 0 | 210 => 171 | 21 => 21 | 127 => 124 | 145 => 184 | 143 => 182 | 171 => 152 | 173 => 155 | 212 => 175 | 51 => 176 | 20 => 20 | 213 => 177 | 232 => 192 | 233 => 193 | 80 => 89 | n => n, fun | 15 => 0 | 16 => 1 | 17 => 2 | 18 => 6 | 19 => 7 | n => n⟩
theorem Tryd.laysC174 : Go.Proofs.LaysC.n174 Tryd.prog Tryd.laysC174_ren := {
 mixed := by kernel_rfl
 f129 := Tryd.func114.trans (congrArg some (by kernel_rfl))
 f171 := Tryd.func112.trans (congrArg some (by kernel_rfl))
 f174 := Tryd.func31.trans (congrArg some (by kernel_rfl))
 f205 := Tryd.func111.trans (congrArg some (by kernel_rfl))
 f243 := Tryd.func126.trans (congrArg some (by kernel_rfl))
 f245 := Tryd.func64.trans (congrArg some (by kernel_rfl))
 f246 := Tryd.func65.trans (congrArg some (by kernel_rfl))
 f247 := Tryd.func63.trans (congrArg some (by kernel_rfl))
 f279 := Tryd.func88.trans (congrArg some (by kernel_rfl))
 f280 := Tryd.func89.trans (congrArg some (by kernel_rfl))
 f281 := Tryd.func90.trans (congrArg some (by kernel_rfl))
 f282 := Tryd.func91.trans (congrArg some (by kernel_rfl))
 f283 := Tryd.func92.trans (congrArg some (by kernel_rfl))
 f284 := Tryd.func93.trans (congrArg some (by kernel_rfl))
 f285 := Tryd.func94.trans (congrArg some (by kernel_rfl))
 f286 := Tryd.func95.trans (congrArg some (by kernel_rfl))
 f287 := Tryd.func87.trans (congrArg some (by kernel_rfl))
 f316 := Tryd.func110.trans (congrArg some (by kernel_rfl))
 f317 := Tryd.func113.trans (congrArg some (by kernel_rfl))
 f318 := Tryd.func115.trans (congrArg some (by kernel_rfl))
 f319 := Tryd.func116.trans (congrArg some (by kernel_rfl))
 f320 := Tryd.func117.trans (congrArg some (by kernel_rfl))
 f321 := Tryd.func108.trans (congrArg some (by kernel_rfl))
 f322 := Tryd.func109.trans (congrArg some (by kernel_rfl))
 f337 := Tryd.func127.trans (congrArg some (by kernel_rfl))
 f338 := Tryd.func128.trans (congrArg some (by kernel_rfl))
 t0 := Tryd.underlying0
 a0 := Tryd.isAgg0
 z0 := Tryd.sizeOf0
 v0 := Tryd.zeroValue0
 t2 := Tryd.underlying2
 a2 := Tryd.isAgg2
 z2 := Tryd.sizeOf2
 v2 := Tryd.zeroValue2
 t3 := Tryd.underlying3
 a3 := Tryd.isAgg3
 z3 := Tryd.sizeOf3
 v3 := Tryd.zeroValue3
 t4 := Tryd.underlying4
 a4 := Tryd.isAgg4
 z4 := Tryd.sizeOf4
 v4 := Tryd.zeroValue4
 t5 := Tryd.underlying5
 a5 := Tryd.isAgg5
 z5 := Tryd.sizeOf5
 v5 := Tryd.zeroValue5
 t9 := Tryd.underlying9
 a9 := Tryd.isAgg9
 z9 := Tryd.sizeOf9
 v9 := Tryd.zeroValue9
 t20 := Tryd.underlying20
 a20 := Tryd.isAgg20
 z20 := Tryd.sizeOf20
 v20 := Tryd.zeroValue20
 t21 := Tryd.underlying21
 a21 := Tryd.isAgg21
 z21 := Tryd.sizeOf21
 v21 := Tryd.zeroValue21
 t37 := Tryd.underlying83
 a37 := Tryd.isAgg83
 z37 := Tryd.sizeOf83
 v37 := Tryd.zeroValue83
 t46 := Tryd.underlying119
 a46 := Tryd.isAgg119
 z46 := Tryd.sizeOf119
 v46 := Tryd.zeroValue119
 t51 := Tryd.underlying176
 a51 := Tryd.isAgg176
 z51 := Tryd.sizeOf176
 v51 := Tryd.zeroValue176
 t53 := Tryd.underlying123
 a53 := Tryd.isAgg123
 z53 := Tryd.sizeOf123
 v53 := Tryd.zeroValue123
 t75 := Tryd.underlying68
 a75 := Tryd.isAgg68
 z75 := Tryd.sizeOf68
 v75 := Tryd.zeroValue68
 t85 := Tryd.underlying69
 a85 := Tryd.isAgg69
 z85 := Tryd.sizeOf69
 v85 := Tryd.zeroValue69
 t127 := Tryd.underlying124
 a127 := Tryd.isAgg124
 z127 := Tryd.sizeOf124
 v127 := Tryd.zeroValue124
 t143 := Tryd.underlying182
 a143 := Tryd.isAgg182
 z143 := Tryd.sizeOf182
 v143 := Tryd.zeroValue182
 t145 := Tryd.underlying184
 a145 := Tryd.isAgg184
 z145 := Tryd.sizeOf184
 v145 := Tryd.zeroValue184
 t167 := Tryd.underlying145
 a167 := Tryd.isAgg145
 z167 := Tryd.sizeOf145
 v167 := Tryd.zeroValue145
 t168 := Tryd.underlying148
 a168 := Tryd.isAgg148
 z168 := Tryd.sizeOf148
 v168 := Tryd.zeroValue148
 t171 := Tryd.underlying152
 a171 := Tryd.isAgg152
 z171 := Tryd.sizeOf152
 v171 := Tryd.zeroValue152
 t173 := Tryd.underlying155
 a173 := Tryd.isAgg155
 z173 := Tryd.sizeOf155
 v173 := Tryd.zeroValue155
 t175 := Tryd.underlying146
 a175 := Tryd.isAgg146
 z175 := Tryd.sizeOf146
 v175 := Tryd.zeroValue146
 t210 := Tryd.underlying171
 a210 := Tryd.isAgg171
 z210 := Tryd.sizeOf171
 v210 := Tryd.zeroValue171
 t212 := Tryd.underlying175
 a212 := Tryd.isAgg175
 z212 := Tryd.sizeOf175
 v212 := Tryd.zeroValue175
 t213 := Tryd.underlying177
 a213 := Tryd.isAgg177
 z213 := Tryd.sizeOf177
 t232 := Tryd.underlying192
 a232 := Tryd.isAgg192
 z232 := Tryd.sizeOf192
 v232 := Tryd.zeroValue192
 t233 := Tryd.underlying193
 a233 := Tryd.isAgg193
 z233 := Tryd.sizeOf193
 v233 := Tryd.zeroValue193
 g15 := by kernel_rfl
 g16 := by kernel_rfl
 g17 := by kernel_rfl
 g18 := by kernel_rfl
 g19 := by kernel_rfl
 t80 := Tryd.underlying89
 a80 := Tryd.isAgg89
 z80 := Tryd.sizeOf89
 v80 := Tryd.zeroValue89
 i0 := by kernel_rfl
 i2 := by kernel_rfl
 i3 := by kernel_rfl
 i4 := by kernel_rfl
 i5 := by kernel_rfl
 i9 := by kernel_rfl
 i20 := by kernel_rfl
 i21 := by kernel_rfl
 i37 := by kernel_rfl
 i46 := by kernel_rfl
 i51 := by kernel_rfl
 i53 := by kernel_rfl
 i75 := by kernel_rfl
 i80 := by kernel_rfl
 i85 := by kernel_rfl
 i127 := by kernel_rfl
 i143 := by kernel_rfl
 i145 := by kernel_rfl
 i167 := by kernel_rfl
 i168 := by kernel_rfl
 i171 := by kernel_rfl
 i173 := by kernel_rfl
 i175 := by kernel_rfl
 i210 := by kernel_rfl
 i212 := by kernel_rfl
 i232 := by kernel_rfl
 i233 := by kernel_rfl
 m15 := by kernel_rfl
 m16 := by kernel_rfl
 m17 := by kernel_rfl
 m18 := by kernel_rfl
 m19 := by kernel_rfl
 c0 := by kernel_rfl
 c2 := by kernel_rfl
 c3 := by kernel_rfl
 c4 := by kernel_rfl
 c5 := by kernel_rfl
 c9 := by kernel_rfl
 c20 := by kernel_rfl
 c21 := by kernel_rfl
 c37 := by kernel_rfl
 c46 := by kernel_rfl
 c51 := by kernel_rfl
 c53 := by kernel_rfl
 c75 := by kernel_rfl
 c80 := by kernel_rfl
 c85 := by kernel_rfl
 c127 := by kernel_rfl
 c143 := by kernel_rfl
 c145 := by kernel_rfl
 c167 := by kernel_rfl
 c168 := by kernel_rfl
 c171 := by kernel_rfl
 c173 := by kernel_rfl
 c175 := by kernel_rfl
 c210 := by kernel_rfl
 c212 := by kernel_rfl
 c213 := by kernel_rfl
 c232 := by kernel_rfl
 c233 := by kernel_rfl }
open Go.RowKit in
theorem Tryd.strconv_ParseInt_10_at64_ok (s : ByteArray) (hmax : s.size ≤ 9223372036854775806) (v : Int) (h : Lib.parseIntB 64 s.data.toList = .ok v) (w : World) :
  Calls Tryd.prog 31 #[.string s, .int .i64 10, .int .i64 64] w fun e w' => e = .returned (.tuple #[.int .i64 v, .nilIface]) ∧ (w' = w ∨ ∃ t, w' = Lib.bytesWorld w 5 t) := Any.strconv_ParseInt_10_at64_ok Tryd.laysC174 s hmax v h w
open Go.RowKit in
theorem Tryd.strconv_ParseInt_10_at64_syntax_var (s : ByteArray) (hlim : s.size ≤ 281474976710656) (h : Lib.parseIntB 64 s.data.toList = Lib.parseIntB 64 []) (tp : TypeId) (p : Value) (w : World) (hvar : w.var? Tryd.prog "strconv.ErrSyntax" = some #[.iface tp p]) :
  Calls Tryd.prog 31 #[.string s, .int .i64 10, .int .i64 64] w fun e w' => ∃ N, e = .returned (.tuple #[.int .i64 (0), .iface 148 (.pointer (some ⟨N, 0, none⟩))]) ∧ w.heap.size ≤ N ∧ w'.heap[N]? = some (.cells #[.string ⟨#[80, 97, 114, 115, 101, 73, 110, 116]⟩, .string s, .iface tp p] 171 (0, 0)) ∧ Below w.heap.size w w' := Any.strconv_ParseInt_10_at64_syntax_var Tryd.laysC174 s hlim (h.trans rfl) tp p w hvar
open Go.RowKit in
theorem Tryd.strconv_ParseInt_10_at64_range_var (s : ByteArray) (hlim : s.size ≤ 281474976710656) (h : Lib.parseIntB 64 s.data.toList = .range) (tp : TypeId) (p : Value) (w : World) (hvar : w.var? Tryd.prog "strconv.ErrRange" = some #[.iface tp p]) :
  Calls Tryd.prog 31 #[.string s, .int .i64 10, .int .i64 64] w fun e w' => ∃ N, e = .returned (.tuple #[.int .i64 (Lib.intSat 64 s.data.toList), .iface 148 (.pointer (some ⟨N, 0, none⟩))]) ∧ w.heap.size ≤ N ∧ w'.heap[N]? = some (.cells #[.string ⟨#[80, 97, 114, 115, 101, 73, 110, 116]⟩, .string s, .iface tp p] 171 (0, 0)) ∧ Below w.heap.size w w' := Any.strconv_ParseInt_10_at64_range_var Tryd.laysC174 s hlim h tp p w hvar
def Tryd.lays146_ren : Go.Shelf.Ren := ⟨fun | 146 => 29 | 221 => 62 | 268 => 84 | 138 => 85 | 143 => 86 | 195 => 105 | 197 => 106 | 218 => 107 | 219 => 96 | 260 => 125 | 217 => 83 | 225 => 118 | 224 => 119 | 267 => 120 | 266 => 104 | 314 => 129 | n => n, fun | 9 => 9 | 31 => 61 | 3 => 3 | 4 => 4 | 0 => 0 | 105 => 168 | 21 => 21 | 5 => 5 | 46 => 119 | 119 => 188 | 139 => 191 | 138 => 190 | 146 => 186 | 51 => 176 | n => n, fun | 1 => 3 | 3 => 4 | 4 => 5 | n => n⟩
theorem Tryd.lays146 : Go.Proofs.Lays.n146 Tryd.prog Tryd.lays146_ren := {
 mixed := by kernel_rfl
 f138 := Tryd.func85.trans (congrArg some (by kernel_rfl))
 f143 := Tryd.func86.trans (congrArg some (by kernel_rfl))
 f146 := Tryd.func29.trans (congrArg some (by kernel_rfl))
 f195 := Tryd.func105.trans (congrArg some (by kernel_rfl))
 f197 := Tryd.func106.trans (congrArg some (by kernel_rfl))
 f217 := Tryd.func83.trans (congrArg some (by kernel_rfl))
 f218 := Tryd.func107.trans (congrArg some (by kernel_rfl))
 f219 := Tryd.func96.trans (congrArg some (by kernel_rfl))
 f221 := Tryd.func62.trans (congrArg some (by kernel_rfl))
 f224 := Tryd.func119.trans (congrArg some (by kernel_rfl))
 f225 := Tryd.func118.trans (congrArg some (by kernel_rfl))
 f260 := Tryd.func125.trans (congrArg some (by kernel_rfl))
 f266 := Tryd.func104.trans (congrArg some (by kernel_rfl))
 f267 := Tryd.func120.trans (congrArg some (by kernel_rfl))
 f268 := Tryd.func84.trans (congrArg some (by kernel_rfl))
 f314 := Tryd.func129.trans (congrArg some (by kernel_rfl))
 t0 := Tryd.underlying0
 a0 := Tryd.isAgg0
 z0 := Tryd.sizeOf0
 v0 := Tryd.zeroValue0
 t3 := Tryd.underlying3
 a3 := Tryd.isAgg3
 z3 := Tryd.sizeOf3
 v3 := Tryd.zeroValue3
 t4 := Tryd.underlying4
 a4 := Tryd.isAgg4
 z4 := Tryd.sizeOf4
 v4 := Tryd.zeroValue4
 t5 := Tryd.underlying5
 a5 := Tryd.isAgg5
 z5 := Tryd.sizeOf5
 v5 := Tryd.zeroValue5
 t9 := Tryd.underlying9
 a9 := Tryd.isAgg9
 z9 := Tryd.sizeOf9
 v9 := Tryd.zeroValue9
 t21 := Tryd.underlying21
 a21 := Tryd.isAgg21
 z21 := Tryd.sizeOf21
 v21 := Tryd.zeroValue21
 t31 := Tryd.underlying61
 a31 := Tryd.isAgg61
 z31 := Tryd.sizeOf61
 v31 := Tryd.zeroValue61
 t46 := Tryd.underlying119
 a46 := Tryd.isAgg119
 z46 := Tryd.sizeOf119
 v46 := Tryd.zeroValue119
 t51 := Tryd.underlying176
 a51 := Tryd.isAgg176
 z51 := Tryd.sizeOf176
 v51 := Tryd.zeroValue176
 t105 := Tryd.underlying168
 a105 := Tryd.isAgg168
 z105 := Tryd.sizeOf168
 v105 := Tryd.zeroValue168
 t119 := Tryd.underlying188
 a119 := Tryd.isAgg188
 z119 := Tryd.sizeOf188
 t138 := Tryd.underlying190
 a138 := Tryd.isAgg190
 z138 := Tryd.sizeOf190
 v138 := Tryd.zeroValue190
 t139 := Tryd.underlying191
 a139 := Tryd.isAgg191
 z139 := Tryd.sizeOf191
 v139 := Tryd.zeroValue191
 t146 := Tryd.underlying186
 a146 := Tryd.isAgg186
 z146 := Tryd.sizeOf186
 v146 := Tryd.zeroValue186
 g1 := by kernel_rfl
 g3 := by kernel_rfl
 g4 := by kernel_rfl }
open Go.RowKit Go.Lib in
theorem Tryd.strings_Split (s sep : ByteArray) (m : Int) (w : World) (hs : s.size < 4294967281) (hm : w.cell? ⟨3, 0, none⟩ = some (.int .i64 m)) (h1 : 1 ≤ sep.size) :
  Calls Tryd.prog 29 #[.string s, .string sep] w fun e w' =>
   e = .returned (.slice (some ⟨w.heap.size, 0, none⟩) (Lib.countB s sep + 1) (Lib.countB s sep + 1)) ∧ w' = w.alloc (.cells ((Lib.splitB sep 0 (Lib.countB s sep) s).map Value.string).toArray 9) := Any.strings_Split Tryd.lays146 (by kernel_rfl) s sep m w hs hm h1
def Tryd.laysM146_ren : Go.Shelf.Ren := ⟨fun | 146 => 29 | 221 => 62 | 268 => 84 | 138 => 85 | 143 => 86 | 195 => 105 | 197 => 106 | 218 => 107 | 219 => 96 | 260 => 125 | 217 => 83 | 225 => 118 | 224 => 119 | 267 => 120 | 266 => 104 | 314 => 129 | n => n, fun | 9 => 9 | 31 => 61 | 3 => 3 | 4 => 4 | 0 => 0 | 105 => 168 | 21 => 21 | 5 => 5 | 46 => 119 | 119 => 188 | 139 => 191 | 138 => 190 | 146 => 186 | 51 => 176 | n => n, fun | 1 => 3 | 3 => 4 | 4 => 5 | n => n⟩
theorem Tryd.laysM146 : Go.Proofs.LaysM.n146 Tryd.prog Tryd.laysM146_ren := {
 mixed := by kernel_rfl
 f138 := Tryd.func85.trans (congrArg some (by kernel_rfl))
 f143 := Tryd.func86.trans (congrArg some (by kernel_rfl))
 f146 := Tryd.func29.trans (congrArg some (by kernel_rfl))
 f195 := Tryd.func105.trans (congrArg some (by kernel_rfl))
 f197 := Tryd.func106.trans (congrArg some (by kernel_rfl))
 f217 := Tryd.func83.trans (congrArg some (by kernel_rfl))
 f218 := Tryd.func107.trans (congrArg some (by kernel_rfl))
 f219 := Tryd.func96.trans (congrArg some (by kernel_rfl))
 f221 := Tryd.func62.trans (congrArg some (by kernel_rfl))
 f224 := Tryd.func119.trans (congrArg some (by kernel_rfl))
 f225 := Tryd.func118.trans (congrArg some (by kernel_rfl))
 f260 := Tryd.func125.trans (congrArg some (by kernel_rfl))
 f266 := Tryd.func104.trans (congrArg some (by kernel_rfl))
 f267 := Tryd.func120.trans (congrArg some (by kernel_rfl))
 f268 := Tryd.func84.trans (congrArg some (by kernel_rfl))
 f314 := Tryd.func129.trans (congrArg some (by kernel_rfl))
 t0 := Tryd.underlying0
 a0 := Tryd.isAgg0
 z0 := Tryd.sizeOf0
 v0 := Tryd.zeroValue0
 t3 := Tryd.underlying3
 a3 := Tryd.isAgg3
 z3 := Tryd.sizeOf3
 v3 := Tryd.zeroValue3
 t4 := Tryd.underlying4
 a4 := Tryd.isAgg4
 z4 := Tryd.sizeOf4
 v4 := Tryd.zeroValue4
 t5 := Tryd.underlying5
 a5 := Tryd.isAgg5
 z5 := Tryd.sizeOf5
 v5 := Tryd.zeroValue5
 t9 := Tryd.underlying9
 a9 := Tryd.isAgg9
 z9 := Tryd.sizeOf9
 v9 := Tryd.zeroValue9
 t21 := Tryd.underlying21
 a21 := Tryd.isAgg21
 z21 := Tryd.sizeOf21
 v21 := Tryd.zeroValue21
 t31 := Tryd.underlying61
 a31 := Tryd.isAgg61
 z31 := Tryd.sizeOf61
 v31 := Tryd.zeroValue61
 t46 := Tryd.underlying119
 a46 := Tryd.isAgg119
 z46 := Tryd.sizeOf119
 v46 := Tryd.zeroValue119
 t51 := Tryd.underlying176
 a51 := Tryd.isAgg176
 z51 := Tryd.sizeOf176
 v51 := Tryd.zeroValue176
 t105 := Tryd.underlying168
 a105 := Tryd.isAgg168
 z105 := Tryd.sizeOf168
 v105 := Tryd.zeroValue168
 t119 := Tryd.underlying188
 a119 := Tryd.isAgg188
 z119 := Tryd.sizeOf188
 t138 := Tryd.underlying190
 a138 := Tryd.isAgg190
 z138 := Tryd.sizeOf190
 v138 := Tryd.zeroValue190
 t139 := Tryd.underlying191
 a139 := Tryd.isAgg191
 z139 := Tryd.sizeOf191
 v139 := Tryd.zeroValue191
 t146 := Tryd.underlying186
 a146 := Tryd.isAgg186
 z146 := Tryd.sizeOf186
 v146 := Tryd.zeroValue186
 g1 := by kernel_rfl
 g3 := by kernel_rfl
 g4 := by kernel_rfl
 i0 := by kernel_rfl
 i3 := by kernel_rfl
 i4 := by kernel_rfl
 i5 := by kernel_rfl
 i9 := by kernel_rfl
 i21 := by kernel_rfl
 i31 := by kernel_rfl
 i46 := by kernel_rfl
 i51 := by kernel_rfl
 i105 := by kernel_rfl
 i138 := by kernel_rfl
 i139 := by kernel_rfl
 i146 := by kernel_rfl
 m1 := by kernel_rfl
 s1_3 := fun w h => Go.Proofs.cell_of_shapedOpen_int (zero := #[.int .i64 0]) (t := 3) h (of_decide_eq_true (by kernel_rfl)) (by kernel_rfl) rfl (by kernel_rfl) (by kernel_rfl) Tryd.underlying3
 m3 := by kernel_rfl
 m4 := by kernel_rfl }
end Go.Proofs
end
section
--@L
/- The world of the witness, in which the listed variables hold what their initialisers lay; and what the list gives of a world. -/
namespace Go.Proofs.YtkjnbafdmjakgaaDoor
open Go.ChangeShapes Go.WideShapes Go.ChangeAt Go.RowKit
theorem own : ownKnob Tryd.prog.godebug = none := by kernel_rfl
theorem gPow : Tryd.prog.globalNamed "internal/strconv.uint64pow10" = some 2 := by kernel_rfl
theorem gPowType : (Tryd.prog.globals[2]?).map (·.type) = some 175 := by kernel_rfl
theorem cellsPow : Tryd.prog.cellsOf 175 = 20 := by kernel_rfl
theorem cells123 : Tryd.prog.cellsOf 123 = 1 := by kernel_rfl
theorem gSyn : Tryd.prog.globalNamed "strconv.ErrSyntax" = some 0 := by kernel_rfl
theorem gSynType : (Tryd.prog.globals[0]?).map (·.type) = some 68 := by kernel_rfl
theorem gRng : Tryd.prog.globalNamed "strconv.ErrRange" = some 1 := by kernel_rfl
theorem gRngType : (Tryd.prog.globals[1]?).map (·.type) = some 68 := by kernel_rfl
noncomputable def tab2 : List Value := [.int .u64 1, .int .u64 10, .int .u64 100, .int .u64 1000, .int .u64 10000, .int .u64 100000, .int .u64 1000000, .int .u64 10000000, .int .u64 100000000, .int .u64 1000000000, .int .u64 10000000000, .int .u64 100000000000, .int .u64 1000000000000, .int .u64 10000000000000, .int .u64 100000000000000, .int .u64 1000000000000000, .int .u64 10000000000000000, .int .u64 100000000000000000, .int .u64 1000000000000000000, .int .u64 10000000000000000000]
noncomputable def tab4 : List Value := [.int .u8 240, .int .u8 240, .int .u8 240, .int .u8 240, .int .u8 240, .int .u8 240, .int .u8 240, .int .u8 240, .int .u8 240, .int .u8 240, .int .u8 240, .int .u8 240, .int .u8 240, .int .u8 240, .int .u8 240, .int .u8 240, .int .u8 240, .int .u8 240, .int .u8 240, .int .u8 240, .int .u8 240, .int .u8 240, .int .u8 240, .int .u8 240, .int .u8 240, .int .u8 240, .int .u8 240, .int .u8 240, .int .u8 240, .int .u8 240, .int .u8 240, .int .u8 240, .int .u8 240, .int .u8 240, .int .u8 240, .int .u8 240, .int .u8 240, .int .u8 240, .int .u8 240, .int .u8 240, .int .u8 240, .int .u8 240, .int .u8 240, .int .u8 240, .int .u8 240, .int .u8 240, .int .u8 240, .int .u8 240, .int .u8 240, .int .u8 240, .int .u8 240, .int .u8 240, .int .u8 240, .int .u8 240, .int .u8 240, .int .u8 240, .int .u8 240, .int .u8 240, .int .u8 240, .int .u8 240, .int .u8 240, .int .u8 240, .int .u8 240, .int .u8 240, .int .u8 240, .int .u8 240, .int .u8 240, .int .u8 240, .int .u8 240, .int .u8 240, .int .u8 240, .int .u8 240, .int .u8 240, .int .u8 240, .int .u8 240, .int .u8 240, .int .u8 240, .int .u8 240, .int .u8 240, .int .u8 240, .int .u8 240, .int .u8 240, .int .u8 240, .int .u8 240, .int .u8 240, .int .u8 240, .int .u8 240, .int .u8 240, .int .u8 240, .int .u8 240, .int .u8 240, .int .u8 240, .int .u8 240, .int .u8 240, .int .u8 240, .int .u8 240, .int .u8 240, .int .u8 240, .int .u8 240, .int .u8 240, .int .u8 240, .int .u8 240, .int .u8 240, .int .u8 240, .int .u8 240, .int .u8 240, .int .u8 240, .int .u8 240, .int .u8 240, .int .u8 240, .int .u8 240, .int .u8 240, .int .u8 240, .int .u8 240, .int .u8 240, .int .u8 240, .int .u8 240, .int .u8 240, .int .u8 240, .int .u8 240, .int .u8 240, .int .u8 240, .int .u8 240, .int .u8 240, .int .u8 240, .int .u8 240, .int .u8 240, .int .u8 240, .int .u8 241, .int .u8 241, .int .u8 241, .int .u8 241, .int .u8 241, .int .u8 241, .int .u8 241, .int .u8 241, .int .u8 241, .int .u8 241, .int .u8 241, .int .u8 241, .int .u8 241, .int .u8 241, .int .u8 241, .int .u8 241, .int .u8 241, .int .u8 241, .int .u8 241, .int .u8 241, .int .u8 241, .int .u8 241, .int .u8 241, .int .u8 241, .int .u8 241, .int .u8 241, .int .u8 241, .int .u8 241, .int .u8 241, .int .u8 241, .int .u8 241, .int .u8 241, .int .u8 241, .int .u8 241, .int .u8 241, .int .u8 241, .int .u8 241, .int .u8 241, .int .u8 241, .int .u8 241, .int .u8 241, .int .u8 241, .int .u8 241, .int .u8 241, .int .u8 241, .int .u8 241, .int .u8 241, .int .u8 241, .int .u8 241, .int .u8 241, .int .u8 241, .int .u8 241, .int .u8 241, .int .u8 241, .int .u8 241, .int .u8 241, .int .u8 241, .int .u8 241, .int .u8 241, .int .u8 241, .int .u8 241, .int .u8 241, .int .u8 241, .int .u8 241, .int .u8 241, .int .u8 241, .int .u8 2, .int .u8 2, .int .u8 2, .int .u8 2, .int .u8 2, .int .u8 2, .int .u8 2, .int .u8 2, .int .u8 2, .int .u8 2, .int .u8 2, .int .u8 2, .int .u8 2, .int .u8 2, .int .u8 2, .int .u8 2, .int .u8 2, .int .u8 2, .int .u8 2, .int .u8 2, .int .u8 2, .int .u8 2, .int .u8 2, .int .u8 2, .int .u8 2, .int .u8 2, .int .u8 2, .int .u8 2, .int .u8 2, .int .u8 2, .int .u8 19, .int .u8 3, .int .u8 3, .int .u8 3, .int .u8 3, .int .u8 3, .int .u8 3, .int .u8 3, .int .u8 3, .int .u8 3, .int .u8 3, .int .u8 3, .int .u8 3, .int .u8 35, .int .u8 3, .int .u8 3, .int .u8 52, .int .u8 4, .int .u8 4, .int .u8 4, .int .u8 68, .int .u8 241, .int .u8 241, .int .u8 241, .int .u8 241, .int .u8 241, .int .u8 241, .int .u8 241, .int .u8 241, .int .u8 241, .int .u8 241, .int .u8 241]
noncomputable def tab5 : List Value := [.int .u8 128, .int .u8 191, .int .u8 160, .int .u8 191, .int .u8 128, .int .u8 159, .int .u8 144, .int .u8 191, .int .u8 128, .int .u8 143, .int .u8 0, .int .u8 0, .int .u8 0, .int .u8 0, .int .u8 0, .int .u8 0, .int .u8 0, .int .u8 0, .int .u8 0, .int .u8 0, .int .u8 0, .int .u8 0, .int .u8 0, .int .u8 0, .int .u8 0, .int .u8 0, .int .u8 0, .int .u8 0, .int .u8 0, .int .u8 0, .int .u8 0, .int .u8 0]
noncomputable def tab6 : List Value := [.int .u8 0, .int .u8 1, .int .u8 28, .int .u8 2, .int .u8 29, .int .u8 14, .int .u8 24, .int .u8 3, .int .u8 30, .int .u8 22, .int .u8 20, .int .u8 15, .int .u8 25, .int .u8 17, .int .u8 4, .int .u8 8, .int .u8 31, .int .u8 27, .int .u8 13, .int .u8 23, .int .u8 21, .int .u8 19, .int .u8 16, .int .u8 7, .int .u8 26, .int .u8 12, .int .u8 18, .int .u8 6, .int .u8 11, .int .u8 5, .int .u8 10, .int .u8 9]
noncomputable def tab7 : List Value := [.int .u8 0, .int .u8 1, .int .u8 56, .int .u8 2, .int .u8 57, .int .u8 49, .int .u8 28, .int .u8 3, .int .u8 61, .int .u8 58, .int .u8 42, .int .u8 50, .int .u8 38, .int .u8 29, .int .u8 17, .int .u8 4, .int .u8 62, .int .u8 47, .int .u8 59, .int .u8 36, .int .u8 45, .int .u8 43, .int .u8 51, .int .u8 22, .int .u8 53, .int .u8 39, .int .u8 33, .int .u8 30, .int .u8 24, .int .u8 18, .int .u8 12, .int .u8 5, .int .u8 63, .int .u8 55, .int .u8 48, .int .u8 27, .int .u8 60, .int .u8 41, .int .u8 37, .int .u8 16, .int .u8 46, .int .u8 35, .int .u8 44, .int .u8 21, .int .u8 52, .int .u8 32, .int .u8 23, .int .u8 11, .int .u8 54, .int .u8 26, .int .u8 40, .int .u8 15, .int .u8 34, .int .u8 20, .int .u8 31, .int .u8 10, .int .u8 25, .int .u8 14, .int .u8 19, .int .u8 9, .int .u8 13, .int .u8 8, .int .u8 7, .int .u8 6]
noncomputable def laidHeap (os : Os) : Array Obj :=
 (([.cells #[.iface 182 (.pointer (some ⟨14, 0, none⟩))] 68, .cells #[.iface 182 (.pointer (some ⟨13, 0, none⟩))] 68, .cells tab2.toArray 175, .cells #[.int .i64 0] 3, .cells tab4.toArray 188, .cells tab5.toArray 191, .cells tab6.toArray 192, .cells tab7.toArray 193] : List Obj) ++
  ((World.settled Tryd.prog os).heap.toList.drop 8 ++
  ([.cells #[.string ⟨#[118, 97, 108, 117, 101, 32, 111, 117, 116, 32, 111, 102, 32, 114, 97, 110, 103, 101]⟩] 184,
  .cells #[.string ⟨#[105, 110, 118, 97, 108, 105, 100, 32, 115, 121, 110, 116, 97, 120]⟩] 184] : List Obj))).toArray
noncomputable def laidWorld (os : Os) : World := { World.holding Tryd.prog os ⟨#[], #[], []⟩ with heap := laidHeap os }
section
variable {H : Type} {enc : TypeId × Value → H} {P : Program}
theorem post_of_below {f : Func} {s : ChangeSpec} {apart fresh handsOn again : Bool} {W W' : World} {args : Array Value} {v : Value} {ds gs : List (DataW H)} {before pa pv : List MemPlace}
  (hW : DataW.Whole enc P f.params.toList s.vars apart W args.toList ds gs before)
  (hres : ∀ (b : Nat) (sp : Nat → Bool) (hd : Bool), DataW.TrodAll enc P W' b sp hd f.resultTypes.toList (v.resultList f.resultTypes.size) (s.fn H (ds ++ gs)).results [])
  (hargs : ∀ sp : Nat → Bool, (∀ p ∈ before, sp p.block = true) → DataW.TrodAll enc P W' 0 sp true f.params.toList args.toList (s.fn H (ds ++ gs)).args pa)
  (hvars : ∀ sp : Nat → Bool, (∀ p ∈ before, sp p.block = true) → DataW.TrodVars enc P W' sp s.vars (s.fn H (ds ++ gs)).vars pv)
  (hps : before = pa ++ pv) (hb : Below W.heap.size W W')
  (hok : ∀ (j : Nat) (t : TypeId) (r : Value), f.resultTypes[j]? = some t → (v.resultList f.resultTypes.size)[j]? = some r → Value.okWide P W' .any 0 t r) :
  s.post enc P f apart fresh handsOn again W args v W' := by
 have hlt : ∀ p ∈ before, p.block < W.heap.size := fun p hp => hW.lt p hp
 have hold : ∀ p ∈ before, (fun b => decide (b < W.heap.size)) p.block = true := fun p hp => by simpa using hlt p hp
 refine ⟨ds, gs, before, [], pa, pv, hW, hres _ _ _, hargs _ hold, hvars _ hold, World.keptBut_mono (fun p hp => ⟨hp, ?_⟩) (hb.frame (· ∈ before)), fun _ => ?_⟩
 ·rw [hps, List.mem_append] at hp
  exact Or.inr hp
 ·obtain ⟨_, _, _, _, _, hz, hn⟩ := hW
  refine ⟨hok, _, _, ([] ++ pa) ++ pv, ⟨[] ++ pa, pv, trodAll_append (hargs _ (fun _ _ => rfl)) (hres _ _ _), hvars _ (fun _ _ => rfl), rfl, ?_, ?_⟩, ?_⟩
  ·intro b off hp
   have hin : MemPlace.cell b off ∈ before := by rw [hps]; simpa using hp
   rw [hb.frozen (hlt _ hin)]
   exact hz b off hin
  ·intro ha
   have := hn ha
   rw [hps] at this
   simpa using this
  ·intro p hp _
   rw [hps]
   simpa using hp
end
theorem pow_of {W : World} {l : List (String × DataW Unit)} (h : laidMet Tryd.prog l W) (hm : (("internal/strconv.uint64pow10", Rows.laid_internal_strconv_uint64pow10) : String × DataW Unit) ∈ l) : Lib.TabIs Tryd.prog W "internal/strconv.uint64pow10" .u64 Lib.pow10Tab := by
 rw [show (Rows.laid_internal_strconv_uint64pow10 : DataW Unit) = Lib.tabData .u64 Lib.pow10Tab by kernel_rfl] at hm
 obtain ⟨g', t', cs, fuel, p, hg', ht', hvar, hd⟩ := Lib.laidMet.reads h hm
 obtain rfl := Option.some.inj (gPow.symm.trans hg')
 obtain rfl := Option.some.inj (gPowType.symm.trans ht')
 unfold Lib.TabIs
 rw [hvar, ← Lib.cells_of_tab Tryd.underlying175 Tryd.underlying123 cells123 cellsPow hd]
theorem syn_of {W : World} {l : List (String × DataW Unit)} (h : laidMet Tryd.prog l W) (hm : (("strconv.ErrSyntax", Rows.laid_strconv_ErrSyntax) : String × DataW Unit) ∈ l) : ∃ tp q, W.var? Tryd.prog "strconv.ErrSyntax" = some #[.iface tp q] := by
 obtain ⟨g', t', cs, fuel, p, hg', ht', hvar, hd⟩ := Lib.laidMet.reads h hm
 obtain rfl := Option.some.inj (gSyn.symm.trans hg')
 obtain rfl := Option.some.inj (gSynType.symm.trans ht')
 obtain ⟨_, u, v, hc, _, _⟩ := iface_of_trod Tryd.underlying68 hd
 exact ⟨u, v, hvar.trans (congrArg some (Array.toList_inj.1 hc))⟩
theorem rng_of {W : World} {l : List (String × DataW Unit)} (h : laidMet Tryd.prog l W) (hm : (("strconv.ErrRange", Rows.laid_strconv_ErrRange) : String × DataW Unit) ∈ l) : ∃ tp q, W.var? Tryd.prog "strconv.ErrRange" = some #[.iface tp q] := by
 obtain ⟨g', t', cs, fuel, p, hg', ht', hvar, hd⟩ := Lib.laidMet.reads h hm
 obtain rfl := Option.some.inj (gRng.symm.trans hg')
 obtain rfl := Option.some.inj (gRngType.symm.trans ht')
 obtain ⟨_, u, v, hc, _, _⟩ := iface_of_trod Tryd.underlying68 hd
 exact ⟨u, v, hvar.trans (congrArg some (Array.toList_inj.1 hc))⟩
theorem max_of {W : World} (h : W.ShapedOpen Tryd.prog) : ∃ m, W.cell? ⟨3, 0, none⟩ = some (.int .i64 m) := Tryd.laysM146.s1_3 W h
/-- Places that are apart: each one's bit is new in the mask of those ahead. -/
def apartB : Nat → List MemPlace → Bool
 | _, [] => true
 | m, .cell b o :: r => Nat.ble o 511 && (Nat.beq (Nat.land (Nat.shiftRight m (b * 512 + o)) 1) 0 && apartB (Nat.lor m (Nat.shiftLeft 1 (b * 512 + o))) r)
 | _, _ :: _ => false
theorem bit_of {m c : Nat} (h : Nat.beq (Nat.land (Nat.shiftRight m c) 1) 0 = true) : m.testBit c = false := by
 have h1 := Nat.eq_of_beq_eq_true h
 show (1 &&& (m >>> c) != 0) = false
 rw [Nat.and_comm]
 show ((m >>> c) &&& 1 != 0) = false
 rw [show (m >>> c) &&& 1 = 0 from h1]
 rfl
theorem apart_of : ∀ (l : List MemPlace) (m : Nat), apartB m l = true → l.Nodup ∧ ∀ b o, MemPlace.cell b o ∈ l → o ≤ 511 ∧ m.testBit (b * 512 + o) = false
 | [], _, _ => ⟨List.nodup_nil, fun _ _ h => by cases h⟩
 | .map _ :: _, _, h => by simp [apartB] at h
 | .cell b o :: r, m, h => by
  simp only [apartB, Bool.and_eq_true] at h
  obtain ⟨h1, h2, h3⟩ := h
  have ho := Nat.le_of_ble_eq_true h1
  obtain ⟨h4, h5⟩ := apart_of r _ h3
  have hself : (Nat.lor m (Nat.shiftLeft 1 (b * 512 + o))).testBit (b * 512 + o) = true := by
   show (m ||| 1 <<< (b * 512 + o)).testBit (b * 512 + o) = true
   simp [Nat.testBit_or, Nat.testBit_shiftLeft]
  refine ⟨List.nodup_cons.2 ⟨fun hm => ?_, h4⟩, fun b' o' hm => ?_⟩
  ·have := (h5 b o hm).2
   rw [hself] at this
   cases this
  ·rcases List.mem_cons.1 hm with e | hm
   ·injection e with e1 e2
    subst e1 e2
    exact ⟨ho, bit_of h2⟩
   ·obtain ⟨h6, h7⟩ := h5 b' o' hm
    refine ⟨h6, ?_⟩
    have h8 : (m ||| 1 <<< (b * 512 + o)).testBit (b' * 512 + o') = false := h7
    rw [Nat.testBit_or, Bool.or_eq_false_iff] at h8
    exact h8.1
theorem laid_of_run {P : Program} {w : World} {l : List (String × DataW Unit)} (fuel : Nat) (h : (DataW.laidRun P w fuel (l.map (·.1))).map (·.1) = some l)
  (hr : (DataW.laidRun P w fuel (l.map (·.1))).map (fun x => apartB 0 x.2 && laidRowsB P w x.2) = some true) : laidMet P l w := by
 cases hx : DataW.laidRun P w fuel (l.map (·.1)) with
 | none => simp [hx] at h
 | some x =>
  obtain ⟨l', ps⟩ := x
  simp only [hx, Option.map_some, Option.some.injEq] at h hr
  subst h
  simp only [Bool.and_eq_true] at hr
  exact laidMet_of_run fuel hx (decide_eq_true (apart_of _ _ hr.1).1) hr.2
theorem laid_metT (os : Os) (args : Array Value) : laidMet Tryd.prog Rows.panesTextsRow.laid ((laidWorld os).forCall (fun _ _ => 0) ⟨#[], args, []⟩).memory :=
 laid_of_run 8 (by kernel_rfl) (by kernel_rfl)
end Go.Proofs.YtkjnbafdmjakgaaDoor
end
section
--@NA
/- Numbers and quoted keys in plain Lean: what both readings take. -/
namespace Go.Proofs.YtkjnbafdmjakgaaDoor
open Go.Lib
theorem chr (d : Nat) (h : d < 10) : (UInt8.ofNat (48 + d)).toNat = 48 + d := by simp [UInt8.toNat_ofNat']; omega
/-! ### numbers -/
theorem parse_dec : ∀ (m u : Nat) (r : List UInt8), u ≤ m → u < 18446744073709551616 → parseUintM (2 ^ 64 - 1) 0 (decDigits u ++ r) = parseUintM (2 ^ 64 - 1) u r
 | m, u, r, hm, hb => by
  by_cases h : u < 10
  ·rw [decDigits_one h, List.singleton_append, parseUintM, chr u h, if_pos (by omega), if_neg (by omega), if_neg (by omega), Nat.zero_mul, Nat.zero_add, show 48 + u - 48 = u by omega]
  ·match m with
   | 0 => omega
   | m + 1 =>
    rw [decDigits, dif_neg h, List.append_assoc, parse_dec m (u / 10) _ (by omega) (by omega), List.singleton_append, parseUintM, chr (u % 10) (by omega), if_pos (by omega), if_neg (by omega), if_neg (by omega),
     show u / 10 * 10 + (48 + u % 10 - 48) = u by omega]
theorem dec_first (u : Nat) : ∃ c r, decDigits u = c :: r ∧ c.toNat ≠ 43 ∧ c.toNat ≠ 45 := by
 induction u using Nat.strongRecOn with
 | _ u ih =>
  by_cases h : u < 10
  ·rw [decDigits_one h]
   exact ⟨_, [], rfl, by rw [chr u h]; omega, by rw [chr u h]; omega⟩
  ·obtain ⟨c, r, e, h1, h2⟩ := ih (u / 10) (by omega)
   rw [decDigits, dif_neg h, e]
   exact ⟨c, _, rfl, h1, h2⟩
theorem parse_mag {u : Nat} (h : u < 18446744073709551616) : parseUintB 64 (decDigits u) = .ok u := by
 obtain ⟨c, r, e, _, _⟩ := dec_first u
 unfold parseUintB
 rw [if_neg (by rw [e]; simp)]
 have := parse_dec u u [] (Nat.le_refl _) h
 rw [List.append_nil] at this
 rw [this]
 rfl
def in64 (x : Int) : Prop := -9223372036854775808 ≤ x ∧ x ≤ 9223372036854775807
theorem parse_itoa {x : Int} (h : in64 x) : parseIntB 64 (itoa x) = .ok x := by
 obtain ⟨h1, h2⟩ := h
 by_cases hx : x < 0
 ·unfold itoa
  rw [if_pos hx, parseIntB_minus, parse_mag (by omega)]
  unfold signedC
  simp only
  rw [if_neg (by omega), show -((x.natAbs : Nat) : Int) = x by omega]
 ·unfold itoa
  rw [if_neg hx]
  obtain ⟨c, r, e, h43, h45⟩ := dec_first x.toNat
  have hp := parse_mag (u := x.toNat) (by omega)
  rw [e] at hp ⊢
  rw [parseIntB_plain 64 c r h43 h45, hp]
  unfold signlessC
  simp only
  rw [if_neg (by omega), Int.toNat_of_nonneg (by omega)]
theorem parse_in {s : List UInt8} {x : Int} (h : parseIntB 64 s = .ok x) : in64 x := by
 have hc : ∀ (o : NumEnd Nat), signlessC (2 ^ (64 - 1)) o = .ok x → in64 x := fun o ho => by
  unfold signlessC at ho
  split at ho <;> try (cases ho; done)
  rename_i u
  split at ho
  ·cases ho
  ·injection ho with ho
   unfold in64
   omega
 have hs : ∀ (o : NumEnd Nat), signedC (2 ^ (64 - 1)) o = .ok x → in64 x := fun o ho => by
  unfold signedC at ho
  split at ho <;> try (cases ho; done)
  rename_i u
  split at ho
  ·cases ho
  ·injection ho with ho
   unfold in64
   omega
 cases s with
 | nil => cases h
 | cons c r =>
  by_cases h43 : c.toNat = 43
  ·have : c = 43 := UInt8.toNat_inj.1 h43
   subst this
   rw [parseIntB_plus] at h
   exact hc _ h
  ·by_cases h45 : c.toNat = 45
   ·have : c = 45 := UInt8.toNat_inj.1 h45
    subst this
    rw [parseIntB_minus] at h
    exact hs _ h
   ·rw [parseIntB_plain 64 c r h43 h45] at h
    exact hc _ h
/-- What the kit takes as a number. -/
def numK (s : List UInt8) : Option Int := match parseIntB 64 s with
 | .ok n => if itoa n = s then some n else none
 | _ => none
theorem numK_iff (s : List UInt8) (x : Int) : numK s = some x ↔ s = itoa x ∧ in64 x := by
 unfold numK
 constructor
 ·intro h
  split at h
  ·rename_i n hn
   split at h
   ·rename_i he
    injection h with h
    subst h
    exact ⟨he.symm, parse_in hn⟩
   ·cases h
  ·cases h
 ·rintro ⟨rfl, h⟩
  rw [parse_itoa h]
  simp
theorem wrap_id {x : Int} (h : in64 x) : IntKind.i64.wrap x = x := by
 unfold in64 at h
 simp only [IntKind.wrap, IntKind.bits, IntKind.signed]
 simp
 omega
/-! ### quoted keys -/
def hexB (n : Nat) : UInt8 := if n < 10 then UInt8.ofNat (48 + n) else UInt8.ofNat (87 + n)
def plainC (c : UInt8) : Bool := decide (32 ≤ c.toNat) && (decide (c.toNat ≤ 126) && (decide (c.toNat ≠ 34) && decide (c.toNat ≠ 92)))
def q1 (c : UInt8) : List UInt8 := if plainC c then [c] else [92, 120, hexB (c.toNat / 16), hexB (c.toNat % 16)]
/-- A key quoted. -/
def quoteB (k : List UInt8) : List UInt8 := 34 :: (k.flatMap q1 ++ [34])
def dg (c : UInt8) : Option Nat := if 48 ≤ c.toNat ∧ c.toNat ≤ 57 then some (c.toNat - 48) else if 97 ≤ c.toNat ∧ c.toNat ≤ 102 then some (c.toNat - 87) else none
/-- The kit's reading of what stands behind the first quote. -/
def unq : List UInt8 → List UInt8 → Option (List UInt8 × List UInt8)
 | _, [] => none
 | b, c :: s => if c = 34 then some (b, s) else if c = 92 then
   (match s with
    | x :: h :: l :: r => if x = 120 then (match dg h, dg l with
     | some i, some j => if plainC (UInt8.ofNat (16 * i + j)) then none else unq (b ++ [UInt8.ofNat (16 * i + j)]) r
     | _, _ => none) else none
    | _ => none)
  else if c.toNat < 32 ∨ 126 < c.toNat then none else unq (b ++ [c]) s
theorem unq_cons (b : List UInt8) (c : UInt8) (s : List UInt8) : unq b (c :: s) = if c = 34 then some (b, s) else if c = 92 then
   (match s with
    | x :: h :: l :: r => if x = 120 then (match dg h, dg l with
     | some i, some j => if plainC (UInt8.ofNat (16 * i + j)) then none else unq (b ++ [UInt8.ofNat (16 * i + j)]) r
     | _, _ => none) else none
    | _ => none)
  else if c.toNat < 32 ∨ 126 < c.toNat then none else unq (b ++ [c]) s := by
 match s with
 | [] => rfl
 | [_] => rfl
 | [_, _] => rfl
 | _ :: _ :: _ :: _ => rfl
/-- One plain step. -/
theorem unq_step (b : List UInt8) (c : UInt8) (s : List UInt8) (h34 : c ≠ 34) (h92 : c ≠ 92) (hc : ¬ (c.toNat < 32 ∨ 126 < c.toNat)) : unq b (c :: s) = unq (b ++ [c]) s := by
 rw [unq_cons, if_neg h34, if_neg h92, if_neg hc]
theorem unq_end (b s : List UInt8) : unq b (34 :: s) = some (b, s) := by
 rw [unq_cons, if_pos rfl]
theorem unq_esc (b : List UInt8) (x h l : UInt8) (r : List UInt8) : unq b (92 :: x :: h :: l :: r) = if x = 120 then (match dg h, dg l with
  | some i, some j => if plainC (UInt8.ofNat (16 * i + j)) then none else unq (b ++ [UInt8.ofNat (16 * i + j)]) r
  | _, _ => none) else none := by
 rw [unq_cons, if_neg (by decide), if_pos rfl]
theorem dg_hex : ∀ i : Fin 16, dg (hexB i.val) = some i.val := by decide +kernel
theorem dg_lt {c : UInt8} {i : Nat} (h : dg c = some i) : i < 16 ∧ hexB i = c := by
 unfold dg at h
 split at h
 ·injection h with h
  subst h
  refine ⟨by omega, ?_⟩
  unfold hexB
  rw [if_pos (by omega)]
  apply UInt8.toNat_inj.1
  simp [UInt8.toNat_ofNat']
  omega
 ·split at h
  ·injection h with h
   subst h
   refine ⟨by omega, ?_⟩
   unfold hexB
   rw [if_neg (by omega)]
   apply UInt8.toNat_inj.1
   simp [UInt8.toNat_ofNat']
   omega
  ·cases h
theorem byte_two (c : UInt8) : UInt8.ofNat (16 * (c.toNat / 16) + c.toNat % 16) = c := by
 rw [Nat.div_add_mod]
 simp
theorem plain_of {c : UInt8} (h : plainC c = true) : c ≠ 34 ∧ c ≠ 92 ∧ ¬ (c.toNat < 32 ∨ 126 < c.toNat) := by
 simp only [plainC, Bool.and_eq_true, decide_eq_true_eq] at h
 obtain ⟨h1, h2, h3, h4⟩ := h
 refine ⟨fun e => h3 (by rw [e]; rfl), fun e => h4 (by rw [e]; rfl), by omega⟩
theorem unq_quote : ∀ (k b r : List UInt8), unq b (k.flatMap q1 ++ 34 :: r) = some (b ++ k, r)
 | [], b, r => by rw [List.flatMap_nil, List.nil_append, unq_end, List.append_nil]
 | c :: k, b, r => by
  rw [List.flatMap_cons, List.append_assoc]
  by_cases hp : plainC c = true
  ·obtain ⟨h1, h2, h3⟩ := plain_of hp
   rw [show q1 c = [c] by unfold q1; rw [if_pos hp], List.singleton_append, unq_step _ _ _ h1 h2 h3, unq_quote k, List.append_assoc]
   rfl
  ·have h1 := dg_hex ⟨c.toNat / 16, by have := c.toNat_lt; omega⟩
   have h2 := dg_hex ⟨c.toNat % 16, by omega⟩
   simp only at h1 h2
   rw [show q1 c = [92, 120, hexB (c.toNat / 16), hexB (c.toNat % 16)] by unfold q1; rw [if_neg hp]]
   simp only [List.cons_append, List.nil_append]
   rw [unq_esc, if_pos rfl, h1, h2]
   simp only
   rw [byte_two, if_neg hp, unq_quote k, List.append_assoc]
   rfl
theorem unq_inv : ∀ (m : Nat) (s b b' r : List UInt8), s.length ≤ m → unq b s = some (b', r) → ∃ k, b' = b ++ k ∧ s = k.flatMap q1 ++ 34 :: r
 | _, [], b, b', r, _, h => by simp [unq] at h
 | 0, c :: s, b, b', r, hm, _ => by simp at hm
 | m + 1, c :: s, b, b', r, hm, h => by
  have hs : s.length ≤ m := by simpa using hm
  by_cases h34 : c = 34
  ·subst h34
   rw [unq_end] at h
   injection h with h
   injection h with h1 h2
   subst h1 h2
   exact ⟨[], by simp, rfl⟩
  ·by_cases h92 : c = 92
   ·subst h92
    match s, hs with
    | [], _ => simp [unq] at h
    | [x], _ => simp [unq] at h
    | [x, y], _ => simp [unq] at h
    | x :: p :: l :: r', hs =>
     rw [unq_esc] at h
     split at h
     ·rename_i hx
      subst hx
      split at h
      ·rename_i i j hi hj
       split at h
       ·cases h
       ·rename_i hpl
        obtain ⟨k, hk, he⟩ := unq_inv m r' _ _ _ (by simp at hs; omega) h
        obtain ⟨hi1, hi2⟩ := dg_lt hi
        obtain ⟨hj1, hj2⟩ := dg_lt hj
        have hn : (UInt8.ofNat (16 * i + j)).toNat = 16 * i + j := by simp [UInt8.toNat_ofNat']; omega
        refine ⟨UInt8.ofNat (16 * i + j) :: k, by rw [hk, List.append_assoc]; rfl, ?_⟩
        rw [List.flatMap_cons, show q1 (UInt8.ofNat (16 * i + j)) = [92, 120, p, l] by
         unfold q1
         rw [if_neg hpl, hn, show (16 * i + j) / 16 = i by omega, show (16 * i + j) % 16 = j by omega, hi2, hj2], he]
        rfl
      ·cases h
     ·cases h
   ·by_cases hc : c.toNat < 32 ∨ 126 < c.toNat
    ·rw [unq_cons, if_neg h34, if_neg h92, if_pos hc] at h
     cases h
    ·rw [unq_step b c s h34 h92 hc] at h
     obtain ⟨k, hk, he⟩ := unq_inv m s _ _ _ hs h
     have hp : plainC c = true := by
      simp only [plainC, Bool.and_eq_true, decide_eq_true_eq]
      refine ⟨by omega, by omega, fun e => h34 (UInt8.toNat_inj.1 e), fun e => h92 (UInt8.toNat_inj.1 e)⟩
     refine ⟨c :: k, by rw [hk, List.append_assoc]; rfl, ?_⟩
     rw [List.flatMap_cons, show q1 c = [c] by unfold q1; rw [if_pos hp], he]
     rfl
/-- What the kit reads of a text: the key, and what stands behind. -/
def keyK : List UInt8 → Option (List UInt8 × List UInt8)
 | 34 :: s => unq [] s
 | _ => none
theorem keyK_iff (s k r : List UInt8) : keyK s = some (k, r) ↔ s = quoteB k ++ r := by
 constructor
 ·intro h
  unfold keyK at h
  split at h
  ·rename_i s'
   obtain ⟨k', hk, he⟩ := unq_inv s'.length s' [] k r (Nat.le_refl _) h
   rw [List.nil_append] at hk
   subst hk
   rw [he]
   simp [quoteB]
  ·cases h
 ·rintro rfl
  have := unq_quote k [] r
  rw [List.nil_append] at this
  simp only [quoteB, List.cons_append, List.append_assoc, List.nil_append, keyK]
  exact this
end Go.Proofs.YtkjnbafdmjakgaaDoor
end
