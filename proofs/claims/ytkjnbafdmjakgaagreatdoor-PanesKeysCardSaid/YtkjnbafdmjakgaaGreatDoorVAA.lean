/- Joined texts: Shelf, L, YL, NA. -/
import Derived.Shelf.Small.Strs
import Derived.Shelf.Utf8.RuneCount
import Derived.Shelf.Strconv.Itoa0
import Derived.Shelf.Strconv.Itoa1
import Derived.Shelf.LaysM
import Derived.Shelf.Strconv.Itoa2
import Derived.Shelf.Strconv.Itoa3
import Derived.Shelf.Strconv.Itoa4
import Derived.Shelf.Strconv.ParseIntEmpty
import Derived.Shelf.Strconv.Clone
import Derived.Shelf.Strconv.SyntaxError
import Derived.Shelf.LaysC
import Derived.Shelf.Strconv.ToError
import Derived.Shelf.Strconv.Lower
import Derived.Shelf.Strconv.ParseUint10
import Derived.Shelf.Strconv.ParseUint10Empty
import Derived.Shelf.Strconv.ParseUint10Any
import Derived.Shelf.Strconv.ParseInt10
import Derived.Shelf.Strconv.RangeError
import Derived.Shelf.Strconv.ToErrorRange
import Derived.Shelf.Strconv.ParseUintEmpty
import Derived.Shelf.Strconv.ParseUint10b64
import Derived.Shelf.Strconv.ParseUint10b32
import Derived.Shelf.Strconv.ParseUint10b16
import Derived.Shelf.Strconv.ParseUint10b8
import Derived.Shelf.Strconv.ParseUint10At
import Derived.Shelf.Strconv.ParseInt10At64
import Derived.Shelf.Strconv.ParseInt10At32
import Derived.Shelf.Strconv.ParseInt10At16
import Derived.Shelf.Strconv.ParseInt10At8
import Derived.Shelf.Strconv.ParseInt10All
import Derived.Shelf.Strconv.ParseIntPublic10
import Derived.Shelf.Strconv.ErrVarParseInt
import Derived.Shelf.Strings.Search1
import Derived.Shelf.Strings.Search2
import Derived.Shelf.Strings.Search3
import Derived.Shelf.Strings.Count
import Derived.Shelf.Strings.Shaped
import Derived.Shelf.Strings.Split
import Derived.Shelf.Strings.SplitShaped
import Derived.Shelf.Unicode.Decode
import Derived.Shelf.Strings.RuneCount
import Derived.Shelf.Strings.Explode
import Derived.Shelf.Unicode.DecodeSlow
import Derived.Shelf.Unicode.DecodeAny
import Derived.Ground.SlgnProg
import Derived.Shelf.SlicesG.SearchI
import Derived.Ground.SlgcProg
import Derived.Shelf.SlicesG.Cmp
import Derived.Test.YtkjnbafdmjakgaaGreatDoorProg
import Derived.Test.YtkjnbafdmjakgaaGreatDoorCards
import Derived.Test.YtkjnbafdmjakgaaGreatDoorTie
import Derived.WalkKit
import Derived.ProofKit
import Derived.OpenShut
import Derived.Below
import Derived.ChangeSame
import Derived.LaidLaws
import Derived.Deep.DeepHandedRow
import Derived.Deep.DeepWitnessRowRef
import Derived.Lib.LaidTab
import Derived.Lib.LaidU8
import Derived.Lay
import Derived.Lib.ParseIntBCases
import Derived.Lib.ItoaMem
import Derived.Lib.ItoaLen
set_option linter.unusedSimpArgs false
set_option linter.unusedVariables false
section
/- The library functions that the job's text calls: their contracts (printed by the kit's tools). -/
namespace Go.Proofs
open Go.Shelf
def Tryz.lays137_ren : Go.Shelf.Ren := ⟨fun | 137 => 55 | 217 => 69 | 266 => 87 | n => n, fun | 9 => 9 | 5 => 5 | 3 => 3 | n => n, fun | n => n⟩
theorem Tryz.lays137 : Go.Proofs.Lays.n137 Tryz.prog Tryz.lays137_ren := {
 mixed := by kernel_rfl
 f137 := Tryz.func55.trans (congrArg some (by kernel_rfl))
 f217 := Tryz.func69.trans (congrArg some (by kernel_rfl))
 f266 := Tryz.func87.trans (congrArg some (by kernel_rfl))
 t3 := Tryz.underlying3
 a3 := Tryz.isAgg3
 z3 := Tryz.sizeOf3
 v3 := Tryz.zeroValue3
 t5 := Tryz.underlying5
 a5 := Tryz.isAgg5
 z5 := Tryz.sizeOf5
 v5 := Tryz.zeroValue5
 t9 := Tryz.underlying9
 a9 := Tryz.isAgg9
 z9 := Tryz.sizeOf9
 v9 := Tryz.zeroValue9 }
open Go.RowKit in
theorem Tryz.strings_IndexByte (s : ByteArray) (c : Int) (w : World) :
  Calls Tryz.prog 55 #[.string s, .int .u8 c] w fun e w' => e = .returned (.int .i64 (Lib.indexByte s.data.toList c.toNat.toUInt8)) ∧ w' = w := Any.strings_IndexByte Tryz.lays137 s c w
def Tryz.laysM173_ren : Go.Shelf.Ren := ⟨fun | 173 => 39 | 246 => 54 | 283 => 65 | 284 => 66 | 285 => 67 | 286 => 68 | 129 => 83 | 317 => 82 | 318 => 84 | 319 => 85 | 320 => 86 | 337 => 97 | 338 => 98 | n => n, fun | 2 => 2 | 3 => 3 | 9 => 9 | 4 => 4 | 171 => 122 | 0 => 0 | 53 => 123 | 37 => 108 | 5 => 5 | 173 => 126 | 212 => 139 | 51 => 140 | 20 => 20 | 213 => 141 | 46 => 109 | 232 => 156 | 233 => 157 | n => n, fun | 17 => 0 | 18 => 4 | 19 => 5 | n => n⟩
theorem Tryz.laysM173 : Go.Proofs.LaysM.n173 Tryz.prog Tryz.laysM173_ren := {
 mixed := by kernel_rfl
 f129 := Tryz.func83.trans (congrArg some (by kernel_rfl))
 f173 := Tryz.func39.trans (congrArg some (by kernel_rfl))
 f246 := Tryz.func54.trans (congrArg some (by kernel_rfl))
 f283 := Tryz.func65.trans (congrArg some (by kernel_rfl))
 f284 := Tryz.func66.trans (congrArg some (by kernel_rfl))
 f285 := Tryz.func67.trans (congrArg some (by kernel_rfl))
 f286 := Tryz.func68.trans (congrArg some (by kernel_rfl))
 f317 := Tryz.func82.trans (congrArg some (by kernel_rfl))
 f318 := Tryz.func84.trans (congrArg some (by kernel_rfl))
 f319 := Tryz.func85.trans (congrArg some (by kernel_rfl))
 f320 := Tryz.func86.trans (congrArg some (by kernel_rfl))
 f337 := Tryz.func97.trans (congrArg some (by kernel_rfl))
 f338 := Tryz.func98.trans (congrArg some (by kernel_rfl))
 t0 := Tryz.underlying0
 a0 := Tryz.isAgg0
 z0 := Tryz.sizeOf0
 v0 := Tryz.zeroValue0
 t2 := Tryz.underlying2
 a2 := Tryz.isAgg2
 z2 := Tryz.sizeOf2
 v2 := Tryz.zeroValue2
 t3 := Tryz.underlying3
 a3 := Tryz.isAgg3
 z3 := Tryz.sizeOf3
 v3 := Tryz.zeroValue3
 t4 := Tryz.underlying4
 a4 := Tryz.isAgg4
 z4 := Tryz.sizeOf4
 v4 := Tryz.zeroValue4
 t5 := Tryz.underlying5
 a5 := Tryz.isAgg5
 z5 := Tryz.sizeOf5
 v5 := Tryz.zeroValue5
 t9 := Tryz.underlying9
 a9 := Tryz.isAgg9
 z9 := Tryz.sizeOf9
 v9 := Tryz.zeroValue9
 t20 := Tryz.underlying20
 a20 := Tryz.isAgg20
 z20 := Tryz.sizeOf20
 v20 := Tryz.zeroValue20
 t37 := Tryz.underlying108
 a37 := Tryz.isAgg108
 z37 := Tryz.sizeOf108
 v37 := Tryz.zeroValue108
 t46 := Tryz.underlying109
 a46 := Tryz.isAgg109
 z46 := Tryz.sizeOf109
 v46 := Tryz.zeroValue109
 t51 := Tryz.underlying140
 a51 := Tryz.isAgg140
 z51 := Tryz.sizeOf140
 v51 := Tryz.zeroValue140
 t53 := Tryz.underlying123
 a53 := Tryz.isAgg123
 z53 := Tryz.sizeOf123
 v53 := Tryz.zeroValue123
 t171 := Tryz.underlying122
 a171 := Tryz.isAgg122
 z171 := Tryz.sizeOf122
 v171 := Tryz.zeroValue122
 t173 := Tryz.underlying126
 a173 := Tryz.isAgg126
 z173 := Tryz.sizeOf126
 v173 := Tryz.zeroValue126
 t212 := Tryz.underlying139
 a212 := Tryz.isAgg139
 z212 := Tryz.sizeOf139
 v212 := Tryz.zeroValue139
 t213 := Tryz.underlying141
 a213 := Tryz.isAgg141
 z213 := Tryz.sizeOf141
 t232 := Tryz.underlying156
 a232 := Tryz.isAgg156
 z232 := Tryz.sizeOf156
 v232 := Tryz.zeroValue156
 t233 := Tryz.underlying157
 a233 := Tryz.isAgg157
 z233 := Tryz.sizeOf157
 v233 := Tryz.zeroValue157
 g17 := by kernel_rfl
 g18 := by kernel_rfl
 g19 := by kernel_rfl
 i0 := by kernel_rfl
 i2 := by kernel_rfl
 i3 := by kernel_rfl
 i4 := by kernel_rfl
 i5 := by kernel_rfl
 i9 := by kernel_rfl
 i20 := by kernel_rfl
 i37 := by kernel_rfl
 i46 := by kernel_rfl
 i51 := by kernel_rfl
 i53 := by kernel_rfl
 i171 := by kernel_rfl
 i173 := by kernel_rfl
 i212 := by kernel_rfl
 i232 := by kernel_rfl
 i233 := by kernel_rfl
 m17 := by kernel_rfl
 m18 := by kernel_rfl
 m19 := by kernel_rfl }
open Go.RowKit Go.Sort Go.Lib in
theorem Tryz.strconv_FormatInt_10 (n : Int) (h0 : -9223372036854775808 ≤ n) (h1 : n ≤ 9223372036854775807) (w : World) (htab : Lib.TabIs Tryz.prog w "internal/strconv.uint64pow10" .u64 Lib.pow10Tab) :
  Calls Tryz.prog 39 #[.int .i64 n, .int .i64 10] w fun e w' => e = .returned (.string ⟨(Lib.itoa n).toArray⟩) ∧ ∃ k os, w' = grow (w.drewN k) os := Any.strconv_FormatInt_10 Tryz.laysM173 n h0 h1 w htab
def Tryz.laysC174_ren : Go.Shelf.Ren := ⟨fun | 174 => 42 | 247 => 57 | 245 => 58 | 287 => 73 | 279 => 74 | 280 => 75 | 281 => 76 | 282 => 77 | 321 => 92 | 322 => 93 | 316 => 94 | 171 => 96 | 205 => 95 | 243 => 103 | 246 => 54 | 283 => 65 | 284 => 66 | 285 => 67 | 286 => 68 | 129 => 83 | 317 => 82 | 318 => 84 | 319 => 85 | 320 => 86 | 337 => 97 | 338 => 98 | n => n, fun | 9 => 9 | 3 => 3 | 2 => 2 | 75 => 86 | 85 => 87 | 4 => 4 | 167 => 129 | 5 => 5 | 53 => 123 | 175 => 130 | 46 => 109 | 168 => 132 | 37 => 108 | 0 => 0 | 210 => 149 | 21 => 21 | 127 => 152 | 145 => 155 | 143 => 153 | 171 => 122 | 173 => 126 | 212 => 139 | 51 => 140 | 20 => 20 | 213 => 141 | 232 => 156 | 233 => 157 | 80 => 164 | n => n, fun | 15 => 1 | 16 => 2 | 17 => 0 | 18 => 4 | 19 => 5 | n => n⟩
theorem Tryz.laysC174 : Go.Proofs.LaysC.n174 Tryz.prog Tryz.laysC174_ren := {
 mixed := by kernel_rfl
 f129 := Tryz.func83.trans (congrArg some (by kernel_rfl))
 f171 := Tryz.func96.trans (congrArg some (by kernel_rfl))
 f174 := Tryz.func42.trans (congrArg some (by kernel_rfl))
 f205 := Tryz.func95.trans (congrArg some (by kernel_rfl))
 f243 := Tryz.func103.trans (congrArg some (by kernel_rfl))
 f245 := Tryz.func58.trans (congrArg some (by kernel_rfl))
 f246 := Tryz.func54.trans (congrArg some (by kernel_rfl))
 f247 := Tryz.func57.trans (congrArg some (by kernel_rfl))
 f279 := Tryz.func74.trans (congrArg some (by kernel_rfl))
 f280 := Tryz.func75.trans (congrArg some (by kernel_rfl))
 f281 := Tryz.func76.trans (congrArg some (by kernel_rfl))
 f282 := Tryz.func77.trans (congrArg some (by kernel_rfl))
 f283 := Tryz.func65.trans (congrArg some (by kernel_rfl))
 f284 := Tryz.func66.trans (congrArg some (by kernel_rfl))
 f285 := Tryz.func67.trans (congrArg some (by kernel_rfl))
 f286 := Tryz.func68.trans (congrArg some (by kernel_rfl))
 f287 := Tryz.func73.trans (congrArg some (by kernel_rfl))
 f316 := Tryz.func94.trans (congrArg some (by kernel_rfl))
 f317 := Tryz.func82.trans (congrArg some (by kernel_rfl))
 f318 := Tryz.func84.trans (congrArg some (by kernel_rfl))
 f319 := Tryz.func85.trans (congrArg some (by kernel_rfl))
 f320 := Tryz.func86.trans (congrArg some (by kernel_rfl))
 f321 := Tryz.func92.trans (congrArg some (by kernel_rfl))
 f322 := Tryz.func93.trans (congrArg some (by kernel_rfl))
 f337 := Tryz.func97.trans (congrArg some (by kernel_rfl))
 f338 := Tryz.func98.trans (congrArg some (by kernel_rfl))
 t0 := Tryz.underlying0
 a0 := Tryz.isAgg0
 z0 := Tryz.sizeOf0
 v0 := Tryz.zeroValue0
 t2 := Tryz.underlying2
 a2 := Tryz.isAgg2
 z2 := Tryz.sizeOf2
 v2 := Tryz.zeroValue2
 t3 := Tryz.underlying3
 a3 := Tryz.isAgg3
 z3 := Tryz.sizeOf3
 v3 := Tryz.zeroValue3
 t4 := Tryz.underlying4
 a4 := Tryz.isAgg4
 z4 := Tryz.sizeOf4
 v4 := Tryz.zeroValue4
 t5 := Tryz.underlying5
 a5 := Tryz.isAgg5
 z5 := Tryz.sizeOf5
 v5 := Tryz.zeroValue5
 t9 := Tryz.underlying9
 a9 := Tryz.isAgg9
 z9 := Tryz.sizeOf9
 v9 := Tryz.zeroValue9
 t20 := Tryz.underlying20
 a20 := Tryz.isAgg20
 z20 := Tryz.sizeOf20
 v20 := Tryz.zeroValue20
 t21 := Tryz.underlying21
 a21 := Tryz.isAgg21
 z21 := Tryz.sizeOf21
 v21 := Tryz.zeroValue21
 t37 := Tryz.underlying108
 a37 := Tryz.isAgg108
 z37 := Tryz.sizeOf108
 v37 := Tryz.zeroValue108
 t46 := Tryz.underlying109
 a46 := Tryz.isAgg109
 z46 := Tryz.sizeOf109
 v46 := Tryz.zeroValue109
 t51 := Tryz.underlying140
 a51 := Tryz.isAgg140
 z51 := Tryz.sizeOf140
 v51 := Tryz.zeroValue140
 t53 := Tryz.underlying123
 a53 := Tryz.isAgg123
 z53 := Tryz.sizeOf123
 v53 := Tryz.zeroValue123
 t75 := Tryz.underlying86
 a75 := Tryz.isAgg86
 z75 := Tryz.sizeOf86
 v75 := Tryz.zeroValue86
 t85 := Tryz.underlying87
 a85 := Tryz.isAgg87
 z85 := Tryz.sizeOf87
 v85 := Tryz.zeroValue87
 t127 := Tryz.underlying152
 a127 := Tryz.isAgg152
 z127 := Tryz.sizeOf152
 v127 := Tryz.zeroValue152
 t143 := Tryz.underlying153
 a143 := Tryz.isAgg153
 z143 := Tryz.sizeOf153
 v143 := Tryz.zeroValue153
 t145 := Tryz.underlying155
 a145 := Tryz.isAgg155
 z145 := Tryz.sizeOf155
 v145 := Tryz.zeroValue155
 t167 := Tryz.underlying129
 a167 := Tryz.isAgg129
 z167 := Tryz.sizeOf129
 v167 := Tryz.zeroValue129
 t168 := Tryz.underlying132
 a168 := Tryz.isAgg132
 z168 := Tryz.sizeOf132
 v168 := Tryz.zeroValue132
 t171 := Tryz.underlying122
 a171 := Tryz.isAgg122
 z171 := Tryz.sizeOf122
 v171 := Tryz.zeroValue122
 t173 := Tryz.underlying126
 a173 := Tryz.isAgg126
 z173 := Tryz.sizeOf126
 v173 := Tryz.zeroValue126
 t175 := Tryz.underlying130
 a175 := Tryz.isAgg130
 z175 := Tryz.sizeOf130
 v175 := Tryz.zeroValue130
 t210 := Tryz.underlying149
 a210 := Tryz.isAgg149
 z210 := Tryz.sizeOf149
 v210 := Tryz.zeroValue149
 t212 := Tryz.underlying139
 a212 := Tryz.isAgg139
 z212 := Tryz.sizeOf139
 v212 := Tryz.zeroValue139
 t213 := Tryz.underlying141
 a213 := Tryz.isAgg141
 z213 := Tryz.sizeOf141
 t232 := Tryz.underlying156
 a232 := Tryz.isAgg156
 z232 := Tryz.sizeOf156
 v232 := Tryz.zeroValue156
 t233 := Tryz.underlying157
 a233 := Tryz.isAgg157
 z233 := Tryz.sizeOf157
 v233 := Tryz.zeroValue157
 g15 := by kernel_rfl
 g16 := by kernel_rfl
 g17 := by kernel_rfl
 g18 := by kernel_rfl
 g19 := by kernel_rfl
 t80 := Tryz.underlying164
 a80 := Tryz.isAgg164
 z80 := Tryz.sizeOf164
 v80 := Tryz.zeroValue164
 i0 := by kernel_rfl
 i2 := by kernel_rfl
 i3 := by kernel_rfl
 i4 := by kernel_rfl
 i5 := by kernel_rfl
 i9 := by kernel_rfl
 i20 := by kernel_rfl
 i21 := by kernel_rfl
 i37 := by kernel_rfl
 i46 := by kernel_rfl
 i51 := by kernel_rfl
 i53 := by kernel_rfl
 i75 := by kernel_rfl
 i80 := by kernel_rfl
 i85 := by kernel_rfl
 i127 := by kernel_rfl
 i143 := by kernel_rfl
 i145 := by kernel_rfl
 i167 := by kernel_rfl
 i168 := by kernel_rfl
 i171 := by kernel_rfl
 i173 := by kernel_rfl
 i175 := by kernel_rfl
 i210 := by kernel_rfl
 i212 := by kernel_rfl
 i232 := by kernel_rfl
 i233 := by kernel_rfl
 m15 := by kernel_rfl
 m16 := by kernel_rfl
 m17 := by kernel_rfl
 m18 := by kernel_rfl
 m19 := by kernel_rfl
 c0 := by kernel_rfl
 c2 := by kernel_rfl
 c3 := by kernel_rfl
 c4 := by kernel_rfl
 c5 := by kernel_rfl
 c9 := by kernel_rfl
 c20 := by kernel_rfl
 c21 := by kernel_rfl
 c37 := by kernel_rfl
 c46 := by kernel_rfl
 c51 := by kernel_rfl
 c53 := by kernel_rfl
 c75 := by kernel_rfl
 c80 := by kernel_rfl
 c85 := by kernel_rfl
 c127 := by kernel_rfl
 c143 := by kernel_rfl
 c145 := by kernel_rfl
 c167 := by kernel_rfl
 c168 := by kernel_rfl
 c171 := by kernel_rfl
 c173 := by kernel_rfl
 c175 := by kernel_rfl
 c210 := by kernel_rfl
 c212 := by kernel_rfl
 c213 := by kernel_rfl
 c232 := by kernel_rfl
 c233 := by kernel_rfl }
open Go.RowKit in
theorem Tryz.strconv_ParseInt_10_at64_ok (s : ByteArray) (hmax : s.size ≤ 9223372036854775806) (v : Int) (h : Lib.parseIntB 64 s.data.toList = .ok v) (w : World) :
  Calls Tryz.prog 42 #[.string s, .int .i64 10, .int .i64 64] w fun e w' => e = .returned (.tuple #[.int .i64 v, .nilIface]) ∧ (w' = w ∨ ∃ t, w' = Lib.bytesWorld w 5 t) := Any.strconv_ParseInt_10_at64_ok Tryz.laysC174 s hmax v h w
open Go.RowKit in
theorem Tryz.strconv_ParseInt_10_at64_syntax_var (s : ByteArray) (hlim : s.size ≤ 281474976710656) (h : Lib.parseIntB 64 s.data.toList = Lib.parseIntB 64 []) (tp : TypeId) (p : Value) (w : World) (hvar : w.var? Tryz.prog "strconv.ErrSyntax" = some #[.iface tp p]) :
  Calls Tryz.prog 42 #[.string s, .int .i64 10, .int .i64 64] w fun e w' => ∃ N, e = .returned (.tuple #[.int .i64 (0), .iface 132 (.pointer (some ⟨N, 0, none⟩))]) ∧ w.heap.size ≤ N ∧ w'.heap[N]? = some (.cells #[.string ⟨#[80, 97, 114, 115, 101, 73, 110, 116]⟩, .string s, .iface tp p] 149 (0, 0)) ∧ Below w.heap.size w w' := Any.strconv_ParseInt_10_at64_syntax_var Tryz.laysC174 s hlim (h.trans rfl) tp p w hvar
open Go.RowKit in
theorem Tryz.strconv_ParseInt_10_at64_range_var (s : ByteArray) (hlim : s.size ≤ 281474976710656) (h : Lib.parseIntB 64 s.data.toList = .range) (tp : TypeId) (p : Value) (w : World) (hvar : w.var? Tryz.prog "strconv.ErrRange" = some #[.iface tp p]) :
  Calls Tryz.prog 42 #[.string s, .int .i64 10, .int .i64 64] w fun e w' => ∃ N, e = .returned (.tuple #[.int .i64 (Lib.intSat 64 s.data.toList), .iface 132 (.pointer (some ⟨N, 0, none⟩))]) ∧ w.heap.size ≤ N ∧ w'.heap[N]? = some (.cells #[.string ⟨#[80, 97, 114, 115, 101, 73, 110, 116]⟩, .string s, .iface tp p] 149 (0, 0)) ∧ Below w.heap.size w w' := Any.strconv_ParseInt_10_at64_range_var Tryz.laysC174 s hlim h tp p w hvar
def Tryz.lays146_ren : Go.Shelf.Ren := ⟨fun | 146 => 41 | 221 => 56 | 268 => 70 | 138 => 71 | 143 => 72 | 195 => 88 | 197 => 89 | 218 => 90 | 219 => 91 | 260 => 99 | 217 => 69 | 225 => 100 | 224 => 101 | 267 => 102 | 266 => 87 | 314 => 104 | n => n, fun | 9 => 9 | 31 => 69 | 3 => 3 | 4 => 4 | 0 => 0 | 105 => 145 | 21 => 21 | 5 => 5 | 46 => 109 | 119 => 158 | 139 => 161 | 138 => 160 | 146 => 162 | 51 => 140 | n => n, fun | 1 => 3 | 3 => 6 | 4 => 7 | n => n⟩
theorem Tryz.lays146 : Go.Proofs.Lays.n146 Tryz.prog Tryz.lays146_ren := {
 mixed := by kernel_rfl
 f138 := Tryz.func71.trans (congrArg some (by kernel_rfl))
 f143 := Tryz.func72.trans (congrArg some (by kernel_rfl))
 f146 := Tryz.func41.trans (congrArg some (by kernel_rfl))
 f195 := Tryz.func88.trans (congrArg some (by kernel_rfl))
 f197 := Tryz.func89.trans (congrArg some (by kernel_rfl))
 f217 := Tryz.func69.trans (congrArg some (by kernel_rfl))
 f218 := Tryz.func90.trans (congrArg some (by kernel_rfl))
 f219 := Tryz.func91.trans (congrArg some (by kernel_rfl))
 f221 := Tryz.func56.trans (congrArg some (by kernel_rfl))
 f224 := Tryz.func101.trans (congrArg some (by kernel_rfl))
 f225 := Tryz.func100.trans (congrArg some (by kernel_rfl))
 f260 := Tryz.func99.trans (congrArg some (by kernel_rfl))
 f266 := Tryz.func87.trans (congrArg some (by kernel_rfl))
 f267 := Tryz.func102.trans (congrArg some (by kernel_rfl))
 f268 := Tryz.func70.trans (congrArg some (by kernel_rfl))
 f314 := Tryz.func104.trans (congrArg some (by kernel_rfl))
 t0 := Tryz.underlying0
 a0 := Tryz.isAgg0
 z0 := Tryz.sizeOf0
 v0 := Tryz.zeroValue0
 t3 := Tryz.underlying3
 a3 := Tryz.isAgg3
 z3 := Tryz.sizeOf3
 v3 := Tryz.zeroValue3
 t4 := Tryz.underlying4
 a4 := Tryz.isAgg4
 z4 := Tryz.sizeOf4
 v4 := Tryz.zeroValue4
 t5 := Tryz.underlying5
 a5 := Tryz.isAgg5
 z5 := Tryz.sizeOf5
 v5 := Tryz.zeroValue5
 t9 := Tryz.underlying9
 a9 := Tryz.isAgg9
 z9 := Tryz.sizeOf9
 v9 := Tryz.zeroValue9
 t21 := Tryz.underlying21
 a21 := Tryz.isAgg21
 z21 := Tryz.sizeOf21
 v21 := Tryz.zeroValue21
 t31 := Tryz.underlying69
 a31 := Tryz.isAgg69
 z31 := Tryz.sizeOf69
 v31 := Tryz.zeroValue69
 t46 := Tryz.underlying109
 a46 := Tryz.isAgg109
 z46 := Tryz.sizeOf109
 v46 := Tryz.zeroValue109
 t51 := Tryz.underlying140
 a51 := Tryz.isAgg140
 z51 := Tryz.sizeOf140
 v51 := Tryz.zeroValue140
 t105 := Tryz.underlying145
 a105 := Tryz.isAgg145
 z105 := Tryz.sizeOf145
 v105 := Tryz.zeroValue145
 t119 := Tryz.underlying158
 a119 := Tryz.isAgg158
 z119 := Tryz.sizeOf158
 t138 := Tryz.underlying160
 a138 := Tryz.isAgg160
 z138 := Tryz.sizeOf160
 v138 := Tryz.zeroValue160
 t139 := Tryz.underlying161
 a139 := Tryz.isAgg161
 z139 := Tryz.sizeOf161
 v139 := Tryz.zeroValue161
 t146 := Tryz.underlying162
 a146 := Tryz.isAgg162
 z146 := Tryz.sizeOf162
 v146 := Tryz.zeroValue162
 g1 := by kernel_rfl
 g3 := by kernel_rfl
 g4 := by kernel_rfl }
open Go.RowKit Go.Lib in
theorem Tryz.strings_Split (s sep : ByteArray) (m : Int) (w : World) (hs : s.size < 4294967281) (hm : w.cell? ⟨3, 0, none⟩ = some (.int .i64 m)) (h1 : 1 ≤ sep.size) :
  Calls Tryz.prog 41 #[.string s, .string sep] w fun e w' =>
   e = .returned (.slice (some ⟨w.heap.size, 0, none⟩) (Lib.countB s sep + 1) (Lib.countB s sep + 1)) ∧ w' = w.alloc (.cells ((Lib.splitB sep 0 (Lib.countB s sep) s).map Value.string).toArray 9) := Any.strings_Split Tryz.lays146 (by kernel_rfl) s sep m w hs hm h1
def Tryz.laysM146_ren : Go.Shelf.Ren := ⟨fun | 146 => 41 | 221 => 56 | 268 => 70 | 138 => 71 | 143 => 72 | 195 => 88 | 197 => 89 | 218 => 90 | 219 => 91 | 260 => 99 | 217 => 69 | 225 => 100 | 224 => 101 | 267 => 102 | 266 => 87 | 314 => 104 | n => n, fun | 9 => 9 | 31 => 69 | 3 => 3 | 4 => 4 | 0 => 0 | 105 => 145 | 21 => 21 | 5 => 5 | 46 => 109 | 119 => 158 | 139 => 161 | 138 => 160 | 146 => 162 | 51 => 140 | n => n, fun | 1 => 3 | 3 => 6 | 4 => 7 | n => n⟩
theorem Tryz.laysM146 : Go.Proofs.LaysM.n146 Tryz.prog Tryz.laysM146_ren := {
 mixed := by kernel_rfl
 f138 := Tryz.func71.trans (congrArg some (by kernel_rfl))
 f143 := Tryz.func72.trans (congrArg some (by kernel_rfl))
 f146 := Tryz.func41.trans (congrArg some (by kernel_rfl))
 f195 := Tryz.func88.trans (congrArg some (by kernel_rfl))
 f197 := Tryz.func89.trans (congrArg some (by kernel_rfl))
 f217 := Tryz.func69.trans (congrArg some (by kernel_rfl))
 f218 := Tryz.func90.trans (congrArg some (by kernel_rfl))
 f219 := Tryz.func91.trans (congrArg some (by kernel_rfl))
 f221 := Tryz.func56.trans (congrArg some (by kernel_rfl))
 f224 := Tryz.func101.trans (congrArg some (by kernel_rfl))
 f225 := Tryz.func100.trans (congrArg some (by kernel_rfl))
 f260 := Tryz.func99.trans (congrArg some (by kernel_rfl))
 f266 := Tryz.func87.trans (congrArg some (by kernel_rfl))
 f267 := Tryz.func102.trans (congrArg some (by kernel_rfl))
 f268 := Tryz.func70.trans (congrArg some (by kernel_rfl))
 f314 := Tryz.func104.trans (congrArg some (by kernel_rfl))
 t0 := Tryz.underlying0
 a0 := Tryz.isAgg0
 z0 := Tryz.sizeOf0
 v0 := Tryz.zeroValue0
 t3 := Tryz.underlying3
 a3 := Tryz.isAgg3
 z3 := Tryz.sizeOf3
 v3 := Tryz.zeroValue3
 t4 := Tryz.underlying4
 a4 := Tryz.isAgg4
 z4 := Tryz.sizeOf4
 v4 := Tryz.zeroValue4
 t5 := Tryz.underlying5
 a5 := Tryz.isAgg5
 z5 := Tryz.sizeOf5
 v5 := Tryz.zeroValue5
 t9 := Tryz.underlying9
 a9 := Tryz.isAgg9
 z9 := Tryz.sizeOf9
 v9 := Tryz.zeroValue9
 t21 := Tryz.underlying21
 a21 := Tryz.isAgg21
 z21 := Tryz.sizeOf21
 v21 := Tryz.zeroValue21
 t31 := Tryz.underlying69
 a31 := Tryz.isAgg69
 z31 := Tryz.sizeOf69
 v31 := Tryz.zeroValue69
 t46 := Tryz.underlying109
 a46 := Tryz.isAgg109
 z46 := Tryz.sizeOf109
 v46 := Tryz.zeroValue109
 t51 := Tryz.underlying140
 a51 := Tryz.isAgg140
 z51 := Tryz.sizeOf140
 v51 := Tryz.zeroValue140
 t105 := Tryz.underlying145
 a105 := Tryz.isAgg145
 z105 := Tryz.sizeOf145
 v105 := Tryz.zeroValue145
 t119 := Tryz.underlying158
 a119 := Tryz.isAgg158
 z119 := Tryz.sizeOf158
 t138 := Tryz.underlying160
 a138 := Tryz.isAgg160
 z138 := Tryz.sizeOf160
 v138 := Tryz.zeroValue160
 t139 := Tryz.underlying161
 a139 := Tryz.isAgg161
 z139 := Tryz.sizeOf161
 v139 := Tryz.zeroValue161
 t146 := Tryz.underlying162
 a146 := Tryz.isAgg162
 z146 := Tryz.sizeOf162
 v146 := Tryz.zeroValue162
 g1 := by kernel_rfl
 g3 := by kernel_rfl
 g4 := by kernel_rfl
 i0 := by kernel_rfl
 i3 := by kernel_rfl
 i4 := by kernel_rfl
 i5 := by kernel_rfl
 i9 := by kernel_rfl
 i21 := by kernel_rfl
 i31 := by kernel_rfl
 i46 := by kernel_rfl
 i51 := by kernel_rfl
 i105 := by kernel_rfl
 i138 := by kernel_rfl
 i139 := by kernel_rfl
 i146 := by kernel_rfl
 m1 := by kernel_rfl
 s1_3 := fun w h => Go.Proofs.cell_of_shapedOpen_int (zero := #[.int .i64 0]) (t := 3) h (of_decide_eq_true (by kernel_rfl)) (by kernel_rfl) rfl (by kernel_rfl) (by kernel_rfl) Tryz.underlying3
 m3 := by kernel_rfl
 m4 := by kernel_rfl }
end Go.Proofs
end
section
/- The world of the witness, in which the listed variables hold what their initialisers lay; and what the list gives of a world. -/
namespace Go.Proofs.YtkjnbafdmjakgaaGreatDoor
open Go.ChangeShapes Go.WideShapes Go.ChangeAt Go.RowKit
theorem own : ownKnob Tryz.prog.godebug = none := by kernel_rfl
section
variable {H : Type} {enc : TypeId × Value → H} {P : Program}
end
end Go.Proofs.YtkjnbafdmjakgaaGreatDoor
end
section
/- The world of the witness, in which the listed variables hold what their initialisers lay; and what the list gives of a world. -/
namespace Go.Proofs.YtkjnbafdmjakgaaGreatDoor
open Go.ChangeShapes Go.WideShapes Go.ChangeAt Go.RowKit
theorem gPow : Tryz.prog.globalNamed "internal/strconv.uint64pow10" = some 0 := by kernel_rfl
theorem gPowType : (Tryz.prog.globals[0]?).map (·.type) = some 139 := by kernel_rfl
theorem cellsPow : Tryz.prog.cellsOf 139 = 20 := by kernel_rfl
theorem cells123 : Tryz.prog.cellsOf 123 = 1 := by kernel_rfl
theorem gSyn : Tryz.prog.globalNamed "strconv.ErrSyntax" = some 1 := by kernel_rfl
theorem gSynType : (Tryz.prog.globals[1]?).map (·.type) = some 86 := by kernel_rfl
theorem gRng : Tryz.prog.globalNamed "strconv.ErrRange" = some 2 := by kernel_rfl
theorem gRngType : (Tryz.prog.globals[2]?).map (·.type) = some 86 := by kernel_rfl
noncomputable def laidWorld (os : Os) : World := World.laidAll Tryz.prog os Rows.panesKeysRow.laid
section
variable {H : Type} {enc : TypeId × Value → H} {P : Program}
theorem post_of_below {f : Func} {s : ChangeSpec} {apart fresh handsOn again : Bool} {W W' : World} {args : Array Value} {v : Value} {ds gs : List (DataW H)} {before pa pv : List MemPlace}
  (hW : DataW.Whole enc P f.params.toList s.vars apart W args.toList ds gs before)
  (hres : ∀ (b : Nat) (sp : Nat → Bool) (hd : Bool), DataW.TrodAll enc P W' b sp hd f.resultTypes.toList (v.resultList f.resultTypes.size) (s.fn H (ds ++ gs)).results [])
  (hargs : ∀ sp : Nat → Bool, (∀ p ∈ before, sp p.block = true) → DataW.TrodAll enc P W' 0 sp true f.params.toList args.toList (s.fn H (ds ++ gs)).args pa)
  (hvars : ∀ sp : Nat → Bool, (∀ p ∈ before, sp p.block = true) → DataW.TrodVars enc P W' sp s.vars (s.fn H (ds ++ gs)).vars pv)
  (hps : before = pa ++ pv) (hb : Below W.heap.size W W')
  (hok : ∀ (j : Nat) (t : TypeId) (r : Value), f.resultTypes[j]? = some t → (v.resultList f.resultTypes.size)[j]? = some r → Value.okWide P W' .any 0 t r) :
  s.post enc P f apart fresh handsOn again W args v W' := by
 have hlt : ∀ p ∈ before, p.block < W.heap.size := fun p hp => hW.lt p hp
 have hold : ∀ p ∈ before, (fun b => decide (b < W.heap.size)) p.block = true := fun p hp => by simpa using hlt p hp
 refine ⟨ds, gs, before, [], pa, pv, hW, hres _ _ _, hargs _ hold, hvars _ hold, World.keptBut_mono (fun p hp => ⟨hp, ?_⟩) (hb.frame (· ∈ before)), fun _ => ?_⟩
 ·rw [hps, List.mem_append] at hp
  exact Or.inr hp
 ·obtain ⟨_, _, _, _, _, hz, hn⟩ := hW
  refine ⟨hok, _, _, ([] ++ pa) ++ pv, ⟨[] ++ pa, pv, trodAll_append (hargs _ (fun _ _ => rfl)) (hres _ _ _), hvars _ (fun _ _ => rfl), rfl, ?_, ?_⟩, ?_⟩
  ·intro b off hp
   have hin : MemPlace.cell b off ∈ before := by rw [hps]; simpa using hp
   rw [hb.frozen (hlt _ hin)]
   exact hz b off hin
  ·intro ha
   have := hn ha
   rw [hps] at this
   simpa using this
  ·intro p hp _
   rw [hps]
   simpa using hp
end
theorem pow_of {W : World} {l : List (String × DataW Unit)} (h : laidMet Tryz.prog l W) (hm : (("internal/strconv.uint64pow10", Rows.laid_internal_strconv_uint64pow10) : String × DataW Unit) ∈ l) : Lib.TabIs Tryz.prog W "internal/strconv.uint64pow10" .u64 Lib.pow10Tab := by
 rw [show (Rows.laid_internal_strconv_uint64pow10 : DataW Unit) = Lib.tabData .u64 Lib.pow10Tab by kernel_rfl] at hm
 obtain ⟨g', t', cs, fuel, p, hg', ht', hvar, hd⟩ := Lib.laidMet.reads h hm
 obtain rfl := Option.some.inj (gPow.symm.trans hg')
 obtain rfl := Option.some.inj (gPowType.symm.trans ht')
 unfold Lib.TabIs
 rw [hvar, ← Lib.cells_of_tab Tryz.underlying139 Tryz.underlying123 cells123 cellsPow hd]
theorem syn_of {W : World} {l : List (String × DataW Unit)} (h : laidMet Tryz.prog l W) (hm : (("strconv.ErrSyntax", Rows.laid_strconv_ErrSyntax) : String × DataW Unit) ∈ l) : ∃ tp q, W.var? Tryz.prog "strconv.ErrSyntax" = some #[.iface tp q] := by
 obtain ⟨g', t', cs, fuel, p, hg', ht', hvar, hd⟩ := Lib.laidMet.reads h hm
 obtain rfl := Option.some.inj (gSyn.symm.trans hg')
 obtain rfl := Option.some.inj (gSynType.symm.trans ht')
 obtain ⟨_, u, v, hc, _, _⟩ := iface_of_trod Tryz.underlying86 hd
 exact ⟨u, v, hvar.trans (congrArg some (Array.toList_inj.1 hc))⟩
theorem rng_of {W : World} {l : List (String × DataW Unit)} (h : laidMet Tryz.prog l W) (hm : (("strconv.ErrRange", Rows.laid_strconv_ErrRange) : String × DataW Unit) ∈ l) : ∃ tp q, W.var? Tryz.prog "strconv.ErrRange" = some #[.iface tp q] := by
 obtain ⟨g', t', cs, fuel, p, hg', ht', hvar, hd⟩ := Lib.laidMet.reads h hm
 obtain rfl := Option.some.inj (gRng.symm.trans hg')
 obtain rfl := Option.some.inj (gRngType.symm.trans ht')
 obtain ⟨_, u, v, hc, _, _⟩ := iface_of_trod Tryz.underlying86 hd
 exact ⟨u, v, hvar.trans (congrArg some (Array.toList_inj.1 hc))⟩
theorem max_of {W : World} (h : W.ShapedOpen Tryz.prog) : ∃ m, W.cell? ⟨3, 0, none⟩ = some (.int .i64 m) := Tryz.laysM146.s1_3 W h
theorem laid_met (os : Os) (args : Array Value) : laidMet Tryz.prog Rows.panesKeysRow.laid ((laidWorld os).forCall (fun _ _ => 0) ⟨#[], args, []⟩).memory :=
 laidMet_laidAll args (by kernel_rfl) (by kernel_rfl)
end Go.Proofs.YtkjnbafdmjakgaaGreatDoor
end
section
/- Numbers and quoted keys in plain Lean: what both readings take. -/
namespace Go.Proofs.YtkjnbafdmjakgaaGreatDoor
open Go.Lib
theorem chr (d : Nat) (h : d < 10) : (UInt8.ofNat (48 + d)).toNat = 48 + d := by simp [UInt8.toNat_ofNat']; omega
/-! ### numbers -/
theorem parse_dec : ∀ (m u : Nat) (r : List UInt8), u ≤ m → u < 18446744073709551616 → parseUintM (2 ^ 64 - 1) 0 (decDigits u ++ r) = parseUintM (2 ^ 64 - 1) u r
 | m, u, r, hm, hb => by
  by_cases h : u < 10
  ·rw [decDigits_one h, List.singleton_append, parseUintM, chr u h, if_pos (by omega), if_neg (by omega), if_neg (by omega), Nat.zero_mul, Nat.zero_add, show 48 + u - 48 = u by omega]
  ·match m with
   | 0 => omega
   | m + 1 =>
    rw [decDigits, dif_neg h, List.append_assoc, parse_dec m (u / 10) _ (by omega) (by omega), List.singleton_append, parseUintM, chr (u % 10) (by omega), if_pos (by omega), if_neg (by omega), if_neg (by omega),
     show u / 10 * 10 + (48 + u % 10 - 48) = u by omega]
theorem dec_first (u : Nat) : ∃ c r, decDigits u = c :: r ∧ c.toNat ≠ 43 ∧ c.toNat ≠ 45 := by
 induction u using Nat.strongRecOn with
 | _ u ih =>
  by_cases h : u < 10
  ·rw [decDigits_one h]
   exact ⟨_, [], rfl, by rw [chr u h]; omega, by rw [chr u h]; omega⟩
  ·obtain ⟨c, r, e, h1, h2⟩ := ih (u / 10) (by omega)
   rw [decDigits, dif_neg h, e]
   exact ⟨c, _, rfl, h1, h2⟩
theorem parse_mag {u : Nat} (h : u < 18446744073709551616) : parseUintB 64 (decDigits u) = .ok u := by
 obtain ⟨c, r, e, _, _⟩ := dec_first u
 unfold parseUintB
 rw [if_neg (by rw [e]; simp)]
 have := parse_dec u u [] (Nat.le_refl _) h
 rw [List.append_nil] at this
 rw [this]
 rfl
def in64 (x : Int) : Prop := -9223372036854775808 ≤ x ∧ x ≤ 9223372036854775807
theorem parse_itoa {x : Int} (h : in64 x) : parseIntB 64 (itoa x) = .ok x := by
 obtain ⟨h1, h2⟩ := h
 by_cases hx : x < 0
 ·unfold itoa
  rw [if_pos hx, parseIntB_minus, parse_mag (by omega)]
  unfold signedC
  simp only
  rw [if_neg (by omega), show -((x.natAbs : Nat) : Int) = x by omega]
 ·unfold itoa
  rw [if_neg hx]
  obtain ⟨c, r, e, h43, h45⟩ := dec_first x.toNat
  have hp := parse_mag (u := x.toNat) (by omega)
  rw [e] at hp ⊢
  rw [parseIntB_plain 64 c r h43 h45, hp]
  unfold signlessC
  simp only
  rw [if_neg (by omega), Int.toNat_of_nonneg (by omega)]
theorem parse_in {s : List UInt8} {x : Int} (h : parseIntB 64 s = .ok x) : in64 x := by
 have hc : ∀ (o : NumEnd Nat), signlessC (2 ^ (64 - 1)) o = .ok x → in64 x := fun o ho => by
  unfold signlessC at ho
  split at ho <;> try (cases ho; done)
  rename_i u
  split at ho
  ·cases ho
  ·injection ho with ho
   unfold in64
   omega
 have hs : ∀ (o : NumEnd Nat), signedC (2 ^ (64 - 1)) o = .ok x → in64 x := fun o ho => by
  unfold signedC at ho
  split at ho <;> try (cases ho; done)
  rename_i u
  split at ho
  ·cases ho
  ·injection ho with ho
   unfold in64
   omega
 cases s with
 | nil => cases h
 | cons c r =>
  by_cases h43 : c.toNat = 43
  ·have : c = 43 := UInt8.toNat_inj.1 h43
   subst this
   rw [parseIntB_plus] at h
   exact hc _ h
  ·by_cases h45 : c.toNat = 45
   ·have : c = 45 := UInt8.toNat_inj.1 h45
    subst this
    rw [parseIntB_minus] at h
    exact hs _ h
   ·rw [parseIntB_plain 64 c r h43 h45] at h
    exact hc _ h
def numK (s : List UInt8) : Option Int := match parseIntB 64 s with
 | .ok n => if itoa n = s then some n else none
 | _ => none
theorem numK_iff (s : List UInt8) (x : Int) : numK s = some x ↔ s = itoa x ∧ in64 x := by
 unfold numK
 constructor
 ·intro h
  split at h
  ·rename_i n hn
   split at h
   ·rename_i he
    injection h with h
    subst h
    exact ⟨he.symm, parse_in hn⟩
   ·cases h
  ·cases h
 ·rintro ⟨rfl, h⟩
  rw [parse_itoa h]
  simp
theorem wrap_id {x : Int} (h : in64 x) : IntKind.i64.wrap x = x := by
 unfold in64 at h
 simp only [IntKind.wrap, IntKind.bits, IntKind.signed]
 simp
 omega
/-! ### quoted keys -/
def hexB (n : Nat) : UInt8 := if n < 10 then UInt8.ofNat (48 + n) else UInt8.ofNat (87 + n)
def plainC (c : UInt8) : Bool := decide (32 ≤ c.toNat) && (decide (c.toNat ≤ 126) && (decide (c.toNat ≠ 34) && decide (c.toNat ≠ 92)))
def q1 (c : UInt8) : List UInt8 := if plainC c then [c] else [92, 120, hexB (c.toNat / 16), hexB (c.toNat % 16)]
def quoteB (k : List UInt8) : List UInt8 := 34 :: (k.flatMap q1 ++ [34])
def dg (c : UInt8) : Option Nat := if 48 ≤ c.toNat ∧ c.toNat ≤ 57 then some (c.toNat - 48) else if 97 ≤ c.toNat ∧ c.toNat ≤ 102 then some (c.toNat - 87) else none
def unq : List UInt8 → List UInt8 → Option (List UInt8 × List UInt8)
 | _, [] => none
 | b, c :: s => if c = 34 then some (b, s) else if c = 92 then
   (match s with
    | x :: h :: l :: r => if x = 120 then (match dg h, dg l with
     | some i, some j => if plainC (UInt8.ofNat (16 * i + j)) then none else unq (b ++ [UInt8.ofNat (16 * i + j)]) r
     | _, _ => none) else none
    | _ => none)
  else if c.toNat < 32 ∨ 126 < c.toNat then none else unq (b ++ [c]) s
theorem unq_cons (b : List UInt8) (c : UInt8) (s : List UInt8) : unq b (c :: s) = if c = 34 then some (b, s) else if c = 92 then
   (match s with
    | x :: h :: l :: r => if x = 120 then (match dg h, dg l with
     | some i, some j => if plainC (UInt8.ofNat (16 * i + j)) then none else unq (b ++ [UInt8.ofNat (16 * i + j)]) r
     | _, _ => none) else none
    | _ => none)
  else if c.toNat < 32 ∨ 126 < c.toNat then none else unq (b ++ [c]) s := by
 match s with
 | [] => rfl
 | [_] => rfl
 | [_, _] => rfl
 | _ :: _ :: _ :: _ => rfl
theorem unq_step (b : List UInt8) (c : UInt8) (s : List UInt8) (h34 : c ≠ 34) (h92 : c ≠ 92) (hc : ¬ (c.toNat < 32 ∨ 126 < c.toNat)) : unq b (c :: s) = unq (b ++ [c]) s := by
 rw [unq_cons, if_neg h34, if_neg h92, if_neg hc]
theorem unq_end (b s : List UInt8) : unq b (34 :: s) = some (b, s) := by
 rw [unq_cons, if_pos rfl]
theorem unq_esc (b : List UInt8) (x h l : UInt8) (r : List UInt8) : unq b (92 :: x :: h :: l :: r) = if x = 120 then (match dg h, dg l with
  | some i, some j => if plainC (UInt8.ofNat (16 * i + j)) then none else unq (b ++ [UInt8.ofNat (16 * i + j)]) r
  | _, _ => none) else none := by
 rw [unq_cons, if_neg (by decide), if_pos rfl]
theorem dg_hex : ∀ i : Fin 16, dg (hexB i.val) = some i.val := by decide +kernel
theorem dg_lt {c : UInt8} {i : Nat} (h : dg c = some i) : i < 16 ∧ hexB i = c := by
 unfold dg at h
 split at h
 ·injection h with h
  subst h
  refine ⟨by omega, ?_⟩
  unfold hexB
  rw [if_pos (by omega)]
  apply UInt8.toNat_inj.1
  simp [UInt8.toNat_ofNat']
  omega
 ·split at h
  ·injection h with h
   subst h
   refine ⟨by omega, ?_⟩
   unfold hexB
   rw [if_neg (by omega)]
   apply UInt8.toNat_inj.1
   simp [UInt8.toNat_ofNat']
   omega
  ·cases h
theorem byte_two (c : UInt8) : UInt8.ofNat (16 * (c.toNat / 16) + c.toNat % 16) = c := by
 rw [Nat.div_add_mod]
 simp
theorem plain_of {c : UInt8} (h : plainC c = true) : c ≠ 34 ∧ c ≠ 92 ∧ ¬ (c.toNat < 32 ∨ 126 < c.toNat) := by
 simp only [plainC, Bool.and_eq_true, decide_eq_true_eq] at h
 obtain ⟨h1, h2, h3, h4⟩ := h
 refine ⟨fun e => h3 (by rw [e]; rfl), fun e => h4 (by rw [e]; rfl), by omega⟩
theorem unq_quote : ∀ (k b r : List UInt8), unq b (k.flatMap q1 ++ 34 :: r) = some (b ++ k, r)
 | [], b, r => by rw [List.flatMap_nil, List.nil_append, unq_end, List.append_nil]
 | c :: k, b, r => by
  rw [List.flatMap_cons, List.append_assoc]
  by_cases hp : plainC c = true
  ·obtain ⟨h1, h2, h3⟩ := plain_of hp
   rw [show q1 c = [c] by unfold q1; rw [if_pos hp], List.singleton_append, unq_step _ _ _ h1 h2 h3, unq_quote k, List.append_assoc]
   rfl
  ·have h1 := dg_hex ⟨c.toNat / 16, by have := c.toNat_lt; omega⟩
   have h2 := dg_hex ⟨c.toNat % 16, by omega⟩
   simp only at h1 h2
   rw [show q1 c = [92, 120, hexB (c.toNat / 16), hexB (c.toNat % 16)] by unfold q1; rw [if_neg hp]]
   simp only [List.cons_append, List.nil_append]
   rw [unq_esc, if_pos rfl, h1, h2]
   simp only
   rw [byte_two, if_neg hp, unq_quote k, List.append_assoc]
   rfl
theorem unq_inv : ∀ (m : Nat) (s b b' r : List UInt8), s.length ≤ m → unq b s = some (b', r) → ∃ k, b' = b ++ k ∧ s = k.flatMap q1 ++ 34 :: r
 | _, [], b, b', r, _, h => by simp [unq] at h
 | 0, c :: s, b, b', r, hm, _ => by simp at hm
 | m + 1, c :: s, b, b', r, hm, h => by
  have hs : s.length ≤ m := by simpa using hm
  by_cases h34 : c = 34
  ·subst h34
   rw [unq_end] at h
   injection h with h
   injection h with h1 h2
   subst h1 h2
   exact ⟨[], by simp, rfl⟩
  ·by_cases h92 : c = 92
   ·subst h92
    match s, hs with
    | [], _ => simp [unq] at h
    | [x], _ => simp [unq] at h
    | [x, y], _ => simp [unq] at h
    | x :: p :: l :: r', hs =>
     rw [unq_esc] at h
     split at h
     ·rename_i hx
      subst hx
      split at h
      ·rename_i i j hi hj
       split at h
       ·cases h
       ·rename_i hpl
        obtain ⟨k, hk, he⟩ := unq_inv m r' _ _ _ (by simp at hs; omega) h
        obtain ⟨hi1, hi2⟩ := dg_lt hi
        obtain ⟨hj1, hj2⟩ := dg_lt hj
        have hn : (UInt8.ofNat (16 * i + j)).toNat = 16 * i + j := by simp [UInt8.toNat_ofNat']; omega
        refine ⟨UInt8.ofNat (16 * i + j) :: k, by rw [hk, List.append_assoc]; rfl, ?_⟩
        rw [List.flatMap_cons, show q1 (UInt8.ofNat (16 * i + j)) = [92, 120, p, l] by
         unfold q1
         rw [if_neg hpl, hn, show (16 * i + j) / 16 = i by omega, show (16 * i + j) % 16 = j by omega, hi2, hj2], he]
        rfl
      ·cases h
     ·cases h
   ·by_cases hc : c.toNat < 32 ∨ 126 < c.toNat
    ·rw [unq_cons, if_neg h34, if_neg h92, if_pos hc] at h
     cases h
    ·rw [unq_step b c s h34 h92 hc] at h
     obtain ⟨k, hk, he⟩ := unq_inv m s _ _ _ hs h
     have hp : plainC c = true := by
      simp only [plainC, Bool.and_eq_true, decide_eq_true_eq]
      refine ⟨by omega, by omega, fun e => h34 (UInt8.toNat_inj.1 e), fun e => h92 (UInt8.toNat_inj.1 e)⟩
     refine ⟨c :: k, by rw [hk, List.append_assoc]; rfl, ?_⟩
     rw [List.flatMap_cons, show q1 c = [c] by unfold q1; rw [if_pos hp], he]
     rfl
def keyK : List UInt8 → Option (List UInt8 × List UInt8)
 | 34 :: s => unq [] s
 | _ => none
theorem keyK_iff (s k r : List UInt8) : keyK s = some (k, r) ↔ s = quoteB k ++ r := by
 constructor
 ·intro h
  unfold keyK at h
  split at h
  ·rename_i s'
   obtain ⟨k', hk, he⟩ := unq_inv s'.length s' [] k r (Nat.le_refl _) h
   rw [List.nil_append] at hk
   subst hk
   rw [he]
   simp [quoteB]
  ·cases h
 ·rintro rfl
  have := unq_quote k [] r
  rw [List.nil_append] at this
  simp only [quoteB, List.cons_append, List.append_assoc, List.nil_append, keyK]
  exact this
end Go.Proofs.YtkjnbafdmjakgaaGreatDoor
end
