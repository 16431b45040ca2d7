/- Joined texts: GE, GN, FL, FN, BM, BB, BL, ShB, SxRo, SD. -/
import Derived.Test.YthfpekhpeiebjaaGreatDoorTAG
import Derived.WideMake
import Derived.Lib.Builder
import Derived.Lib.AppendStr
import Derived.Laws.Externs
import Derived.RangeFuncRecord
set_option linter.unusedSectionVars false
set_option linter.unusedSimpArgs false
set_option linter.unusedVariables false
namespace Go.Sx
open Go
def zAH0 : List SV := [.v (.string (ByteArray.mk #[103, 114, 111, 117, 112, 115])), .v (.string (ByteArray.mk #[115, 111, 117, 114, 99, 101, 115])), .v (.string (ByteArray.mk #[107, 105, 110, 100])), .v (.string (ByteArray.mk #[115, 105, 122, 101])), .v (.string (ByteArray.mk #[115, 108, 105, 100, 101])), .v (.string (ByteArray.mk #[111, 102, 102, 115, 101, 116])), .v (.string (ByteArray.mk #[103, 97, 112])), .v (.string (ByteArray.mk #[108, 97, 116, 101])), .v (.string (ByteArray.mk #[101, 97, 114, 108, 121])), .v (.string (ByteArray.mk #[100, 105, 115, 99, 97, 114, 100]))]
def zAH1 : List SV := [.agg [.v (.int .i64 0), .v (.int .i64 0), .v (.int .i64 0), .v (.int .i64 0), .v (.int .i64 0), .v (.int .i64 0), .v (.int .i64 0), .v (.int .i64 0), .v (.int .i64 0), .v (.bool false)], .v (.int .i64 211)]
def zAH2 : List SV := [.v (.int .i64 0), .v (.int .i64 0), .v (.int .i64 0), .v (.int .i64 0), .v (.int .i64 0), .v (.int .i64 0), .v (.int .i64 0), .v (.int .i64 0), .v (.int .i64 0), .v (.bool false)]
def zAH3 : List SV := [.v (.int .i64 0), .v (.int .i64 0), .v (.int .i64 0), .v (.int .i64 0), .v (.int .i64 0), .v (.int .i64 0), .v (.int .i64 0), .v (.int .i64 0), .v (.int .i64 0), .v (.int .i64 0)]
def pAH4 : List Nat := [1, 4, 1, 1, 1, 1, 0, 1, 4, 4, 1, 1, 0, 4, 1, 1, 0, 1, 4, 1, 3, 1, 2, 0]
def pAH5 : List Nat := [1, 4, 1, 1, 1, 1, 0, 1, 4, 4, 1, 1, 0, 4, 1, 1, 0, 1, 4, 1, 2, 0]
def pAH6 : List Nat := [1, 4, 1, 1, 1, 1, 0, 1, 4, 4, 1, 1, 0, 4, 1, 1, 0, 1, 4, 1, 2, 1]
def pAH7 : List Nat := [1, 4, 1, 1, 1, 1, 0, 1, 4, 4, 1, 1, 0, 4, 1, 1, 1]
def pAH8 : List Nat := [1, 4, 1, 1, 1, 1, 0, 1, 4, 4, 1, 1, 1]
def pAH9 : List Nat := [1, 4, 1, 1, 1, 1, 0, 1, 4, 4]
def pAH10 : List Nat := [1, 4, 1, 1, 1, 1, 1, 1, 1]
def pAH11 : List Nat := [1, 4, 1, 1, 1, 1, 1]
end Go.Sx
section
namespace Go.Proofs.YthfpekhpeiebjaaGreatDoor
open Go.RowKit Go.Sx
theorem len20 {α : Type} {l : List α} (h : l.length = 20) : ∃ p0 p1 p2 p3 p4 p5 p6 p7 p8 p9 p10 p11 p12 p13 p14 p15 p16 p17 p18 p19, l = [p0, p1, p2, p3, p4, p5, p6, p7, p8, p9, p10, p11, p12, p13, p14, p15, p16, p17, p18, p19] := by
 match l, h with
 | [p0, p1, p2, p3, p4, p5, p6, p7, p8, p9, p10, p11, p12, p13, p14, p15, p16, p17, p18, p19], _ => exact ⟨p0, p1, p2, p3, p4, p5, p6, p7, p8, p9, p10, p11, p12, p13, p14, p15, p16, p17, p18, p19, rfl⟩
def kitN (v : List UInt8) : Int := match Lib.parseIntB 64 v with
 | .ok n => n
 | .range => Lib.intSat 64 v
 | _ => 0
def kindsB : List ByteArray := [⟨#[]⟩, ⟨#[116, 117, 109, 98, 108, 105, 110, 103]⟩, ⟨#[115, 108, 105, 100, 105, 110, 103]⟩, ⟨#[115, 101, 115, 115, 105, 111, 110]⟩]
def saysB : List ByteArray := [⟨#[110, 111]⟩, ⟨#[121, 101, 115]⟩]
def kitK (v : List UInt8) : Int := Lib.idxOfS kindsB (mkB v)
def kitS (v : List UInt8) : Int := Lib.idxOfS saysB (mkB v)
def badP : Value := .tuple #[.agg #[.int .i64 0, .int .i64 0, .int .i64 0, .int .i64 0, .int .i64 0, .int .i64 0, .int .i64 0, .int .i64 0, .int .i64 0, .bool false], .int .i64 211]
def kitA (t : ByteArray) (g s k sz sl of gp lt ea d : Int) : Value := bif jobE (wrongF g s k sz sl of gp lt ea) != 0 then badP else bif !((mkB (textW g s k sz sl of gp lt ea (d == 1))).toList == t.toList) then badP else
 .tuple #[.agg #[.int .i64 g, .int .i64 s, .int .i64 k, .int .i64 sz, .int .i64 sl, .int .i64 of, .int .i64 gp, .int .i64 lt, .int .i64 ea, .bool (d == 1)], .int .i64 0]
def kitP (t : ByteArray) : List (List UInt8) → Value
 | [_, p1, _, p3, _, p5, _, p7, _, p9, _, p11, _, p13, _, p15, _, p17, _, p19] => kitA t (kitN p1) (kitN p3) (kitK p5) (kitN p7) (kitN p9) (kitN p11) (kitN p13) (kitN p15) (kitN p17) (kitS p19)
 | _ => badP
theorem bad_len {t : ByteArray} {ps : List (List UInt8)} (h : ¬ ps.length = 20) : kitP t ps = badP := by
 unfold kitP
 split
 ·exact absurd rfl h
 rfl
theorem pint_any (v : List UInt8) (hv : v.length ≤ 1048576) (w : World) {tp1 tp2 : TypeId} {q1 q2 : Value} (h1 : w.var? Tryz.prog "strconv.ErrSyntax" = some #[.iface tp1 q1]) (h2 : w.var? Tryz.prog "strconv.ErrRange" = some #[.iface tp2 q2]) :
  Calls Tryz.prog 57 #[.string (mkB v), .int .i64 10, .int .i64 64] w fun e w' => ∃ x, e = .returned (.tuple #[.int .i64 (kitN v), x]) ∧ Below w.heap.size w w' := by
 have hs : (mkB v).size = v.length := mkB_size v
 unfold kitN
 cases hr : Lib.parseIntB 64 v with
 | ok n =>
  refine (Tryz.strconv_ParseInt_10_at64_ok (mkB v) (by omega) n hr w).mono fun e w' h => ⟨_, h.1, ?_⟩
  rcases h.2 with rfl | ⟨t, rfl⟩
  ·exact Below.refl _ _
  exact ⟨rfl, rfl, rfl, by rw [Lib.bytesWorld_size]; omega, fun j hj => Lib.bytesWorld_at_old w 5 t j hj⟩
 | range => exact (Tryz.strconv_ParseInt_10_at64_range_var (mkB v) (by omega) hr tp2 q2 w h2).mono fun e w' ⟨N, he, _, _, hb⟩ => ⟨_, he, hb⟩
 | _ => exact (Tryz.strconv_ParseInt_10_at64_syntax_var (mkB v) (by omega) (hr.trans rfl) tp1 q1 w h1).mono fun e w' ⟨N, he, _, _, hb⟩ => ⟨_, he, hb⟩
theorem cells_at {w : World} {b : Nat} {t : TypeId} {cs : Array Value} {f : Nat × Nat} {zs : List ByteArray} (hc : w.heap[b]? = some (.cells cs t f)) (he : cs.toList = zs.map Value.string) (j : Nat) (hj : j < zs.length) : w.cell? ⟨b, 0 + j, none⟩ = some (.string (zs.getD j ByteArray.empty)) := by
 have h1 : cs[0 + j]? = some (.string (zs.getD j ByteArray.empty)) := by
  rw [Nat.zero_add, ← Array.getElem?_toList, he, List.getElem?_map, List.getD_eq_getElem?_getD, List.getElem?_eq_getElem hj]
  rfl
 simp only [World.cell?, hc]
 exact h1
noncomputable def B28 : Code := (Tryz.f28.body).getD .skip
noncomputable def sq28 (p : List Nat) : Go.Sx.K := .seq (sub B28 p)
set_option maxHeartbeats 20000000 in
set_option maxRecDepth 100000 in
theorem parse_any (s : ByteArray) (hs : s.size ≤ 1048576) (w : World) (htab : Lib.TabIs Tryz.prog w "strings.asciiSpace" .u8 Lib.asciiSpaceTab) (htp : Lib.TabIs Tryz.prog w "internal/strconv.uint64pow10" .u64 Lib.pow10Tab)
  {tp1 tp2 : TypeId} {q1 q2 : Value} (hs1 : w.var? Tryz.prog "strconv.ErrSyntax" = some #[.iface tp1 q1]) (hs2 : w.var? Tryz.prog "strconv.ErrRange" = some #[.iface tp2 q2]) {m : Int} (hm : w.cell? ⟨1, 0, none⟩ = some (.int .i64 m)) :
  Calls Tryz.prog 28 #[.string s] w fun e w' => e = .returned (kitP s (pcs [] s.data.toList)) ∧ Below w.heap.size w w' := by
 generalize hps : pcs [] s.data.toList = ps
 by_cases h20 : ps.length = 20
 ·obtain ⟨p0, p1, p2, p3, p4, p5, p6, p7, p8, p9, p10, p11, p12, p13, p14, p15, p16, p17, p18, p19, rfl⟩ := len20 h20
  have hsh : ∀ p ∈ [p0, p1, p2, p3, p4, p5, p6, p7, p8, p9, p10, p11, p12, p13, p14, p15, p16, p17, p18, p19], p.length ≤ 1048576 := fun p hp => pcs_short hs (hps ▸ hp)
  refine enter (fn := Tryz.f28) (c := B28) [.so s] Tryz.func28 rfl rfl ?_
  refine zM [0, 2, 12] 1 ⟨pops B28 [1, 4, 0] 1, [(sq28 [1, 4, 1]), .scope], [(0, .so s), (2, .lp 0 0), (12, .so s)], [(zAH2, 25)]⟩ ?_
  refine At.newcall 52 [.so s, .v (.string ⟨#[32]⟩)] (.ls 0 0 20 20) [([.so (mkB p0), .so (mkB p1), .so (mkB p2), .so (mkB p3), .so (mkB p4), .so (mkB p5), .so (mkB p6), .so (mkB p7), .so (mkB p8), .so (mkB p9), .so (mkB p10), .so (mkB p11), .so (mkB p12), .so (mkB p13), .so (mkB p14), .so (mkB p15), .so (mkB p16), .so (mkB p17), .so (mkB p18), .so (mkB p19)], 9)] noF_stable (by kernel_rfl) (by kernel_rfl) (by kernel_rfl) (by kernel_rfl) (by kernel_rfl) (by kernel_rfl) (by kernel_rfl) (by kernel_rfl) (fun ρ w1 hm' hf => ?_) ?_
  ·have hk := split_row s hs w1 (cell_below hm hm'.below) (n := 20) (by rw [hps]; rfl)
   rw [hps] at hk
   exact hk
  refine zM [0, 2, 4, 5] 3 ⟨pops B28 [1, 4, 1, 1, 1, 1, 0, 0] 0, [(sq28 [1, 4, 1, 1, 1, 1, 0, 1]), (sq28 pAH11), .scope], [(0, .so s), (2, .lp 0 0), (4, .ls 1 0 20 20), (5, .lp 2 0)], [(zAH2, 25), ([.so (mkB p0), .so (mkB p1), .so (mkB p2), .so (mkB p3), .so (mkB p4), .so (mkB p5), .so (mkB p6), .so (mkB p7), .so (mkB p8), .so (mkB p9), .so (mkB p10), .so (mkB p11), .so (mkB p12), .so (mkB p13), .so (mkB p14), .so (mkB p15), .so (mkB p16), .so (mkB p17), .so (mkB p18), .so (mkB p19)], 9), (zAH3, 105)]⟩ ?_
  refine At.newcall 53 [] (.ls 0 0 10 10) [(wordsL, 9)] noF_stable (by kernel_rfl) (by kernel_rfl) (by kernel_rfl) (by kernel_rfl) (by kernel_rfl) (by kernel_rfl) (by kernel_rfl) (by kernel_rfl) (fun ρ w1 hm hf => words_any w1 (tab_below htab hm.below rfl)) ?_
  refine zM [0, 2, 4, 5, 18, 19, 20, 47, 48] 4 ⟨pops B28 pAH7 2, [.block 1, (sq28 pAH8), .rounds (sub B28 pAH9) 19, .block 0, (sq28 pAH11), .scope], [(0, .so s), (2, .lp 0 0), (4, .ls 1 0 20 20), (5, .lp 2 0), (18, .ls 3 0 10 10), (19, .v (.int .i64 10)), (20, .v (.int .i64 0)), (47, .v (.int .i64 0)), (48, .so (mkB p1))], [(zAH2, 25), ([.so (mkB p0), .so (mkB p1), .so (mkB p2), .so (mkB p3), .so (mkB p4), .so (mkB p5), .so (mkB p6), .so (mkB p7), .so (mkB p8), .so (mkB p9), .so (mkB p10), .so (mkB p11), .so (mkB p12), .so (mkB p13), .so (mkB p14), .so (mkB p15), .so (mkB p16), .so (mkB p17), .so (mkB p18), .so (mkB p19)], 9), (zAH3, 105), (zAH0, 9)]⟩ ?_
  refine At.callx noF_stable (X := Value) 57 [.so (mkB p1), .v (.int .i64 10), .v (.int .i64 64)] (fun x => .tup [.io .i64 (kitN p1), .v x]) (fun _ _ _ => True) (fun _ => fun _ _ _ _ _ _ h => h) (by kernel_rfl) (by kernel_rfl) (by kernel_rfl) (by kernel_rfl) (fun ρ a w1 hi hf => ?_) fun xp1 => ?_
  ·exact (pint_any p1 (hsh p1 (by simp)) w1 (var_below hs1 hi.mem.below) (var_below hs2 hi.mem.below)).mono fun e' w' ⟨x, he, hb⟩ => ⟨x, he, hb, trivial⟩
  refine At.mono (F' := noF) (fun ρ w1 h => h.1) ?_
  refine zM [0, 2, 4, 5, 18, 19, 20, 47, 48] 4 ⟨pops B28 pAH7 2, [.block 1, (sq28 pAH8), .rounds (sub B28 pAH9) 18, .block 0, (sq28 pAH11), .scope], [(0, .so s), (2, .lp 0 0), (4, .ls 1 0 20 20), (5, .lp 2 0), (18, .ls 3 0 10 10), (19, .v (.int .i64 10)), (20, .v (.int .i64 1)), (47, .v (.int .i64 1)), (48, .so (mkB p3))], [(zAH2, 25), ([.so (mkB p0), .so (mkB p1), .so (mkB p2), .so (mkB p3), .so (mkB p4), .so (mkB p5), .so (mkB p6), .so (mkB p7), .so (mkB p8), .so (mkB p9), .so (mkB p10), .so (mkB p11), .so (mkB p12), .so (mkB p13), .so (mkB p14), .so (mkB p15), .so (mkB p16), .so (mkB p17), .so (mkB p18), .so (mkB p19)], 9), ([.io .i64 (kitN p1), .v (.int .i64 0), .v (.int .i64 0), .v (.int .i64 0), .v (.int .i64 0), .v (.int .i64 0), .v (.int .i64 0), .v (.int .i64 0), .v (.int .i64 0), .v (.int .i64 0)], 105), (zAH0, 9)]⟩ ?_
  refine At.callx noF_stable (X := Value) 57 [.so (mkB p3), .v (.int .i64 10), .v (.int .i64 64)] (fun x => .tup [.io .i64 (kitN p3), .v x]) (fun _ _ _ => True) (fun _ => fun _ _ _ _ _ _ h => h) (by kernel_rfl) (by kernel_rfl) (by kernel_rfl) (by kernel_rfl) (fun ρ a w1 hi hf => ?_) fun xp3 => ?_
  ·exact (pint_any p3 (hsh p3 (by simp)) w1 (var_below hs1 hi.mem.below) (var_below hs2 hi.mem.below)).mono fun e' w' ⟨x, he, hb⟩ => ⟨x, he, hb, trivial⟩
  refine At.mono (F' := noF) (fun ρ w1 h => h.1) ?_
  refine zM [0, 2, 4, 5, 8, 18, 19, 20, 34] 4 ⟨pops B28 pAH5 1, [(sq28 pAH6), .block 2, (sq28 pAH7), .block 1, (sq28 pAH8), .rounds (sub B28 pAH9) 17, .block 0, (sq28 pAH11), .scope], [(0, .so s), (2, .lp 0 0), (4, .ls 1 0 20 20), (5, .lp 2 0), (8, .so (mkB p5)), (18, .ls 3 0 10 10), (19, .v (.int .i64 10)), (20, .v (.int .i64 2)), (34, .v (.int .i64 2))], [(zAH2, 25), ([.so (mkB p0), .so (mkB p1), .so (mkB p2), .so (mkB p3), .so (mkB p4), .so (mkB p5), .so (mkB p6), .so (mkB p7), .so (mkB p8), .so (mkB p9), .so (mkB p10), .so (mkB p11), .so (mkB p12), .so (mkB p13), .so (mkB p14), .so (mkB p15), .so (mkB p16), .so (mkB p17), .so (mkB p18), .so (mkB p19)], 9), ([.io .i64 (kitN p1), .io .i64 (kitN p3), .v (.int .i64 0), .v (.int .i64 0), .v (.int .i64 0), .v (.int .i64 0), .v (.int .i64 0), .v (.int .i64 0), .v (.int .i64 0), .v (.int .i64 0)], 105), (zAH0, 9)]⟩ ?_
  refine At.newcall 55 [] (.ls 0 0 4 4) [([.v (.string ⟨#[]⟩), .v (.string ⟨#[116, 117, 109, 98, 108, 105, 110, 103]⟩), .v (.string ⟨#[115, 108, 105, 100, 105, 110, 103]⟩), .v (.string ⟨#[115, 101, 115, 115, 105, 111, 110]⟩)], 9)] noF_stable (by kernel_rfl) (by kernel_rfl) (by kernel_rfl) (by kernel_rfl) (by kernel_rfl) (by kernel_rfl) (by kernel_rfl) (by kernel_rfl) (fun ρ w1 _ _ => kinds_any w1) ?_
  refine zM [0, 2, 4, 5, 18, 19, 20, 34, 35, 36] 5 ⟨pops B28 pAH5 3, [(sq28 pAH6), .block 2, (sq28 pAH7), .block 1, (sq28 pAH8), .rounds (sub B28 pAH9) 17, .block 0, (sq28 pAH11), .scope], [(0, .so s), (2, .lp 0 0), (4, .ls 1 0 20 20), (5, .lp 2 0), (18, .ls 3 0 10 10), (19, .v (.int .i64 10)), (20, .v (.int .i64 2)), (34, .v (.int .i64 2)), (35, .ls 4 0 4 4), (36, .so (mkB p5))], [(zAH2, 25), ([.so (mkB p0), .so (mkB p1), .so (mkB p2), .so (mkB p3), .so (mkB p4), .so (mkB p5), .so (mkB p6), .so (mkB p7), .so (mkB p8), .so (mkB p9), .so (mkB p10), .so (mkB p11), .so (mkB p12), .so (mkB p13), .so (mkB p14), .so (mkB p15), .so (mkB p16), .so (mkB p17), .so (mkB p18), .so (mkB p19)], 9), ([.io .i64 (kitN p1), .io .i64 (kitN p3), .v (.int .i64 0), .v (.int .i64 0), .v (.int .i64 0), .v (.int .i64 0), .v (.int .i64 0), .v (.int .i64 0), .v (.int .i64 0), .v (.int .i64 0)], 105), (zAH0, 9), ([.v (.string (ByteArray.mk #[])), .v (.string (ByteArray.mk #[116, 117, 109, 98, 108, 105, 110, 103])), .v (.string (ByteArray.mk #[115, 108, 105, 100, 105, 110, 103])), .v (.string (ByteArray.mk #[115, 101, 115, 115, 105, 111, 110]))], 9)]⟩ ?_
  refine zC noF_stable 54 [.ls 4 0 4 4, .so (mkB p5)] (.io .i64 (kitK p5)) (fun ρ a w1 hi hf => ?_) ?_
  ·have hc := hi.mem.cells 4 _ _ rfl
   refine (Tryz.slices_Index_string (nth ρ 4) 0 4 4 kindsB (mkB p5) w1 (by decide) (by decide) (fun j hj => ?_)).mono fun e' w' h => ⟨h.1, h.2 ▸ Below.refl _ _⟩
   exact cells_at hc (by kernel_rfl) j hj
  refine zM [0, 2, 4, 5, 18, 19, 20, 47, 48] 4 ⟨pops B28 pAH7 2, [.block 1, (sq28 pAH8), .rounds (sub B28 pAH9) 16, .block 0, (sq28 pAH11), .scope], [(0, .so s), (2, .lp 0 0), (4, .ls 1 0 20 20), (5, .lp 2 0), (18, .ls 3 0 10 10), (19, .v (.int .i64 10)), (20, .v (.int .i64 3)), (47, .v (.int .i64 3)), (48, .so (mkB p7))], [(zAH2, 25), ([.so (mkB p0), .so (mkB p1), .so (mkB p2), .so (mkB p3), .so (mkB p4), .so (mkB p5), .so (mkB p6), .so (mkB p7), .so (mkB p8), .so (mkB p9), .so (mkB p10), .so (mkB p11), .so (mkB p12), .so (mkB p13), .so (mkB p14), .so (mkB p15), .so (mkB p16), .so (mkB p17), .so (mkB p18), .so (mkB p19)], 9), ([.io .i64 (kitN p1), .io .i64 (kitN p3), .io .i64 (kitK p5), .v (.int .i64 0), .v (.int .i64 0), .v (.int .i64 0), .v (.int .i64 0), .v (.int .i64 0), .v (.int .i64 0), .v (.int .i64 0)], 105), (zAH0, 9)]⟩ ?_
  refine At.callx noF_stable (X := Value) 57 [.so (mkB p7), .v (.int .i64 10), .v (.int .i64 64)] (fun x => .tup [.io .i64 (kitN p7), .v x]) (fun _ _ _ => True) (fun _ => fun _ _ _ _ _ _ h => h) (by kernel_rfl) (by kernel_rfl) (by kernel_rfl) (by kernel_rfl) (fun ρ a w1 hi hf => ?_) fun xp7 => ?_
  ·exact (pint_any p7 (hsh p7 (by simp)) w1 (var_below hs1 hi.mem.below) (var_below hs2 hi.mem.below)).mono fun e' w' ⟨x, he, hb⟩ => ⟨x, he, hb, trivial⟩
  refine At.mono (F' := noF) (fun ρ w1 h => h.1) ?_
  refine zM [0, 2, 4, 5, 18, 19, 20, 47, 48] 4 ⟨pops B28 pAH7 2, [.block 1, (sq28 pAH8), .rounds (sub B28 pAH9) 15, .block 0, (sq28 pAH11), .scope], [(0, .so s), (2, .lp 0 0), (4, .ls 1 0 20 20), (5, .lp 2 0), (18, .ls 3 0 10 10), (19, .v (.int .i64 10)), (20, .v (.int .i64 4)), (47, .v (.int .i64 4)), (48, .so (mkB p9))], [(zAH2, 25), ([.so (mkB p0), .so (mkB p1), .so (mkB p2), .so (mkB p3), .so (mkB p4), .so (mkB p5), .so (mkB p6), .so (mkB p7), .so (mkB p8), .so (mkB p9), .so (mkB p10), .so (mkB p11), .so (mkB p12), .so (mkB p13), .so (mkB p14), .so (mkB p15), .so (mkB p16), .so (mkB p17), .so (mkB p18), .so (mkB p19)], 9), ([.io .i64 (kitN p1), .io .i64 (kitN p3), .io .i64 (kitK p5), .io .i64 (kitN p7), .v (.int .i64 0), .v (.int .i64 0), .v (.int .i64 0), .v (.int .i64 0), .v (.int .i64 0), .v (.int .i64 0)], 105), (zAH0, 9)]⟩ ?_
  refine At.callx noF_stable (X := Value) 57 [.so (mkB p9), .v (.int .i64 10), .v (.int .i64 64)] (fun x => .tup [.io .i64 (kitN p9), .v x]) (fun _ _ _ => True) (fun _ => fun _ _ _ _ _ _ h => h) (by kernel_rfl) (by kernel_rfl) (by kernel_rfl) (by kernel_rfl) (fun ρ a w1 hi hf => ?_) fun xp9 => ?_
  ·exact (pint_any p9 (hsh p9 (by simp)) w1 (var_below hs1 hi.mem.below) (var_below hs2 hi.mem.below)).mono fun e' w' ⟨x, he, hb⟩ => ⟨x, he, hb, trivial⟩
  refine At.mono (F' := noF) (fun ρ w1 h => h.1) ?_
  refine zM [0, 2, 4, 5, 18, 19, 20, 47, 48] 4 ⟨pops B28 pAH7 2, [.block 1, (sq28 pAH8), .rounds (sub B28 pAH9) 14, .block 0, (sq28 pAH11), .scope], [(0, .so s), (2, .lp 0 0), (4, .ls 1 0 20 20), (5, .lp 2 0), (18, .ls 3 0 10 10), (19, .v (.int .i64 10)), (20, .v (.int .i64 5)), (47, .v (.int .i64 5)), (48, .so (mkB p11))], [(zAH2, 25), ([.so (mkB p0), .so (mkB p1), .so (mkB p2), .so (mkB p3), .so (mkB p4), .so (mkB p5), .so (mkB p6), .so (mkB p7), .so (mkB p8), .so (mkB p9), .so (mkB p10), .so (mkB p11), .so (mkB p12), .so (mkB p13), .so (mkB p14), .so (mkB p15), .so (mkB p16), .so (mkB p17), .so (mkB p18), .so (mkB p19)], 9), ([.io .i64 (kitN p1), .io .i64 (kitN p3), .io .i64 (kitK p5), .io .i64 (kitN p7), .io .i64 (kitN p9), .v (.int .i64 0), .v (.int .i64 0), .v (.int .i64 0), .v (.int .i64 0), .v (.int .i64 0)], 105), (zAH0, 9)]⟩ ?_
  refine At.callx noF_stable (X := Value) 57 [.so (mkB p11), .v (.int .i64 10), .v (.int .i64 64)] (fun x => .tup [.io .i64 (kitN p11), .v x]) (fun _ _ _ => True) (fun _ => fun _ _ _ _ _ _ h => h) (by kernel_rfl) (by kernel_rfl) (by kernel_rfl) (by kernel_rfl) (fun ρ a w1 hi hf => ?_) fun xp11 => ?_
  ·exact (pint_any p11 (hsh p11 (by simp)) w1 (var_below hs1 hi.mem.below) (var_below hs2 hi.mem.below)).mono fun e' w' ⟨x, he, hb⟩ => ⟨x, he, hb, trivial⟩
  refine At.mono (F' := noF) (fun ρ w1 h => h.1) ?_
  refine zM [0, 2, 4, 5, 18, 19, 20, 47, 48] 4 ⟨pops B28 pAH7 2, [.block 1, (sq28 pAH8), .rounds (sub B28 pAH9) 13, .block 0, (sq28 pAH11), .scope], [(0, .so s), (2, .lp 0 0), (4, .ls 1 0 20 20), (5, .lp 2 0), (18, .ls 3 0 10 10), (19, .v (.int .i64 10)), (20, .v (.int .i64 6)), (47, .v (.int .i64 6)), (48, .so (mkB p13))], [(zAH2, 25), ([.so (mkB p0), .so (mkB p1), .so (mkB p2), .so (mkB p3), .so (mkB p4), .so (mkB p5), .so (mkB p6), .so (mkB p7), .so (mkB p8), .so (mkB p9), .so (mkB p10), .so (mkB p11), .so (mkB p12), .so (mkB p13), .so (mkB p14), .so (mkB p15), .so (mkB p16), .so (mkB p17), .so (mkB p18), .so (mkB p19)], 9), ([.io .i64 (kitN p1), .io .i64 (kitN p3), .io .i64 (kitK p5), .io .i64 (kitN p7), .io .i64 (kitN p9), .io .i64 (kitN p11), .v (.int .i64 0), .v (.int .i64 0), .v (.int .i64 0), .v (.int .i64 0)], 105), (zAH0, 9)]⟩ ?_
  refine At.callx noF_stable (X := Value) 57 [.so (mkB p13), .v (.int .i64 10), .v (.int .i64 64)] (fun x => .tup [.io .i64 (kitN p13), .v x]) (fun _ _ _ => True) (fun _ => fun _ _ _ _ _ _ h => h) (by kernel_rfl) (by kernel_rfl) (by kernel_rfl) (by kernel_rfl) (fun ρ a w1 hi hf => ?_) fun xp13 => ?_
  ·exact (pint_any p13 (hsh p13 (by simp)) w1 (var_below hs1 hi.mem.below) (var_below hs2 hi.mem.below)).mono fun e' w' ⟨x, he, hb⟩ => ⟨x, he, hb, trivial⟩
  refine At.mono (F' := noF) (fun ρ w1 h => h.1) ?_
  refine zM [0, 2, 4, 5, 18, 19, 20, 47, 48] 4 ⟨pops B28 pAH7 2, [.block 1, (sq28 pAH8), .rounds (sub B28 pAH9) 12, .block 0, (sq28 pAH11), .scope], [(0, .so s), (2, .lp 0 0), (4, .ls 1 0 20 20), (5, .lp 2 0), (18, .ls 3 0 10 10), (19, .v (.int .i64 10)), (20, .v (.int .i64 7)), (47, .v (.int .i64 7)), (48, .so (mkB p15))], [(zAH2, 25), ([.so (mkB p0), .so (mkB p1), .so (mkB p2), .so (mkB p3), .so (mkB p4), .so (mkB p5), .so (mkB p6), .so (mkB p7), .so (mkB p8), .so (mkB p9), .so (mkB p10), .so (mkB p11), .so (mkB p12), .so (mkB p13), .so (mkB p14), .so (mkB p15), .so (mkB p16), .so (mkB p17), .so (mkB p18), .so (mkB p19)], 9), ([.io .i64 (kitN p1), .io .i64 (kitN p3), .io .i64 (kitK p5), .io .i64 (kitN p7), .io .i64 (kitN p9), .io .i64 (kitN p11), .io .i64 (kitN p13), .v (.int .i64 0), .v (.int .i64 0), .v (.int .i64 0)], 105), (zAH0, 9)]⟩ ?_
  refine At.callx noF_stable (X := Value) 57 [.so (mkB p15), .v (.int .i64 10), .v (.int .i64 64)] (fun x => .tup [.io .i64 (kitN p15), .v x]) (fun _ _ _ => True) (fun _ => fun _ _ _ _ _ _ h => h) (by kernel_rfl) (by kernel_rfl) (by kernel_rfl) (by kernel_rfl) (fun ρ a w1 hi hf => ?_) fun xp15 => ?_
  ·exact (pint_any p15 (hsh p15 (by simp)) w1 (var_below hs1 hi.mem.below) (var_below hs2 hi.mem.below)).mono fun e' w' ⟨x, he, hb⟩ => ⟨x, he, hb, trivial⟩
  refine At.mono (F' := noF) (fun ρ w1 h => h.1) ?_
  refine zM [0, 2, 4, 5, 18, 19, 20, 47, 48] 4 ⟨pops B28 pAH7 2, [.block 1, (sq28 pAH8), .rounds (sub B28 pAH9) 11, .block 0, (sq28 pAH11), .scope], [(0, .so s), (2, .lp 0 0), (4, .ls 1 0 20 20), (5, .lp 2 0), (18, .ls 3 0 10 10), (19, .v (.int .i64 10)), (20, .v (.int .i64 8)), (47, .v (.int .i64 8)), (48, .so (mkB p17))], [(zAH2, 25), ([.so (mkB p0), .so (mkB p1), .so (mkB p2), .so (mkB p3), .so (mkB p4), .so (mkB p5), .so (mkB p6), .so (mkB p7), .so (mkB p8), .so (mkB p9), .so (mkB p10), .so (mkB p11), .so (mkB p12), .so (mkB p13), .so (mkB p14), .so (mkB p15), .so (mkB p16), .so (mkB p17), .so (mkB p18), .so (mkB p19)], 9), ([.io .i64 (kitN p1), .io .i64 (kitN p3), .io .i64 (kitK p5), .io .i64 (kitN p7), .io .i64 (kitN p9), .io .i64 (kitN p11), .io .i64 (kitN p13), .io .i64 (kitN p15), .v (.int .i64 0), .v (.int .i64 0)], 105), (zAH0, 9)]⟩ ?_
  refine At.callx noF_stable (X := Value) 57 [.so (mkB p17), .v (.int .i64 10), .v (.int .i64 64)] (fun x => .tup [.io .i64 (kitN p17), .v x]) (fun _ _ _ => True) (fun _ => fun _ _ _ _ _ _ h => h) (by kernel_rfl) (by kernel_rfl) (by kernel_rfl) (by kernel_rfl) (fun ρ a w1 hi hf => ?_) fun xp17 => ?_
  ·exact (pint_any p17 (hsh p17 (by simp)) w1 (var_below hs1 hi.mem.below) (var_below hs2 hi.mem.below)).mono fun e' w' ⟨x, he, hb⟩ => ⟨x, he, hb, trivial⟩
  refine At.mono (F' := noF) (fun ρ w1 h => h.1) ?_
  refine zM [0, 2, 4, 5, 8, 18, 19, 20, 41] 4 ⟨pops B28 pAH4 1, [(sq28 pAH6), .block 2, (sq28 pAH7), .block 1, (sq28 pAH8), .rounds (sub B28 pAH9) 10, .block 0, (sq28 pAH11), .scope], [(0, .so s), (2, .lp 0 0), (4, .ls 1 0 20 20), (5, .lp 2 0), (8, .so (mkB p19)), (18, .ls 3 0 10 10), (19, .v (.int .i64 10)), (20, .v (.int .i64 9)), (41, .v (.int .i64 9))], [(zAH2, 25), ([.so (mkB p0), .so (mkB p1), .so (mkB p2), .so (mkB p3), .so (mkB p4), .so (mkB p5), .so (mkB p6), .so (mkB p7), .so (mkB p8), .so (mkB p9), .so (mkB p10), .so (mkB p11), .so (mkB p12), .so (mkB p13), .so (mkB p14), .so (mkB p15), .so (mkB p16), .so (mkB p17), .so (mkB p18), .so (mkB p19)], 9), ([.io .i64 (kitN p1), .io .i64 (kitN p3), .io .i64 (kitK p5), .io .i64 (kitN p7), .io .i64 (kitN p9), .io .i64 (kitN p11), .io .i64 (kitN p13), .io .i64 (kitN p15), .io .i64 (kitN p17), .v (.int .i64 0)], 105), (zAH0, 9)]⟩ ?_
  refine At.newcall 56 [] (.ls 0 0 2 2) [([.v (.string ⟨#[110, 111]⟩), .v (.string ⟨#[121, 101, 115]⟩)], 9)] noF_stable (by kernel_rfl) (by kernel_rfl) (by kernel_rfl) (by kernel_rfl) (by kernel_rfl) (by kernel_rfl) (by kernel_rfl) (by kernel_rfl) (fun ρ w1 _ _ => says_any w1) ?_
  refine zM [0, 2, 4, 5, 18, 19, 20, 41, 42, 43] 5 ⟨pops B28 pAH4 3, [(sq28 pAH6), .block 2, (sq28 pAH7), .block 1, (sq28 pAH8), .rounds (sub B28 pAH9) 10, .block 0, (sq28 pAH11), .scope], [(0, .so s), (2, .lp 0 0), (4, .ls 1 0 20 20), (5, .lp 2 0), (18, .ls 3 0 10 10), (19, .v (.int .i64 10)), (20, .v (.int .i64 9)), (41, .v (.int .i64 9)), (42, .ls 4 0 2 2), (43, .so (mkB p19))], [(zAH2, 25), ([.so (mkB p0), .so (mkB p1), .so (mkB p2), .so (mkB p3), .so (mkB p4), .so (mkB p5), .so (mkB p6), .so (mkB p7), .so (mkB p8), .so (mkB p9), .so (mkB p10), .so (mkB p11), .so (mkB p12), .so (mkB p13), .so (mkB p14), .so (mkB p15), .so (mkB p16), .so (mkB p17), .so (mkB p18), .so (mkB p19)], 9), ([.io .i64 (kitN p1), .io .i64 (kitN p3), .io .i64 (kitK p5), .io .i64 (kitN p7), .io .i64 (kitN p9), .io .i64 (kitN p11), .io .i64 (kitN p13), .io .i64 (kitN p15), .io .i64 (kitN p17), .v (.int .i64 0)], 105), (zAH0, 9), ([.v (.string (ByteArray.mk #[110, 111])), .v (.string (ByteArray.mk #[121, 101, 115]))], 9)]⟩ ?_
  refine zC noF_stable 54 [.ls 4 0 2 2, .so (mkB p19)] (.io .i64 (kitS p19)) (fun ρ a w1 hi hf => ?_) ?_
  ·have hc := hi.mem.cells 4 _ _ rfl
   refine (Tryz.slices_Index_string (nth ρ 4) 0 2 2 saysB (mkB p19) w1 (by decide) (by decide) (fun j hj => ?_)).mono fun e' w' h => ⟨h.1, h.2 ▸ Below.refl _ _⟩
   exact cells_at hc (by kernel_rfl) j hj
  refine zM [0, 2, 54] 1 ⟨pops B28 [1, 4, 1, 1, 1, 1, 1, 0] 1, [(sq28 [1, 4, 1, 1, 1, 1, 1, 1]), .scope], [(0, .so s), (2, .lp 0 0), (54, .agg [.io .i64 (kitN p1), .io .i64 (kitN p3), .io .i64 (kitK p5), .io .i64 (kitN p7), .io .i64 (kitN p9), .io .i64 (kitN p11), .io .i64 (kitN p13), .io .i64 (kitN p15), .io .i64 (kitN p17), .io .i64 (kitS p19)])], [(zAH2, 25)]⟩ ?_
  refine zC noF_stable 58 [.agg [.io .i64 (kitN p1), .io .i64 (kitN p3), .io .i64 (kitK p5), .io .i64 (kitN p7), .io .i64 (kitN p9), .io .i64 (kitN p11), .io .i64 (kitN p13), .io .i64 (kitN p15), .io .i64 (kitN p17), .io .i64 (kitS p19)]] (.agg (cfgL (kitN p1) (kitN p3) (kitK p5) (kitN p7) (kitN p9) (kitN p11) (kitN p13) (kitN p15) (kitN p17) (kitS p19 == 1))) (fun ρ a w1 hi hf => of_any (kitN p1) (kitN p3) (kitK p5) (kitN p7) (kitN p9) (kitN p11) (kitN p13) (kitN p15) (kitN p17) (kitS p19) w1) ?_
  refine zM [0, 2, 9, 57] 2 ⟨pops B28 [1, 4, 1, 1, 1, 1, 1, 1, 0, 0] 1, [(sq28 [1, 4, 1, 1, 1, 1, 1, 1, 0, 1]), (sq28 pAH10), .scope], [(0, .so s), (2, .lp 0 0), (9, .lp 1 0), (57, .agg [.io .i64 (kitN p1), .io .i64 (kitN p3), .io .i64 (kitK p5), .io .i64 (kitN p7), .io .i64 (kitN p9), .io .i64 (kitN p11), .io .i64 (kitN p13), .io .i64 (kitN p15), .io .i64 (kitN p17), .bo (kitS p19 == 1)])], [(zAH2, 25), ([.io .i64 (kitN p1), .io .i64 (kitN p3), .io .i64 (kitK p5), .io .i64 (kitN p7), .io .i64 (kitN p9), .io .i64 (kitN p11), .io .i64 (kitN p13), .io .i64 (kitN p15), .io .i64 (kitN p17), .bo (kitS p19 == 1)], 25)]⟩ ?_
  refine zC noF_stable 36 [.agg [.io .i64 (kitN p1), .io .i64 (kitN p3), .io .i64 (kitK p5), .io .i64 (kitN p7), .io .i64 (kitN p9), .io .i64 (kitN p11), .io .i64 (kitN p13), .io .i64 (kitN p15), .io .i64 (kitN p17), .bo (kitS p19 == 1)]] (.tup [.so (mkB (bif jobE (wrongF (kitN p1) (kitN p3) (kitK p5) (kitN p7) (kitN p9) (kitN p11) (kitN p13) (kitN p15) (kitN p17)) != 0 then [] else textW (kitN p1) (kitN p3) (kitK p5) (kitN p7) (kitN p9) (kitN p11) (kitN p13) (kitN p15) (kitN p17) (kitS p19 == 1))), .io .i64 (jobE (wrongF (kitN p1) (kitN p3) (kitK p5) (kitN p7) (kitN p9) (kitN p11) (kitN p13) (kitN p15) (kitN p17)))]) (fun ρ a w1 hi hf => text_any (kitN p1) (kitN p3) (kitK p5) (kitN p7) (kitN p9) (kitN p11) (kitN p13) (kitN p15) (kitN p17) (kitS p19 == 1) w1 (tab_below htab hi.mem.below rfl) (tab_below htp hi.mem.below rfl)) ?_
  refine zM [0, 2, 9, 10, 63] 2 ⟨pops B28 [1, 4, 1, 1, 1, 1, 1, 1, 0, 1, 0] 3, [(sq28 [1, 4, 1, 1, 1, 1, 1, 1, 0, 1, 1]), (sq28 pAH10), .scope], [(0, .so s), (2, .lp 0 0), (9, .lp 1 0), (10, .so (mkB (bif jobE (wrongF (kitN p1) (kitN p3) (kitK p5) (kitN p7) (kitN p9) (kitN p11) (kitN p13) (kitN p15) (kitN p17)) != 0 then [] else textW (kitN p1) (kitN p3) (kitK p5) (kitN p7) (kitN p9) (kitN p11) (kitN p13) (kitN p15) (kitN p17) (kitS p19 == 1)))), (63, .bo (jobE (wrongF (kitN p1) (kitN p3) (kitK p5) (kitN p7) (kitN p9) (kitN p11) (kitN p13) (kitN p15) (kitN p17)) != 0))], [(zAH2, 25), ([.io .i64 (kitN p1), .io .i64 (kitN p3), .io .i64 (kitK p5), .io .i64 (kitN p7), .io .i64 (kitN p9), .io .i64 (kitN p11), .io .i64 (kitN p13), .io .i64 (kitN p15), .io .i64 (kitN p17), .bo (kitS p19 == 1)], 25)]⟩ ?_
  rcases zB (jobE (wrongF (kitN p1) (kitN p3) (kitK p5) (kitN p7) (kitN p9) (kitN p11) (kitN p13) (kitN p15) (kitN p17)) != 0) with b0 | b0
  ·refine zR 63 b0 ?_
   refine zM [2, 3] 1 ⟨.exit .ret, [], [(2, .lp 0 0), (3, .v (.int .i64 211))], [(zAH2, 25)]⟩ ?_
   refine zE (.tup zAH1) ?_
   intro ρ w9 hm' hf
   refine ⟨?_, hm'.below⟩
   simp only [kitP, kitA]
   rw [b0, cond_true]
   rfl
  refine zR 63 b0 ?_
  refine zM [2, 9, 67] 2 ⟨.code (sub B28 [1, 4, 1, 1, 1, 1, 1, 1, 0, 1, 1]), [(sq28 pAH10), .scope], [(2, .lp 0 0), (9, .lp 1 0), (67, .bo !(mkB (bif jobE (wrongF (kitN p1) (kitN p3) (kitK p5) (kitN p7) (kitN p9) (kitN p11) (kitN p13) (kitN p15) (kitN p17)) != 0 then [] else textW (kitN p1) (kitN p3) (kitK p5) (kitN p7) (kitN p9) (kitN p11) (kitN p13) (kitN p15) (kitN p17) (kitS p19 == 1))).toList == s.toList)], [(zAH2, 25), ([.io .i64 (kitN p1), .io .i64 (kitN p3), .io .i64 (kitK p5), .io .i64 (kitN p7), .io .i64 (kitN p9), .io .i64 (kitN p11), .io .i64 (kitN p13), .io .i64 (kitN p15), .io .i64 (kitN p17), .bo (kitS p19 == 1)], 25)]⟩ ?_
  rcases zB (!(mkB (bif jobE (wrongF (kitN p1) (kitN p3) (kitK p5) (kitN p7) (kitN p9) (kitN p11) (kitN p13) (kitN p15) (kitN p17)) != 0 then [] else textW (kitN p1) (kitN p3) (kitK p5) (kitN p7) (kitN p9) (kitN p11) (kitN p13) (kitN p15) (kitN p17) (kitS p19 == 1))).toList == s.toList) with b1 | b1
  ·refine zR 67 b1 ?_
   refine zM [2, 3] 1 ⟨.exit .ret, [], [(2, .lp 0 0), (3, .v (.int .i64 211))], [(zAH2, 25)]⟩ ?_
   refine zE (.tup zAH1) ?_
   intro ρ w9 hm' hf
   refine ⟨?_, hm'.below⟩
   simp only [kitP, kitA]
   rw [b0, cond_false] at b1
   rw [b0, b1, cond_false, cond_true]
   rfl
  refine zR 67 b1 ?_
  refine zM [2, 3] 1 ⟨.exit .ret, [], [(2, .lp 0 0), (3, .v (.int .i64 0))], [([.io .i64 (kitN p1), .io .i64 (kitN p3), .io .i64 (kitK p5), .io .i64 (kitN p7), .io .i64 (kitN p9), .io .i64 (kitN p11), .io .i64 (kitN p13), .io .i64 (kitN p15), .io .i64 (kitN p17), .bo (kitS p19 == 1)], 25)]⟩ ?_
  refine zE (.tup [.agg [.io .i64 (kitN p1), .io .i64 (kitN p3), .io .i64 (kitK p5), .io .i64 (kitN p7), .io .i64 (kitN p9), .io .i64 (kitN p11), .io .i64 (kitN p13), .io .i64 (kitN p15), .io .i64 (kitN p17), .bo (kitS p19 == 1)], .v (.int .i64 0)]) ?_
  intro ρ w9 hm' hf
  refine ⟨?_, hm'.below⟩
  simp only [kitP, kitA]
  rw [b0, cond_false] at b1
  rw [b0, b1, cond_false, cond_false]
  rfl
 refine enter (fn := Tryz.f28) (c := B28) [.so s] Tryz.func28 rfl rfl ?_
 refine zM [0, 2, 12] 1 ⟨pops B28 [1, 4, 0] 1, [(sq28 [1, 4, 1]), .scope], [(0, .so s), (2, .lp 0 0), (12, .so s)], [(zAH2, 25)]⟩ ?_
 refine At.callx noF_stable (X := Nat) 52 [.so s, .v (.string ⟨#[32]⟩)] (fun x => .sl (some ⟨x, 0, none⟩) ps.length ps.length) (fun _ _ _ => True) (fun _ => fun _ _ _ _ _ _ h => h) (by kernel_rfl) (by kernel_rfl) (by kernel_rfl) (by kernel_rfl) (fun ρ a w1 hi hf => ?_) fun x => ?_
 ·refine (Tryz.strings_Split s ⟨#[32]⟩ m w1 (by omega) (cell_below hm hi.mem.below) (by decide)).mono ?_
  rintro e w' ⟨rfl, rfl⟩
  rw [split_len, hps]
  exact ⟨_, rfl, (Below.refl _ _).alloc (Nat.le_refl _) _, trivial⟩
 refine At.mono (F' := noF) (fun ρ w1 h => h.1) ?_
 refine zM [0, 2, 4, 5, 16] 2 ⟨.code (sub B28 [1, 4, 1, 1, 0, 1]), [(sq28 [1, 4, 1, 1, 1]), .scope], [(0, .so s), (2, .lp 0 0), (4, .sl (some (Addr.mk x 0 none)) ps.length ps.length), (5, .lp 1 0), (16, .bo ((↑ps.length : Int) != 20))], [(zAH2, 25), (zAH3, 105)]⟩ ?_
 rcases zB ((↑ps.length : Int) != 20) with b0 | b0
 ·refine zR 16 b0 ?_
  refine zM [2, 3] 1 ⟨.exit .ret, [], [(2, .lp 0 0), (3, .v (.int .i64 211))], [(zAH2, 25)]⟩ ?_
  refine zE (.tup zAH1) ?_
  intro ρ w9 hm' hf
  refine ⟨?_, hm'.below⟩
  rw [bad_len h20]
  rfl
 refine zR 16 b0 ?_
 refine zM [0, 2, 4, 5] 2 ⟨pops B28 [1, 4, 1, 1, 1, 1, 0, 0] 0, [(sq28 [1, 4, 1, 1, 1, 1, 0, 1]), (sq28 pAH11), .scope], [(0, .so s), (2, .lp 0 0), (4, .sl (some (Addr.mk x 0 none)) ps.length ps.length), (5, .lp 1 0)], [(zAH2, 25), (zAH3, 105)]⟩ ?_
 exact absurd b0 (by simpa using fun e => h20 (by omega))
end Go.Proofs.YthfpekhpeiebjaaGreatDoor
end
section
namespace Go.Proofs.YthfpekhpeiebjaaGreatDoor
open Go.RowKit Go.Sx
theorem kindW_plain (k : Int) : ∀ b ∈ kindW k, b ≠ 32 := by
 unfold kindW
 split
 ·decide
 split <;> decide
theorem saysW_plain (d : Bool) : ∀ b ∈ saysW d, b ≠ 32 := by cases d <;> decide
theorem pcs_text {g s k sz sl of gp lt ea : Int} (hw : wrongR g s k sz sl of gp lt ea = 0) (d : Bool) : pcs [] (textW g s k sz sl of gp lt ea d) = weaveL wordsW (valsL g s k sz sl of gp lt ea d) := by
 obtain ⟨hv0, hv1, hv2, hv3, hv4, hv5, hv6, hv7, hv8⟩ := valid_of hw
 have e : weaveL wordsW (valsL g s k sz sl of gp lt ea d) = [103, 114, 111, 117, 112, 115] :: (weaveL wordsW (valsL g s k sz sl of gp lt ea d)).tail := rfl
 unfold textW
 rw [e]
 refine pcs_join _ _ ?_
 rw [← e]
 simp only [wordsW, weaveL, valsL, List.forall_mem_cons]
 refine ⟨by decide, itoa_plain (by omega), by decide, itoa_plain (by omega), by decide, kindW_plain k, by decide, itoa_plain (by omega), by decide, itoa_plain (by omega), by decide, itoa_plain (by omega), by decide, itoa_plain (by omega), by decide, itoa_plain (by omega), by decide, itoa_plain (by omega), by decide, saysW_plain d, by simp⟩
theorem kitN_itoa {n : Int} (h0 : 0 ≤ n) (h1 : n < 1000000000000000000) : kitN (Lib.itoa n) = n := by
 unfold kitN
 rw [parse_itoa ⟨by omega, by omega⟩]
theorem kitK_kind {k : Int} (h : k = 1 ∨ k = 2 ∨ k = 3) : kitK (kindW k) = k := by
 rcases h with rfl | rfl | rfl <;> decide +kernel
theorem kitS_says (d : Bool) : (kitS (saysW d) == 1) = d := by cases d <;> decide +kernel
theorem kit_fix {l p0 p1 p2 p3 p4 p5 p6 p7 p8 p9 p10 p11 p12 p13 p14 p15 p16 p17 p18 p19 : List UInt8} {g s k sz sl of gp lt ea : Int} {d : Bool} (hps : pcs [] l = [p0, p1, p2, p3, p4, p5, p6, p7, p8, p9, p10, p11, p12, p13, p14, p15, p16, p17, p18, p19])
  (hw : wrongR g s k sz sl of gp lt ea = 0) (ht : textW g s k sz sl of gp lt ea d = l) :
  kitN p1 = g ∧ kitN p3 = s ∧ kitK p5 = k ∧ kitN p7 = sz ∧ kitN p9 = sl ∧ kitN p11 = of ∧ kitN p13 = gp ∧ kitN p15 = lt ∧ kitN p17 = ea ∧ (kitS p19 == 1) = d := by
 have h := pcs_text hw d
 rw [ht, hps] at h
 obtain ⟨hv0, hv1, hv2, hv3, hv4, hv5, hv6, hv7, hv8⟩ := valid_of hw
 simp only [wordsW, weaveL, valsL, List.cons.injEq] at h
 obtain ⟨-, rfl, -, rfl, -, rfl, -, rfl, -, rfl, -, rfl, -, rfl, -, rfl, -, rfl, -, rfl, -⟩ := h
 exact ⟨kitN_itoa (by omega) (by omega), kitN_itoa (by omega) (by omega), kitK_kind hv2, kitN_itoa (by omega) (by omega), kitN_itoa (by omega) (by omega), kitN_itoa (by omega) (by omega), kitN_itoa (by omega) (by omega), kitN_itoa (by omega) (by omega), kitN_itoa (by omega) (by omega), kitS_says d⟩
theorem bytes_beq (x : List UInt8) (t : ByteArray) : ((mkB x).toList == t.toList) = decide (x = t.data.toList) := by
 rw [ByteArray.toList_eq, ByteArray.toList_eq, Bool.eq_iff_iff, beq_iff_eq, decide_eq_true_eq]
 exact Iff.rfl
theorem jobE_zero (n : Int) : (jobE n != 0) = (n != 0) := by
 unfold jobE
 split
 ·rename_i h
  subst h
  rfl
 rename_i h
 rw [show (n != 0) = true from by simpa using h]
 rfl
theorem kitA_ok {t : ByteArray} {g s k sz sl of gp lt ea d : Int} (hw : wrongR g s k sz sl of gp lt ea = 0) (ht : textW g s k sz sl of gp lt ea (d == 1) = t.data.toList) :
  kitA t g s k sz sl of gp lt ea d = .tuple #[.agg #[.int .i64 g, .int .i64 s, .int .i64 k, .int .i64 sz, .int .i64 sl, .int .i64 of, .int .i64 gp, .int .i64 lt, .int .i64 ea, .bool (d == 1)], .int .i64 0] := by
 unfold kitA
 rw [jobE_zero, wrong_eq, hw, bytes_beq, decide_eq_true ht]
 rfl
end Go.Proofs.YthfpekhpeiebjaaGreatDoor
end
section
namespace Go.Sx
open Go.RowKit
section
variable {P : Program} {ops : Array Oper} {md : Region.Mode} {Q : Exit → Act → World → Prop}
def drops (ds : List Nat) : Fr → Fr
 | [] => []
 | (k, s) :: l => if ds.contains k then drops ds l else (k, s) :: drops ds l
theorem look_drops {ds : List Nat} {t : Nat} {s : SV} : ∀ {fr : Fr}, look (drops ds fr) t = some s → look fr t = some s ∧ t ∉ ds
 | [], h => by cases h
 | (k, x) :: l, h => by
  simp only [drops] at h
  split at h
  ·rename_i hk
   obtain ⟨h1, h2⟩ := look_drops h
   refine ⟨?_, h2⟩
   simp only [look]
   split
   ·rename_i e
    have e := Nat.eq_of_beq_eq_true e
    subst e
    exact absurd (List.contains_iff_mem.1 hk) h2
   exact h1
  rename_i hk
  simp only [look] at h ⊢
  split at h
  ·rename_i e
   have e := Nat.eq_of_beq_eq_true e
   subst e
   simp only [Option.some.injEq] at h
   subst h
   refine ⟨rfl, fun hm => hk (List.contains_iff_mem.2 hm)⟩
  exact look_drops h
theorem AInv.drops_ {ntm : Nat} {ρ : List Nat} {fr : Fr} {a : Act} (h : AInv ntm ρ fr a) (ds : List Nat) : AInv ntm ρ (drops ds fr) a := ⟨h.defers, h.size, fun t s hs => h.slot t s (look_drops hs).1⟩
theorem AInv.over {ntm : Nat} {ρ : List Nat} {fr : Fr} {ds : List Nat} {a : Act} (h : AInv ntm ρ (drops ds fr) a) {d : Option Nat} (hd : ∀ t, d = some t → t ∈ ds) (u : Value) : AInv ntm ρ (drops ds fr) (a.put d u) := by
 cases d with
 | none => exact h
 | some d =>
  refine ⟨by simpa [Act.put] using h.defers, by simpa [Act.put] using h.size, fun t s hs => ?_⟩
  have hne : d ≠ t := fun e => (look_drops hs).2 (e ▸ hd d rfl)
  simp only [Act.put]
  rw [Array.getElem?_setIfInBounds_ne hne]
  exact h.slot t s hs
def unl (all : Array Oper) (listed : Array Bool) : List Oper := (List.range all.size).filterMap fun j => match listed.getD j true with
 | true => none
 | false => all[j]?
theorem mem_unl {all : Array Oper} {listed : Array Bool} {j : Nat} {o : Oper} (h : all[j]? = some o) (hl : listed.getD j true = false) : o ∈ unl all listed := by
 refine List.mem_filterMap.2 ⟨j, List.mem_range.2 (Array.getElem?_eq_some_iff.1 h).1, ?_⟩
 rw [hl]
 exact h
variable {N : Nat} {w0 : World} {ntm : Nat} {F : List Nat → World → Prop}
end
end Go.Sx
end
section
namespace Go.Sx
open Go.RowKit
section
variable {P : Program} {ops : Array Oper} {md : Region.Mode} {Q : Exit → Act → World → Prop}
variable {N : Nat} {w0 : World} {ntm : Nat} {F : List Nat → World → Prop}
end
end Go.Sx
end
section
/-! A map of one's own: made, looked up, written. -/
namespace Go.Sx
open Go.RowKit
section
variable {P : Program} {Q : Exit → Act → World → Prop} {N : Nat} {w0 : World} {ntm : Nat} {F : List Nat → World → Prop}
def mkQ (o : Oper) : Bool := match o.op with | .makeMap _ none => true | _ => false
def mkI (ntm : Nat) (s : S) : Bool := match s.head?, s.dstOk ntm, s.plain with
 | some o, true, true => mkQ o
 | _, _, _ => false
/-! ### whole elements stored into a row of one's own -/
def stnQ (P : Program) (fr : Fr) (o : Oper) : Option (Addr × List SV) :=
 match o.dst, o.op with
 | none, .store t x y => match evalS fr x, (evalS fr y).bind SV.cells?, sizeT P t with
  | some (.v (.pointer (some a))), some l, some n => match oneL l, Nat.beq l.length n with
   | true, true => some (a, l)
   | _, _ => none
  | _, _, _ => none
 | _, _ => none
theorem run_stnQ {ρ : List Nat} {fr : Fr} {a : Act} {w : World} (ha : AInv ntm ρ fr a) {o : Oper} {l : List SV} {b i : Nat} (h : stnQ P fr o = some (⟨b, i, none⟩, l)) (hc : ∀ j, j < l.length → (w.cell? ⟨b, i + j, none⟩).isSome = true) (hz : ∀ j, j < l.length → w.frozen? ⟨b, i + j, none⟩ = false) :
  o.dst = none ∧ (execOp a.eval o).run P w = .ok .skip (w.setCells b i (SV.denL ρ l)) := by
 obtain ⟨dst, op, ty, pos, after, guard⟩ := o
 unfold stnQ at h
 simp only at h
 split at h
 ·rename_i t x y
  split at h
  ·rename_i a' l' n' hx hy hn
   split at h
   ·rename_i hone hlen
    simp only [Option.some.injEq, Prod.mk.injEq] at h
    obtain ⟨rfl, rfl⟩ := h
    refine ⟨rfl, ?_⟩
    obtain ⟨s, hs, hcs⟩ := Option.bind_eq_some_iff.1 hy
    have hcells := SV.cells?_den (ρ := ρ) hcs
    have hlen := Nat.eq_of_beq_eq_true hlen
    have hl2 : (SV.denL ρ l').length = l'.length := by simp [SV.denL_eq]
    have hst := run_storeCells_cells (P := P) b i (SV.denL ρ l') 0 w (fun j hj => by simpa using hc j (by omega)) (fun j hj => by have h9 := hz j (by omega); first | exact h9 | (rw [Nat.zero_add]; exact h9) | (simp only [Nat.zero_add, Nat.add_zero]; exact h9)) (oneL_den hone)
    rw [Nat.add_zero] at hst
    unfold execOp
    simp only [evalS_sound ha hx, evalS_sound ha hs, SV.den, Instr.storeAt, Instr.sureAddr, storeVar, Sem.run_bind, Sem.run_pure, Result.andThen_ok, run_sizeT hn, hcells, List.size_toArray, hl2, hlen, ne_eq, not_true_eq_false, if_false, hst]
   cases h
  cases h
 cases h
theorem grown_trans {a b c : World} {row : Option Nat} (h : a.grownBy b row) (k : b.grownBy c row) : a.grownBy c row :=
 ⟨k.os.trans h.os, k.tape.trans h.tape, k.output.trans h.output, Nat.le_trans h.size k.size, fun i hi hn => (k.block i (Nat.lt_of_lt_of_le hi h.size) hn).trans (h.block i hi hn)⟩
theorem storedN {base e size n cap g : Nat} : ∀ (vs : List Value) (j : Nat) (w : World) (xs : List Value), w.ownsRow base e size (.slice (some ⟨g, 0, none⟩) n cap) n xs →
  ∃ xs', (w.setCells g j vs).ownsRow base e size (.slice (some ⟨g, 0, none⟩) n cap) n xs' ∧ w.grownBy (w.setCells g j vs) (some g)
 | [], j, w, xs, h => ⟨xs, h, rfl, rfl, rfl, Nat.le_refl _, fun _ _ _ => rfl⟩
 | v :: vs, j, w, xs, h => by
  obtain ⟨h1, h2⟩ := h.stored j v
  obtain ⟨xs', h3, h4⟩ := storedN vs (j + 1) _ _ h1
  exact ⟨xs', h3, grown_trans h2 h4⟩
def stnI (P : Program) (s : S) : Option (Addr × List SV) :=
 match s.head?, s.plain with
 | some o, true => stnQ P s.fr o
 | _, _ => none
end
end Go.Sx
end
section
/-! A strings.Builder of one's own, as a fact: a block of two places, and the row that is its buffer. -/
namespace Go.Sx
open Go.RowKit
section
variable {P : Program} {Q : Exit → Act → World → Prop} {N : Nat} {w0 : World} {ntm : Nat} {F : List Nat → World → Prop}
def BldG (T e B b : Nat) (p v : Value) (A : Option Addr) (n c : Nat) (xs : List Value) (ρ : List Nat) (w : World) : Prop :=
 w.heap[b]? = some (.cells #[p, v] T (0, 0)) ∧ Row B e 1 A n c xs ρ w ∧ b ∉ ρ ∧ B ≤ b
section
variable {T e B b : Nat} {p v : Value} {A : Option Addr} {n c : Nat} {xs : List Value} {ρ : List Nat} {w : World}
theorem BldG.lt (h : BldG T e B b p v A n c xs ρ w) : b < w.heap.size := (Array.getElem?_eq_some_iff.1 h.1).1
theorem BldG.stable : Stable (BldG T e B b p v A n c xs) := fun ρ w ρ' w' hg hk h => by
 refine ⟨(hk.block b h.lt h.2.2.1).trans h.1, h.2.1.keep hg hk, fun hm => ?_, h.2.2.2⟩
 rcases hg.of_mem hm with h1 | h1
 ·exact h.2.2.1 h1
 have := h.lt; omega
theorem BldG.fewer : FewerK 0 (BldG T e B b p v A n c xs) := fun ρ w k _ h => ⟨h.1, Row.fewer _ _ _ _ _ _ _ ρ w k h.2.1, fun hm => h.2.2.1 (List.mem_of_mem_take hm), h.2.2.2⟩
theorem BldG.own (h : BldG T e B b p v A n c xs ρ w) (hT : T ≠ e) : (Value.slice A n c).ownBlock ≠ some b := by
 intro hb
 rcases h.2.1.1.2 with ⟨h', _⟩ | ⟨g, cap, cur, hv, _, hg, _⟩
 ·rw [h'] at hb; cases hb
 rw [hv] at hb
 simp only [Value.ownBlock, Option.some.injEq] at hb
 subst hb
 rw [h.1] at hg
 injection hg with hg
 injection hg with _ hg _
 exact hT hg
theorem BldG.cell0 (h : BldG T e B b p v A n c xs ρ w) : w.cell? ⟨b, 0, none⟩ = some p := by simp [World.cell?, h.1]
theorem BldG.cell1 (h : BldG T e B b p v A n c xs ρ w) : w.cell? ⟨b, 1, none⟩ = some v := by simp [World.cell?, h.1]
theorem BldG.shape (h : BldG T e B b p v A n c xs ρ w) : w.shape? b = some (T, 2) := by simp [World.shape?, h.1]
theorem BldG.put (h : BldG T e B b p v A n c xs ρ w) (hT : T ≠ e) (i : Nat) (u : Value) (q : Array Value) (hq : (#[p, v] : Array Value).setIfInBounds i u = q) : (w.setCell ⟨b, i, none⟩ u).heap[b]? = some (.cells q T (0, 0)) ∧ Row B e 1 A n c xs ρ (w.setCell ⟨b, i, none⟩ u) := by
 refine ⟨?_, ⟨h.2.1.1.1, ?_⟩, h.2.1.2⟩
 ·rw [heap_setCell_same w b i _ T u h.1, hq]
 rcases h.2.1.1.2 with h2 | ⟨g, cap, cur, hv, hb, hg, hr⟩
 ·exact .inl h2
 refine .inr ⟨g, cap, cur, hv, hb, ?_, hr⟩
 rw [heap_setCell_other _ _ _ _ (fun hgb => ?_)]
 ·exact hg
 have hgb : g = b := hgb
 exact h.own hT (by rw [hv, ← hgb]; rfl)
end
theorem WInv.setOut {ρ : List Nat} {loc : Loc} {w : World} (h : WInv N w0 ρ loc w) {b : Nat} (hN : N ≤ b) (hm : b ∉ ρ) (i : Nat) (u : Value) : WInv N w0 ρ loc (w.setCell ⟨b, i, none⟩ u) := by
 have hsz : (w.setCell ⟨b, i, none⟩ u).heap.size = w.heap.size := by simp [World.setCell]
 refine ⟨h.below.setCell (p := ⟨b, i, none⟩) hN u, by rw [hsz]; exact h.hN, h.len, h.nodup, fun x hx => by rw [hsz]; exact h.ge x hx, fun k cs t hi => ?_⟩
 have hold := h.cells k cs t hi
 have hmm : nth ρ k ∈ ρ := by
  have : k < ρ.length := by rw [h.len]; exact (List.getElem?_eq_some_iff.1 hi).1
  simp [nth, List.getD, this]
 rw [heap_setCell_other _ _ _ _ (fun he => hm (by have he : nth ρ k = b := he; rw [← he]; exact hmm))]
 exact hold
theorem At.bldSt {s : S} {T e B b : Nat} {p v p' v' : Value} {A : Option Addr} {n c : Nat} {xs : List Value} (i : Nat) (cv : SV) (u : Value) (hq : stI P s = some (⟨b, i, none⟩, cv)) (hu : ∀ ρ, cv.den ρ = u) (hi2 : i < 2) (hpv : (#[p, v] : Array Value).setIfInBounds i u = #[p', v']) (hT : T ≠ e) (hN : N ≤ B)
  (h : At P Q N w0 ntm (BldG T e B b p' v' A n c xs) s.past) : At P Q N w0 ntm (BldG T e B b p v A n c xs) s := by
 unfold stI at hq
 split at hq
 ·rename_i o ho hpl
  obtain ⟨all, rest, h1, h2, h3⟩ := S.past_at ho hpl
  intro ρ act w hi hf
  obtain ⟨hput1, hput2⟩ := hf.put hT i u _ hpv
  have hcell : ∃ x, w.cell? ⟨b, i, none⟩ = some x := by
   match i, hi2 with
   | 0, _ => exact ⟨_, hf.cell0⟩
   | 1, _ => exact ⟨_, hf.cell1⟩
  obtain ⟨x, hx⟩ := hcell
  have hz : (⟨b, i, none⟩ : Addr).add 0 = ⟨b, i, none⟩ := by rw [add_ok, Nat.add_zero]
  obtain ⟨hd, hrun⟩ := run_stQ hi.act hq (w := w) (v0 := x) (by rw [hz]; exact hx) (by rw [hz]; exact frozen_of_row w b i _ T hf.1)
  rw [hz, hu] at hrun
  have hk := h ρ act _ (by rw [h2]; exact ⟨hi.act, hi.mem.setOut (Nat.le_trans hN hf.2.2.2) hf.2.2.1 i u⟩) ⟨hput1, hput2, hf.2.2.1, hf.2.2.2⟩
  rw [h2] at hk
  rw [h1]
  show wpList P all _ (o :: rest) act w
  unfold wpList
  rw [if_pos (guardS_ok hi.act h3)]
  refine .inl ?_
  unfold Oper.wp
  rw [hrun, Oper.upon_skip, hd]
  exact hk
 cases hq
/-! ### a string put behind a row of bytes -/
def apsQ (fr : Fr) (o : Oper) : Option (TypeId × TypeId × SV × SV) :=
 match o.op with
 | .call { callee := .builtin .append, args := ⟨[x, y]⟩, argTypes := ⟨[t, u]⟩ } => match evalS fr x, evalS fr y with
  | some sx, some sy => some (t, u, sx.asSl, sy)
  | _, _ => none
 | _ => none
theorem run_apsQ {ρ : List Nat} {fr : Fr} {a : Act} (ha : AInv ntm ρ fr a) {o : Oper} {t u : TypeId} {sx sy : SV} (h : apsQ fr o = some (t, u, sx, sy)) {v : Value} {w w' : World} (hr : (Builtin.append_ #[t, u] o.type #[sx.den ρ, sy.den ρ]).run P w = .ok v w') :
  (execOp a.eval o).run P w = .ok (.value v) w' := by
 obtain ⟨dst, op, ty, pos, after, guard⟩ := o
 unfold apsQ at h
 simp only at h
 split at h
 ·split at h
  ·rename_i s1 s2 hx hy
   simp only [Option.some.injEq, Prod.mk.injEq] at h
   obtain ⟨rfl, rfl, rfl, rfl⟩ := h
   simp only at hr
   rw [SV.asSl_den] at hr
   simp [execOp, resolve, invoke, builtin, evalS_sound ha hx, evalS_sound ha hy, hr]
  cases h
 cases h
def apsI (ntm : Nat) (s : S) : Option (TypeId × TypeId × SV × SV) := match s.head?, s.dstOk ntm, s.plain with
 | some o, true, true => apsQ s.fr o
 | _, _, _ => none
theorem At.apStr {s : S} {T B b : Nat} {p v : Value} {A : Option Addr} {n c : Nat} {xs : List Value} (t u e : TypeId) (sv : SV) (str : ByteArray) (hq : apsI ntm s = some (t, u, .sl A n c, sv)) (hsv : ∀ ρ, sv.den ρ = .string str) (ht : P.underlying t = some (.slice e)) (hu : P.underlying u = some .string)
  (hinfo : (P.info? e).map (fun i => (i.zero, i.size, i.bytes)) = some (some (.int .u8 0), 1, 1)) (hlen : n + str.size ≤ 140737488355328) (hN : N ≤ B) (hT : T ≠ e) (hloc : s.loc = [])
  (h : ∀ A' c', At P Q N w0 ntm (BldG T e B b p v A' (n + str.size) c' (xs ++ Lib.strCells str)) (s.tail ntm (.sl A' (n + str.size) c'))) : At P Q N w0 ntm (BldG T e B b p v A n c xs) s := by
 unfold apsI at hq
 split at hq
 ·rename_i o ho hd hp
  refine At.opx (X := Option Addr × Nat) o (fun x => .sl x.1 (n + str.size) x.2) (fun x => BldG T e B b p v x.1 (n + str.size) x.2 (xs ++ Lib.strCells str)) ho hd hp ?_ (fun x => h x.1 x.2)
  intro ρ a w hi hf
  have hρ : ρ = [] := List.length_eq_zero_iff.1 (by rw [hi.mem.len, hloc]; rfl)
  obtain ⟨i, hi1, hi2⟩ := Option.map_eq_some_iff.1 hinfo
  simp only [Prod.mk.injEq] at hi2
  obtain ⟨v', w', hrun, hown, hg, _⟩ := Lib.run_append_own_string (P := P) w B t u o.type e i ht hu hi1 hi2.1 hi2.2.1 hi2.2.2 (.slice A n c) n xs hf.2.1.1 str (by simp only [maxLen]; omega) hlen (Nat.le_trans hf.2.2.2 (Nat.le_of_lt hf.lt))
  obtain ⟨A', c', rfl⟩ : ∃ A' c', v' = .slice A' (n + str.size) c' := by
   rcases hown.2 with ⟨hv, h0⟩ | ⟨g, cap, cur, hv, _⟩
   ·exact ⟨none, 0, by rw [hv, h0]⟩
   exact ⟨_, _, hv⟩
  have hne := hf.own hT
  have hbk : w'.heap[b]? = some (.cells #[p, v] T (0, 0)) := (hg.block b hf.lt (fun he => hne he.symm)).trans hf.1
  refine ⟨(A', c'), w', run_apsQ hi.act hq (by rw [hsv]; exact hrun), hi.mem.grown hg (fun g hgo => ⟨Nat.le_trans hN (hf.2.1.1.lt g hgo).1, hf.2.1.2 g hgo⟩), hbk, ⟨hown, fun g _ => by rw [hρ]; simp⟩, hf.2.2.1, hf.2.2.2⟩
 cases hq
/-! ### pointers turned to unsafe ones and back; a function without a body -/
def cvuQ (fr : Fr) (o : Oper) : Option (TypeId × TypeId × SV) :=
 match o.op with
 | .convert src dst x => match evalS fr x with
  | some sx => some (src, dst, sx)
  | none => none
 | _ => none
theorem run_cvuQ {ρ : List Nat} {fr : Fr} {a : Act} (ha : AInv ntm ρ fr a) {o : Oper} {src dst : TypeId} {sx : SV} (h : cvuQ fr o = some (src, dst, sx)) {r : Value} {w : World} (hr : (convert src dst (sx.den ρ)).run P w = .ok r w) : (execOp a.eval o).run P w = .ok (.value r) w := by
 obtain ⟨d, op, ty, pos, after, guard⟩ := o
 unfold cvuQ at h
 simp only at h
 split at h
 ·split at h
  ·rename_i sx' hx
   simp only [Option.some.injEq, Prod.mk.injEq] at h
   obtain ⟨rfl, rfl, rfl⟩ := h
   simp [execOp, evalS_sound ha hx, hr, Result.andThen]
  cases h
 cases h
def cvuI (ntm : Nat) (s : S) : Option (TypeId × TypeId × SV) := match s.head?, s.dstOk ntm with
 | some o, true => cvuQ s.fr o
 | _, _ => none
theorem At.cvu {s : S} (src dst : TypeId) (sx r : SV) (hq : cvuI ntm s = some (src, dst, sx)) (hF : Stable F) (hr : ∀ ρ w, WInv N w0 ρ s.loc w → F ρ w → (convert src dst (sx.den ρ)).run P w = .ok (r.den ρ) w) (h : At P Q N w0 ntm F (s.tail ntm r)) : At P Q N w0 ntm F s := by
 unfold cvuI at hq
 split at hq
 ·rename_i o ho hd
  exact At.op hF o r ho hd (fun ρ a w hi hf => run_cvuQ hi.act hq (hr ρ w hi.mem hf)) h
 cases hq
def nckI (ntm : Nat) (s : S) : Option Addr := match s.head?, s.dstOk ntm with
 | some o, true => match o.op with
  | .nilCheck x => match evalS s.fr x with
   | some (.v (.pointer (some a))) => some a
   | _ => none
  | _ => none
 | _, _ => none
theorem At.nck {s : S} (a : Addr) (hq : nckI ntm s = some a) (hF : Stable F) (h : At P Q N w0 ntm F (s.tail ntm (.v (.pointer (some a))))) : At P Q N w0 ntm F s := by
 unfold nckI at hq
 split at hq
 ·rename_i o ho hd
  refine At.op hF o (.v (.pointer (some a))) ho hd (fun ρ act w hi hf => ?_) h
  obtain ⟨dst, op, ty, pos, after, guard⟩ := o
  simp only at hq
  split at hq
  ·split at hq
   ·rename_i x a' hx
    simp only [Option.some.injEq] at hq
    subst hq
    simp [execOp, evalS_sound hi.act hx, SV.den]
   cases hq
  cases hq
 cases hq
def pcI (ntm : Nat) (s : S) : Option (BinOp × TypeId × Option Addr × Option Addr) := match s.head?, s.dstOk ntm with
 | some o, true => match o.op with
  | .binOp op t x y _ => match evalS s.fr x, evalS s.fr y with
   | some (.v (.pointer p)), some (.v (.pointer q)) => some (op, t, p, q)
   | _, _ => none
  | _ => none
 | _, _ => none
theorem At.pcmp {s : S} (op : BinOp) (t : TypeId) (p q : Option Addr) (b : Bool) (hq : pcI ntm s = some (op, t, p, q)) (hF : Stable F) (hr : ∀ w, (binOp op t (.pointer p) (.pointer q)).run P w = .ok (.bool b) w) (h : At P Q N w0 ntm F (s.tail ntm (.v (.bool b)))) : At P Q N w0 ntm F s := by
 unfold pcI at hq
 split at hq
 ·rename_i o ho hd
  refine At.op hF o (.v (.bool b)) ho hd (fun ρ act w hi hf => ?_) h
  obtain ⟨dst, opr, ty, pos, after, guard⟩ := o
  simp only at hq
  split at hq
  ·split at hq
   ·rename_i op' t' x y tt _ _ p' q' hx hy
    simp only [Option.some.injEq, Prod.mk.injEq] at hq
    obtain ⟨rfl, rfl, rfl, rfl⟩ := hq
    have hg : (eqGuard op' t' x y (.pointer p') (.pointer q')).run P w = .ok () w := by cases op' <;> rfl
    simp only [execOp, evalS_sound hi.act hx, evalS_sound hi.act hy, SV.den, Sem.run_bind, hg, hr, Result.andThen_ok, Sem.run_pure]
   cases hq
  cases hq
 cases hq
theorem run_eql_none {t e : TypeId} {j : TypeInfo} (a : Addr) (ht : P.underlying t = some (.pointer e)) (he : P.info? e = some j) (w : World) : (binOp .eql t (.pointer (some a)) (.pointer none)).run P w = .ok (.bool false) w := by
 have h : ∀ d : Nat, (Op.equalIn (d + 1) t (.pointer (some a)) (.pointer none)).run P w = .ok false w := fun d => by
  simp [Op.equalIn, run_underlying ht, sizeOf, typeInfo, he]
 simp only [binOp]
 simp [Op.equal, Op.maxDepth, h 9999]
theorem At.extern {s : S} (g : FuncId) (vs : List SV) (fn : Func) (f : Array Value → Sem Value) (r : SV) (hc : s.call? = some (g, vs)) (hd : s.dstOk ntm = true) (hf : P.funcs[g]? = some fn) (hname : (fn.name == "runtime.NumGoroutine") = false) (hb : fn.body.isNone = true) (hn : Extern.findNext fn = none) (he : Extern.find fn = some f)
  (hF : Stable F) (hr : ∀ ρ w, WInv N w0 ρ s.loc w → F ρ w → (f (SV.denL ρ vs).toArray).run P w = .ok (r.den ρ) w) (h : At P Q N w0 ntm F (s.tail ntm r)) : At P Q N w0 ntm F s := by
 unfold S.call? at hc
 split at hc
 ·rename_i o ho
  refine At.op hF o r ho hd (fun ρ a w hi hfw => ?_) h
  have hrun := hr ρ w hi.mem hfw
  obtain ⟨dst, op, ty, pos, after, guard⟩ := o
  unfold callS at hc
  simp only at hc
  split at hc
  ·rename_i fo args _
   split at hc
   ·rename_i g' caps vs' hfv hv
    simp only [Option.some.injEq, Prod.mk.injEq] at hc
    obtain ⟨rfl, rfl⟩ := hc
    have e2 := evalL_sound hi.act hv
    have e3 : args.map a.eval = (SV.denL ρ vs').toArray := Array.ext' (by rw [← e2]; simp)
    have hcf : ∀ xs, (callFunc g' xs).run P w = ((f xs).run P w).andThen fun v w' => .ok (.value v) w' := fun xs => run_callFunc_extern hf hname hb hn he xs w
    have e4 : (SV.denL ρ (vs' ++ caps)).toArray = (SV.denL ρ vs').toArray ++ (SV.denL ρ caps).toArray := by simp [SV.denL_eq]
    rw [e4] at hrun
    simp only [execOp, resolve, Deferred.ofValue, evalS_sound hi.act hfv, SV.den, invoke, Sem.run_bind, Sem.run_pure, Result.andThen_ok, hcf, e3, Array.empty_append, hrun]
   cases hc
  cases hc
 cases hc
/-! ### a new builder, put beside the local blocks; its calls -/
def BldV (T e B b : Nat) (xs : List Value) (ρ : List Nat) (w : World) : Prop := ∃ p A n c, (p = .pointer none ∨ p = .pointer (some ⟨b, 0, none⟩)) ∧ BldG T e B b p (.slice A n c) A n c xs ρ w
theorem BldV.stable {T e B b : Nat} {xs : List Value} : Stable (BldV T e B b xs) := fun ρ w ρ' w' hg hk ⟨p, A, n, c, hp, h⟩ => ⟨p, A, n, c, hp, BldG.stable ρ w ρ' w' hg hk h⟩
theorem BldV.fewer {T e B b : Nat} {xs : List Value} : FewerK 0 (BldV T e B b xs) := fun ρ w k hk ⟨p, A, n, c, hp, h⟩ => ⟨p, A, n, c, hp, BldG.fewer ρ w k hk h⟩
theorem At.facts {s : S} {F G : List Nat → World → Prop} (g : FuncId) (vs : List SV) (r : SV) (hc : s.call? = some (g, vs)) (hb : bodied P g = true) (hd : s.dstOk ntm = true) (hp : s.plain = true) (hsc : scopedFr s.loc.length s.fr = true) (hloc : s.loc = [])
  (hr : ∀ w, WInv N w0 [] [] w → F [] w → Calls P g (SV.denL [] vs).toArray w fun e' w' => e' = .returned (r.den []) ∧ G [] w' ∧ Below N w w')
  (h : At P Q N w0 ntm G ((s.tail ntm r).withLoc s.loc)) : At P Q N w0 ntm F s := by
 refine At.callg (X := Unit) g vs (fun _ => r) (fun _ => s.loc) (fun _ => G) hc hb hd hp hsc ?_ (fun _ => h)
 intro ρ w hm hf
 have hρ : ρ = [] := List.length_eq_zero_iff.1 (by rw [hm.len, hloc]; rfl)
 subst hρ
 rw [hloc] at hm ⊢
 refine (hr w hm hf).mono ?_
 rintro e' w' ⟨rfl, hv, hbel⟩
 exact ⟨(), [], rfl, Grow.refl _ _, ⟨hm.below.trans hbel, Nat.le_trans hm.hN hbel.size, rfl, List.nodup_nil, by simp, by simp⟩, hv⟩
end
end Go.Sx
end
section
namespace Go.Proofs.YthfpekhpeiebjaaGreatDoor
open Go.RowKit Go.Sx
theorem info85 : (Tryz.prog.info? 85).map (·.size) = some 2 := by kernel_rfl
theorem lies85 : liesAt Tryz.prog Tryz.prog.depth 85 (2 / Tryz.prog.cellsOf 85) 0 85 1 = true := by kernel_rfl
theorem info5 : (Tryz.prog.info? 5).map (fun i => (i.zero, i.size, i.bytes)) = some (some (.int .u8 0), 1, 1) := by kernel_rfl
noncomputable def B69 : Code := (Tryz.f69.body).getD .skip
noncomputable def sq69 (p : List Nat) : Go.Sx.K := .seq (sub B69 p)
set_option maxHeartbeats 4000000 in
set_option maxRecDepth 100000 in
theorem check_self {B b : Nat} {v : Value} {A : Option Addr} {n c : Nat} {xs : List Value} (w : World) (h : BldG 85 5 B b (.pointer (some ⟨b, 0, none⟩)) v A n c xs [] w) (hB : B ≤ w.heap.size) :
  Calls Tryz.prog 69 #[(.pointer (some ⟨b, 0, none⟩))] w fun e w' => e = .returned (.tuple #[]) ∧ BldG 85 5 B b (.pointer (some ⟨b, 0, none⟩)) v A n c xs [] w' ∧ Below B w w' := by
 obtain ⟨j, hj1, hj2⟩ := Option.map_eq_some_iff.1 info85
 refine enterF (N := B) (F := BldG 85 5 B b (.pointer (some ⟨b, 0, none⟩)) v A n c xs) (fn := Tryz.f69) (c := B69) [.v (.pointer (some ⟨b, 0, none⟩))] Tryz.func69 rfl rfl hB h ?_
 refine zU BldG.stable BldG.fewer [0, 2] 0 ⟨pops B69 [0] 1, [(sq69 [1])], [(0, .v (.pointer (some (Addr.mk b 0 none)))), (2, .v (.pointer (some (Addr.mk b 0 none))))], []⟩ ?_
 refine At.nck ⟨b, 0, none⟩ (by kernel_rfl) BldG.stable ?_
 refine At.fax ⟨b, 0, none⟩ 0 (by kernel_rfl) BldG.stable ?_
 refine At.ldx ((⟨b, 0, none⟩ : Addr).add 0) (.v (.pointer (some ⟨b, 0, none⟩))) (by kernel_rfl) BldG.stable (fun ρ w1 hm' hf => hf.cell0) ?_
 refine zU BldG.stable BldG.fewer [0, 5] 0 ⟨pops B69 [0] 4, [(sq69 [1])], [(0, .v (.pointer (some (Addr.mk b 0 none)))), (5, .v (.pointer (some (Addr.mk b 0 none))))], []⟩ ?_
 refine At.pcmp .eql 83 (some ⟨b, 0, none⟩) none false (by kernel_rfl) BldG.stable (fun w1 => run_eql_none ⟨b, 0, none⟩ Tryz.underlying83 hj1 w1) ?_
 refine zU BldG.stable BldG.fewer [0, 14] 0 ⟨pops B69 [1, 3, 0] 1, [(sq69 [1, 3, 1])], [(0, .v (.pointer (some (Addr.mk b 0 none)))), (14, .v (.pointer (some (Addr.mk b 0 none))))], []⟩ ?_
 refine At.nck ⟨b, 0, none⟩ (by kernel_rfl) BldG.stable ?_
 refine At.fax ⟨b, 0, none⟩ 0 (by kernel_rfl) BldG.stable ?_
 refine At.ldx ((⟨b, 0, none⟩ : Addr).add 0) (.v (.pointer (some ⟨b, 0, none⟩))) (by kernel_rfl) BldG.stable (fun ρ w1 hm' hf => hf.cell0) ?_
 refine zU BldG.stable BldG.fewer [17, 18] 0 ⟨pops B69 [1, 3, 0] 5, [(sq69 [1, 3, 1])], [(17, .v (.pointer (some (Addr.mk b 0 none)))), (18, .v (.pointer (some (Addr.mk b 0 none))))], []⟩ ?_
 refine At.pcmp .neq 83 (some ⟨b, 0, none⟩) (some ⟨b, 0, none⟩) false (by kernel_rfl) BldG.stable (fun w1 => Lib.run_neq_ptr_same w1 ⟨b, 0, none⟩ Tryz.underlying83 hj1) ?_
 refine zU BldG.stable BldG.fewer [] 0 ⟨.exit .normal, [], [], []⟩ ?_
 refine zE (.tup []) ?_
 intro ρ w9 hm' hf
 exact ⟨rfl, BldG.fewer ρ w9 0 (Nat.zero_le _) hf, hm'.below⟩
set_option maxHeartbeats 4000000 in
set_option maxRecDepth 100000 in
theorem check_new {B b : Nat} {v : Value} {A : Option Addr} {n c : Nat} {xs : List Value} (w : World) (h : BldG 85 5 B b (.pointer none) v A n c xs [] w) (hB : B ≤ w.heap.size) :
  Calls Tryz.prog 69 #[(.pointer (some ⟨b, 0, none⟩))] w fun e w' => e = .returned (.tuple #[]) ∧ BldG 85 5 B b (.pointer (some ⟨b, 0, none⟩)) v A n c xs [] w' ∧ Below B w w' := by
 obtain ⟨j, hj1, hj2⟩ := Option.map_eq_some_iff.1 info85
 refine enterF (N := B) (F := BldG 85 5 B b (.pointer none) v A n c xs) (fn := Tryz.f69) (c := B69) [.v (.pointer (some ⟨b, 0, none⟩))] Tryz.func69 rfl rfl hB h ?_
 refine zU BldG.stable BldG.fewer [0, 2] 0 ⟨pops B69 [0] 1, [(sq69 [1])], [(0, .v (.pointer (some (Addr.mk b 0 none)))), (2, .v (.pointer (some (Addr.mk b 0 none))))], []⟩ ?_
 refine At.nck ⟨b, 0, none⟩ (by kernel_rfl) BldG.stable ?_
 refine At.fax ⟨b, 0, none⟩ 0 (by kernel_rfl) BldG.stable ?_
 refine At.ldx ((⟨b, 0, none⟩ : Addr).add 0) (.v (.pointer none)) (by kernel_rfl) BldG.stable (fun ρ w1 hm' hf => hf.cell0) ?_
 refine zU BldG.stable BldG.fewer [7, 8] 0 ⟨pops B69 [1, 2] 2, [], [(7, .v (.pointer (some (Addr.mk b 0 none)))), (8, .v (.pointer (some (Addr.mk b 0 none))))], []⟩ ?_
 refine At.cvu 83 136 (.v (.pointer (some ⟨b, 0, none⟩))) (.v (.pointer (some ⟨b, 0, none⟩))) (by kernel_rfl) BldG.stable (fun ρ w1 hm' hf => Lib.run_to_unsafe w1 ⟨b, 0, none⟩ Tryz.underlying83 Tryz.underlying136 hj1 (by rw [hj2]; decide) hf.shape (Nat.zero_lt_succ 1)) ?_
 refine zU BldG.stable BldG.fewer [7, 9] 0 ⟨pops B69 [1, 2] 3, [], [(7, .v (.pointer (some (Addr.mk b 0 none)))), (9, .v (.pointer (some (Addr.mk b 0 none))))], []⟩ ?_
 refine At.extern 88 [.v (.pointer (some ⟨b, 0, none⟩))] Tryz.f88 Extern.AbiNoEscape.same (.v (.pointer (some ⟨b, 0, none⟩))) (by kernel_rfl) (by kernel_rfl) Tryz.func88 (by kernel_rfl) (by kernel_rfl) (by kernel_rfl) (by kernel_rfl) BldG.stable (fun ρ w1 _ _ => Lib.run_noEscape w1 _) ?_
 refine zU BldG.stable BldG.fewer [7, 10] 0 ⟨pops B69 [1, 2] 4, [], [(7, .v (.pointer (some (Addr.mk b 0 none)))), (10, .v (.pointer (some (Addr.mk b 0 none))))], []⟩ ?_
 refine At.cvu 136 83 (.v (.pointer (some ⟨b, 0, none⟩))) (.v (.pointer (some ⟨b, 0, none⟩))) (by kernel_rfl) BldG.stable (fun ρ w1 hm' hf => Lib.run_from_unsafe w1 ⟨b, 0, none⟩ Tryz.underlying136 Tryz.underlying83 hj1 hf.shape lies85) ?_
 refine zU BldG.stable BldG.fewer [7, 11] 0 ⟨pops B69 [1, 2] 5, [], [(7, .v (.pointer (some (Addr.mk b 0 none)))), (11, .v (.pointer (some (Addr.mk b 0 none))))], []⟩ ?_
 refine At.nck ⟨b, 0, none⟩ (by kernel_rfl) BldG.stable ?_
 refine At.fax ⟨b, 0, none⟩ 0 (by kernel_rfl) BldG.stable ?_
 refine At.bldSt 0 (.v (.pointer (some ⟨b, 0, none⟩))) (.pointer (some ⟨b, 0, none⟩)) (by kernel_rfl) (fun _ => rfl) (by decide) rfl (by decide) (Nat.le_refl _) ?_
 refine zU BldG.stable BldG.fewer [] 0 ⟨.exit .normal, [], [], []⟩ ?_
 refine zE (.tup []) ?_
 intro ρ w9 hm' hf
 exact ⟨rfl, BldG.fewer ρ w9 0 (Nat.zero_le _) hf, hm'.below⟩
noncomputable def B37 : Code := (Tryz.f37.body).getD .skip
noncomputable def sq37 (p : List Nat) : Go.Sx.K := .seq (sub B37 p)
set_option maxHeartbeats 4000000 in
set_option maxRecDepth 100000 in
theorem wstr_any {B b : Nat} {xs : List Value} (str : ByteArray) (w : World) (h : BldV 85 5 B b xs [] w) (hB : B ≤ w.heap.size) (hlen : xs.length + str.size ≤ 1000000000) :
  Calls Tryz.prog 37 #[(.pointer (some ⟨b, 0, none⟩)), .string str] w fun e w' => e = .returned (.tuple #[.int .i64 str.size, .nilIface]) ∧ BldV 85 5 B b (xs ++ Lib.strCells str) [] w' ∧ Below B w w' := by
 obtain ⟨p, A, n, c, hp, h⟩ := h
 have hn : xs.length = n * 1 := h.2.1.1.1
 refine enterF (N := B) (F := BldG 85 5 B b p (.slice A n c) A n c xs) (fn := Tryz.f37) (c := B37) [.v (.pointer (some ⟨b, 0, none⟩)), .so str] Tryz.func37 rfl rfl hB h ?_
 refine zU BldG.stable BldG.fewer [0, 1, 6] 0 ⟨pops B37 [1, 0] 1, [(sq37 [1, 1])], [(0, .v (.pointer (some (Addr.mk b 0 none)))), (1, .so str), (6, .v (.pointer (some (Addr.mk b 0 none))))], []⟩ ?_
 refine At.facts (G := BldG 85 5 B b (.pointer (some ⟨b, 0, none⟩)) (.slice A n c) A n c xs) 69 [.v (.pointer (some ⟨b, 0, none⟩))] (.tup []) (by kernel_rfl) (by kernel_rfl) (by kernel_rfl) (by kernel_rfl) (by kernel_rfl) rfl (fun w1 hm hf => by
  rcases hp with rfl | rfl
  ·exact check_new w1 hf hm.hN
  exact check_self w1 hf hm.hN) ?_
 refine zU BldG.stable BldG.fewer [1, 8, 9] 0 ⟨pops B37 [1, 1, 0] 2, [(sq37 [1, 1, 1])], [(1, .so str), (8, .v (.pointer (some (Addr.mk b 0 none)))), (9, .v (.pointer (some (Addr.mk b 0 none))))], []⟩ ?_
 refine At.nck ⟨b, 0, none⟩ (by kernel_rfl) BldG.stable ?_
 refine At.fax ⟨b, 0, none⟩ 1 (by kernel_rfl) BldG.stable ?_
 refine At.ldx ((⟨b, 0, none⟩ : Addr).add 1) (.sl A n c) (by kernel_rfl) BldG.stable (fun ρ w1 hm' hf => hf.cell1) ?_
 refine zU BldG.stable BldG.fewer [1, 8, 12, 13] 0 ⟨pops B37 [1, 1, 0] 6, [(sq37 [1, 1, 1])], [(1, .so str), (8, .v (.pointer (some (Addr.mk b 0 none)))), (12, .sl A n c), (13, .so str)], []⟩ ?_
 refine At.apStr 55 9 5 (.so str) str (by kernel_rfl) (fun _ => rfl) Tryz.underlying55 Tryz.underlying9 info5 (by omega) (Nat.le_refl _) (by decide) rfl (fun A' c' => ?_)
 refine zU BldG.stable BldG.fewer [1, 8, 14] 0 ⟨pops B37 [1, 1, 0] 7, [(sq37 [1, 1, 1])], [(1, .so str), (8, .v (.pointer (some (Addr.mk b 0 none)))), (14, .sl A' (n + str.size) c')], []⟩ ?_
 refine At.nck ⟨b, 0, none⟩ (by kernel_rfl) BldG.stable ?_
 refine At.fax ⟨b, 0, none⟩ 1 (by kernel_rfl) BldG.stable ?_
 refine At.bldSt 1 (.sl A' (n + str.size) c') (.slice A' (n + str.size) c') (by kernel_rfl) (fun _ => rfl) (by decide) rfl (by decide) (Nat.le_refl _) ?_
 refine zU BldG.stable BldG.fewer [4, 5] 0 ⟨.exit .ret, [], [(4, .io .i64 (↑str.size : Int)), (5, .v .nilIface)], []⟩ ?_
 refine zE (.tup [.io .i64 (↑str.size : Int), .v .nilIface]) ?_
 intro ρ w9 hm' hf
 exact ⟨rfl, ⟨_, A', n + str.size, c', .inr rfl, BldG.fewer ρ w9 0 (Nat.zero_le _) hf⟩, hm'.below⟩
end Go.Proofs.YthfpekhpeiebjaaGreatDoor
end
section
/- The library functions that the job's text calls: their contracts (printed by the kit's tools). -/
namespace Go.Proofs
open Go.Shelf
def Tryz.lays169_ren : Go.Shelf.Ren := ⟨fun | 169 => 40 | n => n, fun | 70 => 83 | 9 => 9 | 0 => 0 | 72 => 85 | 37 => 55 | 127 => 121 | 3 => 3 | 5 => 5 | n => n, fun | n => n⟩
theorem Tryz.lays169 : Go.Proofs.Lays.n169 Tryz.prog Tryz.lays169_ren := {
 mixed := by kernel_rfl
 f169 := Tryz.func40.trans (congrArg some (by kernel_rfl))
 t0 := Tryz.underlying0
 a0 := Tryz.isAgg0
 z0 := Tryz.sizeOf0
 v0 := Tryz.zeroValue0
 t3 := Tryz.underlying3
 a3 := Tryz.isAgg3
 z3 := Tryz.sizeOf3
 v3 := Tryz.zeroValue3
 t9 := Tryz.underlying9
 a9 := Tryz.isAgg9
 z9 := Tryz.sizeOf9
 v9 := Tryz.zeroValue9
 t37 := Tryz.underlying55
 a37 := Tryz.isAgg55
 z37 := Tryz.sizeOf55
 v37 := Tryz.zeroValue55
 t70 := Tryz.underlying83
 a70 := Tryz.isAgg83
 z70 := Tryz.sizeOf83
 v70 := Tryz.zeroValue83
 t72 := Tryz.underlying85
 a72 := Tryz.isAgg85
 z72 := Tryz.sizeOf85
 v72 := Tryz.zeroValue85
 t127 := Tryz.underlying121
 a127 := Tryz.isAgg121
 z127 := Tryz.sizeOf121
 v127 := Tryz.zeroValue121 }
theorem Tryz.Builder_Extra_169 : Builder.Extra Tryz.prog Tryz.lays169_ren := {
 sizeBuilder := by kernel_rfl
 liesBuilder := by kernel_rfl
 t5 := Tryz.underlying5
 a5 := Tryz.isAgg5
 z5 := Tryz.sizeOf5
 v5 := Tryz.zeroValue5
 infoByte := by kernel_rfl
 cellsByte := by kernel_rfl
 sizeByte := by kernel_rfl
 neB5 := by decide }
open Go.RowKit in
theorem Tryz.Builder_String_any (B b : Nat) (l : List UInt8) (w : World) (h : Lib.IsBuilder 85 5 B b (Lib.byteCells l) w) (hBw : B ≤ w.heap.size) :
  Calls Tryz.prog 40 #[.pointer (some ⟨b, 0, none⟩)] w fun e w' => e = .returned (.string ⟨l.toArray⟩) ∧ Below B w w' := Any.Builder_String_any Tryz.lays169 Tryz.Builder_Extra_169 B b l w h hBw
end Go.Proofs
end
section
/- A range over a function: the statement, the call of yield, the round, the function's end with the mark among its deferred calls. -/
namespace Go.Sx
open Go.RowKit
section
variable {P : Program} {Q : Exit → Act → World → Prop} {N : Nat} {w0 : World} {ntm : Nat} {F : List Nat → World → Prop}
abbrev Md.rnd (l : Nat) : Md := ⟨some l, []⟩
abbrev Md.mark (D : Nat) : Md := ⟨none, [{ target := .collected D, args := #[] }]⟩
theorem CW_md {md : Md} (h : md.round = none) (c : Code) : @CW md P c Q = c.wp P Q := by
 funext a w
 exact propext (@CW_none P Q md h c a w)
theorem roundsW_md {md : Md} (h : md.round = none) (c : Code) : ∀ n, @roundsW md P c Q n = @roundsW Md.fn P c Q n
 | 0 => rfl
 | n + 1 => by
  funext a w
  simp only [roundsW]
  rw [CW_md h, CW_md (md := Md.fn) rfl, roundsW_md h c n]
theorem postK_md {md : Md} (h : md.round = none) : ∀ (ks : List K) (Q : Exit → Act → World → Prop), @postK md P ks Q = @postK Md.fn P ks Q
 | [], _ => rfl
 | k :: ks, Q => by
  have ih := postK_md h ks Q
  cases k <;> simp only [postK, ih, CW_md h, CW_md (md := Md.fn) rfl, roundsW_md h]
theorem WInv.putObj {ρ : List Nat} {loc : Loc} {w : World} (h : WInv N w0 ρ loc w) {r : Nat} (hN : N ≤ r) (hr : r ∉ ρ) (o : Obj) : WInv N w0 ρ loc (w.putObj r o) := by
 refine ⟨⟨h.below.os, h.below.tape, h.below.output, by simpa using h.below.size, fun k hk => ?_⟩, by simpa using h.hN, h.len, h.nodup, fun b hb => by simpa using h.ge b hb, fun i c t hi => ?_⟩
 ·rw [World.putObj_heap_other (by omega)]
  exact h.below.block k hk
 have hm : nth ρ i ∈ ρ := by
  have : i < ρ.length := by rw [h.len]; exact (List.getElem?_eq_some_iff.1 hi).1
  simp [nth, List.getD, this]
 rw [World.putObj_heap_other (fun e => hr (by rw [← e]; exact hm))]
 exact h.cells i c t hi
theorem WInv.notIn {ρ : List Nat} {loc : Loc} {w : World} (h : WInv N w0 ρ loc w) {r : Nat} {o : Obj} (hr : w.heap[r]? = some o) (ho : ∀ c t f, o ≠ .cells c t f) : r ∉ ρ := by
 intro hm
 obtain ⟨i, hi, he⟩ := List.getElem_of_mem hm
 have hi' : i < loc.length := by rw [← h.len]; exact hi
 have hc := h.cells i loc[i].1 loc[i].2 (by simp [hi'])
 have hn : nth ρ i = r := by simp [nth, List.getD, hi, he]
 rw [hn, hr] at hc
 injection hc with hc
 exact ho _ _ _ hc
theorem enterM {f : FuncId} {fn : Func} {c : Code} {R : Ending → World → Prop} (sargs : List SV) (hf : P.funcs[f]? = some fn) (hb : fn.body = some c) (hle : Nat.ble sargs.length fn.ntmps = true)
  (hN : N ≤ w0.heap.size) (hF : F [] w0) (h : At P (bodyPostM Fence.wide 0 P fn R) N w0 fn.ntmps F ⟨.code c, [], frOf 0 sargs, []⟩) : Calls P f (SV.denL [] sargs).toArray w0 R := by
 refine (callsIn_wide (n := 0)).1 (callsIn_of_wp_marks hf hb trivial (wpIn_wide.2 (h [] _ w0 ⟨⟨rfl, ?_, ?_⟩, ?_⟩ hF)))
 ·have := Nat.le_of_ble_eq_true hle
  simp [SV.denL_eq]; omega
 ·intro t s hs
  have := look_frOf (ρ := []) (pre := []) (rest := List.replicate (fn.ntmps - sargs.length) undef) rfl hs
  rw [← Array.getElem?_toList]
  simpa [SV.denL_eq] using this
 exact ⟨Below.refl _ _, hN, rfl, List.nodup_nil, by simp, by simp⟩
theorem enterH {f : FuncId} {fn : Func} {c : Code} {R : Ending → World → Prop} {w1 : World} (sargs : List SV) (ρ0 : List Nat) (loc0 : Loc) (hf : P.funcs[f]? = some fn) (hb : fn.body = some c) (hle : Nat.ble sargs.length fn.ntmps = true)
  (hm : WInv N w0 ρ0 loc0 w1) (hF : F ρ0 w1) (h : At P (bodyPost P fn R) N w0 fn.ntmps F ⟨.code c, [], frOf 0 sargs, loc0⟩) : Calls P f (SV.denL ρ0 sargs).toArray w1 R := by
 refine calls_of_wp hf hb (h ρ0 _ w1 ⟨⟨rfl, ?_, ?_⟩, hm⟩ hF)
 ·have := Nat.le_of_ble_eq_true hle
  simp [SV.denL_eq]; omega
 intro t s hs
 have := look_frOf (ρ := ρ0) (pre := []) (rest := List.replicate (fn.ntmps - sargs.length) undef) rfl hs
 rw [← Array.getElem?_toList]
 simpa [SV.denL_eq] using this
end
section
variable {P : Program} {Q : Exit → Act → World → Prop} {N : Nat} {w0 : World} {ntm : Nat} {F : List Nat → World → Prop}
variable [Md]
theorem At.retM {fn : Func} {R : Ending → World → Prop} {D : Nat} {s : S} (hdf : Md.dfs = [{ target := .collected D, args := #[] }]) (hd : s.done = true) (r : SV) (hr : resS P fn s = some r)
  (hD : ∀ ρ w, F ρ w → N ≤ D ∧ w.heap[D]? = some (.deferred (some [])))
  (h : ∀ ρ w, WInv N w0 ρ s.loc (w.putObj D (.deferred none)) → w.heap[D]? = some (.deferred (some [])) → F ρ w → R (.returned (r.den ρ)) (w.putObj D (.deferred none))) : At P (bodyPostM Fence.wide 0 P fn R) N w0 ntm F s := by
 intro ρ a w hi hf
 obtain ⟨hN, hw⟩ := hD ρ w hf
 have hm := hi.mem.putObj hN (hi.mem.notIn hw (fun _ _ _ => by simp)) (.deferred none)
 have h1 := run_resS (P := P) (fn := fn) (s := s) (r := r) (w := w.putObj D (.deferred none)) ⟨hi.act, hm⟩ hr
 have h2 := h ρ w hm hw hf
 have hdef : a.defers = [{ target := .collected D, args := #[] }] := hi.act.defers.trans hdf
 have key : LeavesInM Fence.wide 0 P fn a.tmps R a.defers .returning w := by
  rw [hdef]
  refine ⟨by simp, .inl ⟨D, _, rfl, run_takeDeferred hw, ?_⟩⟩
  exact ⟨_, h1, h2⟩
 obtain ⟨pc, ks, fr, loc⟩ := s
 unfold S.done at hd
 split at hd
 ·rename_i e1 e2
  simp only at e1 e2
  subst e1; subst e2
  exact key
 ·rename_i e1 e2
  simp only at e1 e2
  subst e1; subst e2
  exact key
 cases hd
theorem At.nextF {f : Act → World → Prop} {ks : List K} {s : S} (hp : s.pc = .exit .normal) (hk : s.ks = .next f :: ks) (h : ∀ ρ a w, Inv N w0 ntm ρ s.fr s.loc a w → F ρ w → f a w) : At P Q N w0 ntm F s := by
 intro ρ a w hi hf
 rw [hp, hk]
 exact h ρ a w hi hf
theorem AInv.more {ρ ext : List Nat} {loc : Loc} {fr : Fr} {a : Act} (h : AInv ntm ρ fr a) (hl : ρ.length = loc.length) (hsc : scopedFr loc.length fr = true) : AInv ntm (ρ ++ ext) fr a := by
 refine ⟨h.defers, h.size, fun t s hs => ?_⟩
 have h1 := scopedFr_look hsc hs
 have hden : s.den (ρ ++ ext) = s.den ρ := by
  have := SV.den_take (ρ ++ ext) loc.length s h1
  rw [← this]
  congr 1
  rw [← hl]
  simp
 rw [hden]
 exact h.slot t s hs
end
section
variable {P : Program} {Q : Exit → Act → World → Prop} {N : Nat} {w0 : World} {ntm : Nat} {F : List Nat → World → Prop}
abbrev recOf (fid : FuncId) (tmps : Array Value) (params : Array Tmp) (assign body : Code) (D : Nat) (st : LoopState) (pd : Option Code) : Loop := { state := st, pending := pd, fn := fid, tmps, params, assign, body, defers := D }
theorem listInW {ops : Array Oper} (hQ : ¬ LetsOut Q) : ∀ (l1 l2 : List Oper) (a : Act) (w : World), wpList P ops (Exit.then (wpListIn Fence.wide 0 P ops Q l2) Q) l1 a w → wpListIn Fence.wide 0 P ops Q (l1 ++ l2) a w
 | [], _, _, _, h => h
 | o :: l1, l2, a, w, h => by
  unfold wpList at h
  show wpListIn Fence.wide 0 P ops Q (o :: (l1 ++ l2)) a w
  unfold wpListIn
  split
  ·rename_i hw
   rw [if_pos hw] at h
   rcases h with h | ⟨_, h⟩
   ·have h1 := wp_then (fun _ _ hh => hh) h
    refine ⟨fun _ _ => trivial, ?_⟩
    show Oper.uponIn Fence.wide 0 P o a (wpListIn Fence.wide 0 P ops Q (l1 ++ l2)) Q ((o.semAt none a.eval).run P w)
    rw [Oper.semAt_none]
    unfold Oper.wp at h1
    generalize (execOp a.eval o).run P w = r at *
    cases r with
    | ok n w' =>
     cases n <;> simp only [Oper.upon] at h1 <;> simp only [Oper.uponIn]
     case value => exact listInW hQ l1 l2 _ _ h1
     case skip => exact listInW hQ l1 l2 _ _ h1
     case defer => exact listInW hQ l1 l2 _ _ h1
     case row => exact ⟨fun h0 => absurd h0 (by simp [Fence.wide]), (rowsIn_of_rows h1).mono fun _ _ hh => listInW hQ l1 l2 _ _ hh⟩
     case enter =>
      refine ⟨fun h0 => absurd h0 (by simp [Fence.wide]), (callsIn_wide (n := 0)).2 (h1.mono fun e w'' hh => ?_)⟩
      cases e with
      | returned v => exact listInW hQ l1 l2 _ _ hh
      | panicked c => exact hh
      | outgrown => exact hh
    | halt x w' =>
     cases x <;> simp only [Oper.upon] at h1 <;> simp only [Oper.uponIn]
     exact h1
   exact absurd (show LetsOut Q from h) hQ
  rename_i hw
  rw [if_neg hw] at h
  exact ⟨fun _ _ => trivial, listInW hQ l1 l2 _ _ h⟩
theorem listInW0 {ops : Array Oper} (hQ : ¬ LetsOut Q) (l : List Oper) (a : Act) (w : World) (h : wpList P ops Q l a w) : wpListIn Fence.wide 0 P ops Q l a w := by
 have := listInW (P := P) (ops := ops) hQ l [] a w
 rw [List.append_nil] at this
 refine this ?_
 have hQ2 : Exit.then (wpListIn Fence.wide 0 P ops Q []) Q = Q := by
  funext e a w
  cases e <;> rfl
 rw [hQ2]
 exact h
theorem At.range {X : Type} {s : S} {t : Tmp} {params : Array Tmp} {assign body : Code} {g : FuncId} {caps : List SV} (hpc : s.pc = .code (.rangeFunc (.tmp t) params assign body)) (hl : look s.fr t = some (.fn (.func g) caps)) (hb : bodied P g = true)
  (jmp : X → Option Code) (nl : X → Loc) (G : X → Nat → List Nat → World → Prop) (hsc : scopedFr s.loc.length s.fr = true)
  (iter : ∀ (D : Nat) (fid : FuncId) (ρ : List Nat) (a : Act) (w w1 : World), Inv N w0 ntm ρ s.fr s.loc a w → F ρ w → D = w.heap.size → w1 = (w.alloc (.deferred (some []))).alloc (.loop (recOf fid a.tmps params assign body D .ready none)) →
   Calls P g (SV.denL ρ (.v (.func (.yield (D + 1)) #[] #[]) :: caps)).toArray w1 fun e w3 => (∃ v, e = .returned v) ∧ ∃ x ρ3 r3, Grow w.heap.size ρ ρ3 ∧ WInv N w0 ρ3 (nl x) (w3.putObj (D + 1) (.loop { r3 with state := .exhausted })) ∧
    w3.heap[D + 1]? = some (.loop r3) ∧ r3.state ≠ .busy ∧ r3.pending = jmp x ∧ G x D ρ3 (w3.putObj (D + 1) (.loop { r3 with state := .exhausted })))
  (h : ∀ x D, @At (Md.mark D) P Q N w0 ntm (G x D) ⟨(match jmp x with | none => .exit .normal | some c => .code c), s.ks, s.fr, nl x⟩) : At P Q N w0 ntm F s := by
 intro ρ a w hi hf
 rw [hpc]
 show (Code.rangeFunc (.tmp t) params assign body).wp P (postK P s.ks Q) a w
 refine (wpIn_wide (n := 0)).1 (wpIn_rangeFunc fun fid _ => ?_)
 have hcall : ∃ d : Deferred, (resolve a.eval (rangeCall (.tmp t) (w.heap.size + 1)) 0).run P ((w.alloc (.deferred (some []))).alloc (.loop (recOf fid a.tmps params assign body w.heap.size .ready none))) = .ok d ((w.alloc (.deferred (some []))).alloc (.loop (recOf fid a.tmps params assign body w.heap.size .ready none))) ∧
   (invoke d.target d.args).run P ((w.alloc (.deferred (some []))).alloc (.loop (recOf fid a.tmps params assign body w.heap.size .ready none))) = .ok (.enter g (SV.denL ρ (.v (.func (.yield (w.heap.size + 1)) #[] #[]) :: caps)).toArray) ((w.alloc (.deferred (some []))).alloc (.loop (recOf fid a.tmps params assign body w.heap.size .ready none))) := by
  generalize ((w.alloc (.deferred (some []))).alloc (.loop (recOf fid a.tmps params assign body w.heap.size .ready none))) = w1
  have hev : a.eval (.tmp t) = .func (.func g) #[] (SV.denL ρ caps).toArray := by
   rw [evalS_sound hi.act (o := .tmp t) hl]; rfl
  unfold bodied at hb
  split at hb
  ·rename_i fn hfn
   simp only [Bool.and_eq_true, Bool.not_eq_true'] at hb
   have hbody : fn.body.isNone = false := by cases hq : fn.body <;> simp_all
   have hcf : ∀ xs, (callFunc g xs).run P w1 = .ok (.enter g xs) w1 := by
    intro xs
    unfold callFunc
    simp only [Sem.run_bind, run_program, Result.andThen_ok, hfn, hb.1, hbody, Bool.false_eq_true, if_false, Sem.run_pure]
   refine ⟨{ target := .fn (.func g) (SV.denL ρ caps).toArray, args := #[.func (.yield (w.heap.size + 1)) #[] #[]] }, ?_, ?_⟩
   ·have he : #[Operand.const (.func (.yield (w.heap.size + 1)) #[] #[])].map a.eval = #[.func (.yield (w.heap.size + 1)) #[] #[]] := by simp [Act.eval]
    simp only [rangeCall, resolve, hev, Deferred.ofValue, he, Sem.run_pure]
    rfl
   simp only [invoke, hcf]
   simp [SV.denL, SV.den]
  cases hb
 obtain ⟨d, hd1, hd2⟩ := hcall
 refine ⟨w.heap.size + 1, [{ target := .collected w.heap.size, args := #[] }], _, d, _, g, _, _, run_enterLoop_outer fid a.tmps params assign body, hd1, fun _ _ => trivial, hd2, fun h0 => absurd h0 (by simp [Fence.wide]), (callsIn_wide (n := 0)).2 ?_⟩
 refine (iter w.heap.size fid ρ a w _ hi hf rfl rfl).mono ?_
 rintro e w3 ⟨⟨v, rfl⟩, x, ρ3, r3, ⟨ext, rfl, hext⟩, hm3, hr3, hst, hpd, hG⟩
 refine ⟨r3.pending, _, run_endLoop hr3 hst, ?_⟩
 have hk := h x w.heap.size (ρ ++ ext) { a with defers := [{ target := .collected w.heap.size, args := #[] }] ++ a.defers } _ (@Inv.mk (Md.mark w.heap.size) _ _ _ _ _ _ _ _ (@AInv.mk (Md.mark w.heap.size) _ _ _ _ ?_ hi.act.size (hi.act.more (ext := ext) hi.mem.len hsc).slot) hm3) hG
 ·revert hk
  generalize w3.putObj (w.heap.size + 1) (.loop { r3 with state := .exhausted }) = w4
  rw [hpd]
  cases jmp x with
  | none =>
   intro hk
   have hk' : @postK (Md.mark w.heap.size) P s.ks Q .normal _ _ := hk
   rw [postK_md (md := Md.mark w.heap.size) rfl] at hk'
   exact hk'
  | some c =>
   intro hk
   have hk' : @CW (Md.mark w.heap.size) P c (@postK (Md.mark w.heap.size) P s.ks Q) _ _ := hk
   rw [postK_md (md := Md.mark w.heap.size) rfl, CW_md (md := Md.mark w.heap.size) rfl] at hk'
   exact (wpIn_wide (n := 0)).2 hk'
 show [_] ++ a.defers = [_]
 rw [hi.act.defers]
 rfl
theorem At.split {s : S} {id : Nat} {ops : Array Oper} (k : Nat) (hpc : s.pc = .code (.region id ops false)) (hQ : ¬ LetsOut (postK P s.ks Q))
  (h : At P Q N w0 ntm F ⟨.ops ops (ops.toList.take k), .next (wpListIn Fence.wide 0 P ops (postK P s.ks Q) (ops.toList.drop k)) :: s.ks, s.fr, s.loc⟩) : At P Q N w0 ntm F s := by
 intro ρ a w hi hf
 rw [hpc]
 show (Code.region id ops false).wp P (postK P s.ks Q) a w
 refine (wpIn_wide (n := 0)).1 (wpIn_region_list ?_)
 have h1 := h ρ a w hi hf
 have h2 := listInW (P := P) (ops := ops) hQ (ops.toList.take k) (ops.toList.drop k) a w h1
 rw [List.take_append_drop] at h2
 exact h2
theorem At.yield {X : Type} {ops : Array Oper} {o : Oper} {rest : List Oper} {ks : List K} {fr : Fr} {loc : Loc} {d : Tmp} {t : Tmp} {args : Array Operand} {tys : Array TypeId} {l : Nat} (vs : List SV)
  (hg : guardS ops fr o = some true) (hod : o.dst = some d) (hdn : Nat.blt d ntm = true) (ho : o.op = .call { callee := .value (.tmp t), args := args, argTypes := tys }) (hl : look fr t = some (.v (.func (.yield l) #[] #[]))) (hv : evalL fr args.toList = some vs)
  (hsc : scopedFr loc.length fr = true) (hQ : ¬ LetsOut (postK P ks Q)) (bv : X → Bool) (nl : X → Loc) (G : X → List Nat → World → Prop)
  (rnd : ∀ ρ a w, Inv N w0 ntm ρ fr loc a w → F ρ w → ∃ r, w.heap[l]? = some (.loop r) ∧ vs.length = r.params.size ∧
   RoundIn Fence.wide 0 P l r.fn ((r.params.zip (SV.denL ρ vs).toArray).foldl (fun tmps (t, a) => tmps.setIfInBounds t a) r.tmps) r.assign r.body w fun e w' => ∃ x ρ', e = .returned (.bool (bv x)) ∧ Grow w.heap.size ρ ρ' ∧ WInv N w0 ρ' (nl x) w' ∧ G x ρ' w')
  (h : ∀ x, At P Q N w0 ntm (G x) ⟨.ops ops rest, ks, (d, .v (.bool (bv x))) :: fr, nl x⟩) : At P Q N w0 ntm F ⟨.exit .normal, .next (wpListIn Fence.wide 0 P ops (postK P ks Q) (o :: rest)) :: ks, fr, loc⟩ := by
 intro ρ a w hi hf
 show wpListIn Fence.wide 0 P ops (postK P ks Q) (o :: rest) a w
 unfold wpListIn
 rw [if_pos (guardS_ok hi.act hg)]
 refine ⟨fun _ _ => trivial, ?_⟩
 show Oper.uponIn Fence.wide 0 P o a (wpListIn Fence.wide 0 P ops (postK P ks Q) rest) (postK P ks Q) ((o.semAt none a.eval).run P w)
 rw [Oper.semAt_none]
 obtain ⟨r, hr, hsz, hround⟩ := rnd ρ a w hi hf
 have hev : a.eval (.tmp t) = .func (.yield l) #[] #[] := by
  rw [evalS_sound hi.act (o := .tmp t) hl]; rfl
 have e2 := evalL_sound hi.act hv
 have e3 : args.map a.eval = (SV.denL ρ vs).toArray := Array.ext' (by rw [← e2]; simp)
 have hrun : (execOp a.eval o).run P w = .ok (.round l r.fn ((r.params.zip (SV.denL ρ vs).toArray).foldl (fun tmps (t, a) => tmps.setIfInBounds t a) r.tmps) r.assign r.body) w := by
  obtain ⟨dst, op, ty, pos, after, guard⟩ := o
  simp only at ho
  subst ho
  have hsz' : (SV.denL ρ vs).toArray.size = r.params.size := by simp [SV.denL_eq, hsz]
  have hy := run_yield (P := P) hr hsz'
  simp only [execOp, resolve, Deferred.ofValue, hev, invoke, Sem.run_bind, Sem.run_pure, Result.andThen_ok, e3]
  simpa using hy
 rw [hrun]
 show (_ → _) ∧ RoundIn Fence.wide (0 - 1) P l _ _ _ _ w _
 refine ⟨fun h0 => absurd h0 (by simp [Fence.wide]), hround.mono ?_⟩
 rintro e w' ⟨x, ρ', rfl, ⟨ext, rfl, hext⟩, hm, hG⟩
 refine listInW0 hQ _ _ _ ?_
 have hp : putS ntm fr o.dst (.v (.bool (bv x))) = some ((d, .v (.bool (bv x))) :: fr) := by
  rw [hod]
  simp [putS, hdn]
 exact h x (ρ ++ ext) (a.put o.dst (.bool (bv x))) w' ⟨putS_ok (s := .v (.bool (bv x))) (hi.act.more (ext := ext) hi.mem.len hsc) hp, hm⟩ hG
/-! ### facts when a record turns -/
theorem Row.putObj {base e size : Nat} {A : Option Addr} {n c : Nat} {xs : List Value} {ρ : List Nat} {w : World} (h : Row base e size A n c xs ρ w) {r : Nat} {o0 : Obj} (hr : w.heap[r]? = some o0) (ho : ∀ c t f, o0 ≠ .cells c t f) (o : Obj) : Row base e size A n c xs ρ (w.putObj r o) := by
 refine ⟨?_, h.2⟩
 obtain ⟨h1, h2⟩ := h.1
 refine ⟨h1, ?_⟩
 rcases h2 with h2 | ⟨g, cap, cur, hv, hb, hc, hrest⟩
 ·exact .inl h2
 refine .inr ⟨g, cap, cur, hv, hb, ?_, hrest⟩
 rw [World.putObj_heap_other (fun e => by rw [e, hr] at hc; injection hc with hc; exact ho _ _ _ hc)]
 exact hc
theorem FrameR.putObj {ok : Nat → Prop} {ρ0 ρ : List Nat} {w : World} (h : FrameR w0 ok ρ0 ρ w) {r : Nat} (hr : ok r ∨ w0.heap.size ≤ r) (o : Obj) : FrameR w0 ok ρ0 ρ (w.putObj r o) :=
 h.chg (ok' := fun k => k = r) ⟨rfl, rfl, rfl, by simp, fun k _ hk => World.putObj_heap_other hk⟩ (fun g _ hg => hg ▸ hr)
theorem RowF.putObj {ok : Nat → Prop} {ρ0 : List Nat} {base e size : Nat} {A : Option Addr} {n c : Nat} {xs : List Value} {ρ : List Nat} {w : World} (h : RowF w0 ok ρ0 base e size A n c xs ρ w) {r : Nat} {o0 : Obj} (hr : w.heap[r]? = some o0) (ho : ∀ c t f, o0 ≠ .cells c t f) (hok : ok r ∨ w0.heap.size ≤ r) (o : Obj) : RowF w0 ok ρ0 base e size A n c xs ρ (w.putObj r o) :=
 ⟨⟨h.1.1.putObj hr ho o, by simpa using h.1.2⟩, h.2.1.putObj hok o, h.2.2⟩
/-! ### the round -/
theorem roundOf {l : Nat} {fid : FuncId} {tmps : Array Value} {assign body : Code} {w : World} {R : Ending → World → Prop} {ρ : List Nat} {loc : Loc} {fr fr' : Fr} {r : Loop} {F0 : List Nat → World → Prop}
  (hm : WInv N w0 ρ loc w) (hF : F0 ρ w) (hsz : tmps.size = ntm) (hfr : ∀ t s, look fr t = some s → tmps[t]? = some (s.den ρ)) (hfa : flat assign = true) (hfb : flat body = true)
  (hrec : ∀ ρ w, F0 ρ w → w.heap[l]? = some (.loop r)) (hst : r.state = .ready)
  (asg : @At (Md.rnd l) P (fun _ _ _ => False) N w0 ntm F0 ⟨.code assign, [.next (fun a' w' => ∃ ρ', @Inv (Md.rnd l) N w0 ntm ρ' fr' loc a' w' ∧ F0 ρ' w')], fr, loc⟩)
  (h : ∀ ρ' w', WInv N w0 ρ' loc w' → F0 ρ' w' → ∀ a', @AInv (Md.rnd l) ntm ρ' fr' a' → @CW (Md.rnd l) P body (roundPost P l R) a' (w'.putObj l (.loop { r with state := .busy }))) : RoundIn Fence.wide 0 P l fid tmps assign body w R := by
 refine roundIn_of_wpIn trivial ?_
 have h1 := asg ρ { tmps := tmps, defers := [] } w (@Inv.mk (Md.rnd l) _ _ _ _ _ _ _ _ (@AInv.mk (Md.rnd l) _ _ _ _ rfl hsz hfr) hm) hF
 have h2 : @CW (Md.rnd l) P assign (Exit.then (fun a' w' => ∃ ρ', @Inv (Md.rnd l) N w0 ntm ρ' fr' loc a' w' ∧ F0 ρ' w') (fun _ _ _ => False)) { tmps := tmps, defers := [] } w := h1
 refine wpIn_mono ((@CW_some P _ (Md.rnd l) l rfl assign _ _).1 h2 hfa (fun ⟨_, _, h0⟩ => h0)) ?_
 intro e a' w' hq
 cases e with
 | normal =>
  obtain ⟨ρ', hi, hf⟩ := hq
  have hw := hrec ρ' w' hf
  refine ⟨_, run_beginRound hw hst, ?_⟩
  exact (@CW_some P _ (Md.rnd l) l rfl body _ _).1 (h ρ' w' (@Inv.mem (Md.rnd l) _ _ _ _ _ _ _ _ hi) hf a' (@Inv.act (Md.rnd l) _ _ _ _ _ _ _ _ hi)) hfb (fun ⟨_, _, h0⟩ => h0)
 | _ => exact hq
end
section
variable {P : Program} {N : Nat} {w0 : World} {ntm : Nat} {F : List Nat → World → Prop}
variable [Md]
def endOf : Exit → Option (Option Code)
 | .normal => some none
 | .ret => some (some .ret)
 | .exit id => some (some (.exit id))
 | _ => none
theorem At.rndEnd {l : Nat} {R : Ending → World → Prop} {s : S} {e : Exit} (jump : Option Code) (hp : s.pc = .exit e) (hk : s.ks = []) (he : endOf e = some jump)
  (h : ∀ ρ w, WInv N w0 ρ s.loc w → F ρ w → ∃ r, w.heap[l]? = some (.loop r) ∧ R (.returned (.bool jump.isNone)) (w.putObj l (.loop { r with state := if jump.isNone then .ready else .done, pending := jump }))) : At P (roundPost P l R) N w0 ntm F s := by
 intro ρ a w hi hf
 obtain ⟨r, hr, hR⟩ := h ρ w hi.mem hf
 rw [hp, hk]
 cases e with
 | normal => injection he with he; subst he; exact ⟨_, _, run_endRound _ hr, hR⟩
 | ret => injection he with he; subst he; exact ⟨_, _, run_endRound _ hr, hR⟩
 | exit id => injection he with he; subst he; exact ⟨_, _, run_endRound _ hr, hR⟩
 | _ => cases he
variable {Q : Exit → Act → World → Prop}
theorem At.newcallV {s : S} (g : FuncId) (vs : List SV) (v v2 : SV) (locc : Loc) (hF : Stable F) (hc : s.call? = some (g, vs)) (hb : bodied P g = true) (hd : s.dstOk ntm = true) (hp : s.plain = true)
  (hsc : scopedFr s.loc.length s.fr = true) (hl : scopedLoc s.loc.length s.loc = true) (hv : ∀ ρ ρc : List Nat, ρ.length = s.loc.length → v2.den (ρ ++ ρc) = v.den ρc) (hcl : scopedLoc 0 locc = true)
  (hr : ∀ ρ w, WInv N w0 ρ s.loc w → F ρ w → Calls P g (SV.denL ρ vs).toArray w fun e' w' => ∃ ρc, e' = .returned (v.den ρc) ∧ WInv w.heap.size w ρc locc w')
  (h : At P Q N w0 ntm F ((s.tail ntm v2).withLoc (s.loc ++ locc))) : At P Q N w0 ntm F s := by
 refine At.callg (X := Unit) g vs (fun _ => v2) (fun _ => s.loc ++ locc) (fun _ => F) hc hb hd hp hsc ?_ (fun _ => h)
 intro ρ w hm hf
 refine (hr ρ w hm hf).mono ?_
 rintro e' w' ⟨ρc, rfl, km⟩
 have hblk : ∀ k, k < w.heap.size → w'.heap[k]? = w.heap[k]? := km.below.block
 have hgrow : Grow w.heap.size ρ (ρ ++ ρc) := ⟨ρc, rfl, fun x hx => (km.ge x hx).1⟩
 have hlen := hm.len
 refine ⟨(), ρ ++ ρc, by rw [hv ρ ρc hm.len], hgrow, ⟨hm.below.trans (km.below.mono hm.hN), Nat.le_trans hm.hN km.below.size, by simp [hm.len, km.len], ?_, ?_, ?_⟩, hF ρ w (ρ ++ ρc) w' hgrow ⟨km.below.os, km.below.tape, km.below.output, km.below.size, fun k hk _ => hblk k hk⟩ hf⟩
 ·rw [List.nodup_append]
  refine ⟨hm.nodup, km.nodup, fun x hx y hy => ?_⟩
  have := (hm.ge x hx).2
  have := (km.ge y hy).1
  omega
 ·intro b hb
  rcases List.mem_append.1 hb with hb | hb
  ·exact ⟨(hm.ge b hb).1, Nat.lt_of_lt_of_le (hm.ge b hb).2 km.below.size⟩
  exact ⟨Nat.le_trans hm.hN (km.ge b hb).1, (km.ge b hb).2⟩
 intro i c t hi
 by_cases hlt : i < s.loc.length
 ·rw [List.getElem?_append_left hlt] at hi
  have hold := hm.cells i c t hi
  have hs := scopedLoc_get hl hi
  have hn : nth (ρ ++ ρc) i = nth ρ i := by simp only [nth, List.getD]; rw [List.getElem?_append_left (by omega)]
  have hden : SV.denL (ρ ++ ρc) c = SV.denL ρ c := by
   rw [← SV.denL_take (ρ ++ ρc) s.loc.length c hs, ← hlen]
   simp
  rw [hn, hden, hblk _ (Array.getElem?_eq_some_iff.1 hold).1]
  exact hold
 rw [List.getElem?_append_right (by omega)] at hi
 have hn : nth (ρ ++ ρc) i = nth ρc (i - s.loc.length) := by
  simp only [nth, List.getD]
  rw [List.getElem?_append_right (by omega), hlen]
 rw [hn, denL_closed (ρ' := ρc) (scopedLoc_get hcl hi)]
 exact km.cells _ c t hi
def canL (l : Loc) : Loc := l.map fun p => (p.1.map SV.canon, p.2)
theorem At.canL {s : S} (s' : S) (hs : { s with loc := Go.Sx.canL s.loc } = s') (h : At P Q N w0 ntm F s') : At P Q N w0 ntm F s := by
 subst hs
 intro ρ a w hi hf
 refine h ρ a w ⟨hi.act, hi.mem.below, hi.mem.hN, by rw [hi.mem.len]; simp [Go.Sx.canL], hi.mem.nodup, hi.mem.ge, fun i c t hc => ?_⟩ hf
 simp only [Go.Sx.canL, List.getElem?_map, Option.map_eq_some_iff] at hc
 obtain ⟨⟨c', t'⟩, h1, h2⟩ := hc
 simp only [Prod.mk.injEq] at h2
 obtain ⟨rfl, rfl⟩ := h2
 have := hi.mem.cells i c' t' h1
 rw [this]
 simp only [SV.denL_eq, List.map_map]
 congr 4
 funext x
 simp only [Function.comp]
 exact (SV.canon_den ρ x).symm
end
end Go.Sx
end
section
namespace Go.Proofs.YthfpekhpeiebjaaGreatDoor
open Go.RowKit Go.Sx
open Go.Lib
structure Cf where
 g : Int
 s : Int
 k : Int
 sz : Int
 sl : Int
 of : Int
 gp : Int
 lt : Int
 ea : Int
 d : Bool
 deriving DecidableEq
def Cf.w : Cf → List Value
 | ⟨g, s, k, sz, sl, of, gp, lt, ea, d⟩ => [.int .i64 g, .int .i64 s, .int .i64 k, .int .i64 sz, .int .i64 sl, .int .i64 of, .int .i64 gp, .int .i64 lt, .int .i64 ea, .bool d]
def Cf.wr : Cf → Int
 | ⟨g, s, k, sz, sl, of, gp, lt, ea, _⟩ => wrongR g s k sz sl of gp lt ea
def Cf.text : Cf → List UInt8
 | ⟨g, s, k, sz, sl, of, gp, lt, ea, d⟩ => textW g s k sz sl of gp lt ea d
def cf0 : Cf := ⟨0, 0, 0, 0, 0, 0, 0, 0, 0, false⟩
structure St where
 kd : Int
 ik : Int
 key : List UInt8
 t : Int
 v : Int
 src : Int
 wk : Int
 wks : Int
 bit : Int
 mask : Int
 deriving DecidableEq
def St.w : St → List Value
 | ⟨kd, ik, key, t, v, src, wk, wks, bit, mask⟩ => [.int .i64 kd, .int .i64 ik, .string (mkB key), .int .i64 t, .int .i64 v, .int .i64 src, .int .i64 wk, .int .i64 wks, .int .i64 bit, .int .u32 mask]
def stW (l : List St) : List Value := l.flatMap St.w
theorem St.w_len (x : St) : x.w.length = 10 := by cases x; rfl
theorem stW_app (l : List St) (x : St) : stW (l ++ [x]) = stW l ++ x.w := by simp [stW]
theorem stW_len : ∀ l : List St, (stW l).length = l.length * 10
 | [] => rfl
 | x :: l => by
  simp only [stW, List.flatMap_cons, List.length_append, St.w_len]
  have := stW_len l
  unfold stW at this
  rw [this, List.length_cons]
  omega
def cfgP (t : List UInt8) : Option Cf :=
 match pcs [] t with
 | [_, p1, _, p3, _, p5, _, p7, _, p9, _, p11, _, p13, _, p15, _, p17, _, p19] =>
  if wrongR (kitN p1) (kitN p3) (kitK p5) (kitN p7) (kitN p9) (kitN p11) (kitN p13) (kitN p15) (kitN p17) = 0 ∧ textW (kitN p1) (kitN p3) (kitK p5) (kitN p7) (kitN p9) (kitN p11) (kitN p13) (kitN p15) (kitN p17) (kitS p19 == 1) = t then
   some ⟨kitN p1, kitN p3, kitK p5, kitN p7, kitN p9, kitN p11, kitN p13, kitN p15, kitN p17, kitS p19 == 1⟩ else none
 | _ => none
theorem cfgP_iff (t : List UInt8) (c : Cf) : cfgP t = some c ↔ c.wr = 0 ∧ c.text = t := by
 obtain ⟨g, s, k, sz, sl, of, gp, lt, ea, d⟩ := c
 simp only [Cf.wr, Cf.text]
 constructor
 ·intro h
  unfold cfgP at h
  split at h
  ·split at h
   ·rename_i h0
    simp only [Option.some.injEq, Cf.mk.injEq] at h
    obtain ⟨rfl, rfl, rfl, rfl, rfl, rfl, rfl, rfl, rfl, rfl⟩ := h
    exact h0
   cases h
  cases h
 rintro ⟨hw, ht⟩
 have hp := pcs_text hw d
 rw [ht] at hp
 have hlen : (pcs [] t).length = 20 := by rw [hp]; rfl
 obtain ⟨p0, p1, p2, p3, p4, p5, p6, p7, p8, p9, p10, p11, p12, p13, p14, p15, p16, p17, p18, p19, hq⟩ := len20 hlen
 obtain ⟨rfl, rfl, rfl, rfl, rfl, rfl, rfl, rfl, rfl, rfl⟩ := kit_fix hq hw ht
 unfold cfgP
 rw [hq]
 simp only
 rw [if_pos ⟨hw, ht⟩]
theorem kitP_some {t : List UInt8} {c : Cf} (h : cfgP t = some c) : kitP (mkB t) (pcs [] t) = .tuple #[.agg c.w.toArray, .int .i64 0] := by
 obtain ⟨hw, ht⟩ := (cfgP_iff t c).1 h
 obtain ⟨g, s, k, sz, sl, of, gp, lt, ea, d⟩ := c
 simp only [Cf.wr, Cf.text] at hw ht
 have hp := pcs_text hw d
 rw [ht] at hp
 have hlen : (pcs [] t).length = 20 := by rw [hp]; rfl
 obtain ⟨p0, p1, p2, p3, p4, p5, p6, p7, p8, p9, p10, p11, p12, p13, p14, p15, p16, p17, p18, p19, hq⟩ := len20 hlen
 obtain ⟨rfl, rfl, rfl, rfl, rfl, rfl, rfl, rfl, rfl, rfl⟩ := kit_fix hq hw ht
 rw [hq]
 unfold kitP
 simp only
 exact kitA_ok (t := mkB t) hw ht
theorem kitA_no {t : ByteArray} {g s k sz sl of gp lt ea d : Int} (h : ¬ (wrongR g s k sz sl of gp lt ea = 0 ∧ textW g s k sz sl of gp lt ea (d == 1) = t.data.toList)) : kitA t g s k sz sl of gp lt ea d = badP := by
 unfold kitA
 rw [jobE_zero, wrong_eq, bytes_beq]
 by_cases hw : wrongR g s k sz sl of gp lt ea = 0
 ·rw [hw, decide_eq_false (fun e => h ⟨hw, e⟩)]
  rfl
 rw [show (wrongR g s k sz sl of gp lt ea != 0) = true from by simpa using hw]
 rfl
theorem kitP_none {t : List UInt8} (h : cfgP t = none) : kitP (mkB t) (pcs [] t) = badP := by
 unfold kitP
 split
 ·rename_i hp
  refine kitA_no fun h0 => ?_
  unfold cfgP at h
  rw [hp] at h
  simp only at h
  split at h
  ·cases h
  rename_i hn
  exact hn h0
 rfl
def numsP (s : List UInt8) (n : Nat) : Option (List Int) := if (pcs [] s).length = n then (pcs [] s).mapM numK else none
def cutB : List UInt8 → List UInt8 × List UInt8 × Bool
 | [] => ([], [], false)
 | c :: r => if c = 32 then ([], r, true) else (c :: (cutB r).1, (cutB r).2.1, (cutB r).2.2)
def ev (key : List UInt8) (t v : Int) : St := ⟨1, 1, key, t, v, 0, 0, 0, 0, 0⟩
def mk (src t : Int) : St := ⟨1, 2, [], t, 0, src, 0, 0, 0, 0⟩
def sv1 : St := ⟨1, 3, [], 0, 0, 0, 0, 0, 0, 0⟩
def pk (n : Int) : St := ⟨2, 0, [], 0, 0, 0, n, 0, 0, 0⟩
def dr : St := ⟨3, 0, [], 0, 0, 0, 0, 0, 0, 0⟩
def rs (n : Int) : St := ⟨4, 0, [], 0, 0, 0, 0, n, 0, 0⟩
def sp (n m : Int) : St := ⟨5, 0, [], 0, 0, 0, 0, 0, n, m⟩
def stepP (l : List UInt8) : Option St :=
 match cutB l with
 | (w, r, more) =>
  if more = false then (if w = [115, 97, 118, 101] then some sv1 else if w = [100, 114, 97, 105, 110] then some dr else none)
  else if w = [101, 118, 101, 110, 116] then (match keyK r with
   | some (k, q) => (match q with
    | c :: q' => if c = 32 then (match numsP q' 2 with
     | some [a, b] => some (ev k a b)
     | _ => none) else none
    | [] => none)
   | none => none)
  else if w = [109, 97, 114, 107] then (match numsP r 2 with
   | some [a, b] => some (mk a b)
   | _ => none)
  else if w = [112, 105, 99, 107] then (match numsP r 1 with
   | some [a] => some (pk a)
   | _ => none)
  else if w = [114, 101, 115, 116, 111, 114, 101] then (match numsP r 1 with
   | some [a] => some (rs a)
   | _ => none)
  else if w = [115, 112, 111, 105, 108] then (match numsP r 2 with
   | some [a, b] => if 0 ≤ b ∧ b < 4294967296 then some (sp a b) else none
   | _ => none)
  else none
def timeB (t : Int) : Bool := decide (-4611686018427387904 ≤ t) && decide (t ≤ 4611686018427387904)
def mayB (c : Cf) (x : St) : Bool :=
  if x.kd = 1 then (x.wk == 0 && (x.wks == 0 && (x.bit == 0 && (x.mask == 0 &&
    (if x.ik = 1 then decide (x.key.length ≤ 256) && (timeB x.t && x.src == 0)
     else if x.ik = 2 then decide (0 ≤ x.src) && (decide (x.src < c.s) && (timeB x.t && (decide (x.key = []) && x.v == 0)))
     else if x.ik = 3 then decide (x.key = []) && (x.t == 0 && (x.v == 0 && x.src == 0))
     else false)))))
  else if x.ik = 0 ∧ x.key = [] ∧ x.t = 0 ∧ x.v = 0 ∧ x.src = 0 then
    (if x.kd = 2 then x.wks == 0 && (x.bit == 0 && (x.mask == 0 && decide (0 ≤ x.wk)))
     else if x.kd = 3 then x.wk == 0 && (x.wks == 0 && (x.bit == 0 && x.mask == 0))
     else if x.kd = 4 then x.wk == 0 && (x.bit == 0 && (x.mask == 0 && (decide (1 ≤ x.wks) && decide (x.wks ≤ c.g))))
     else if x.kd = 5 then x.wk == 0 && (x.wks == 0 && decide (0 ≤ x.bit))
     else false)
  else false
def jobT : List UInt8 := [106, 111, 98, 32]
def worT : List UInt8 := [119, 111, 114, 107, 101, 114, 115, 32]
inductive RS where
 | go (n : Nat) (c : Cf) (wk : Int) (xs : List St)
 | ret
 | brk
def stepR (ln : List UInt8) (en : Bool) (n : Nat) (c : Cf) (wk : Int) (xs : List St) : RS :=
 if en = false then .ret else
 match n with
 | 0 => if hasPrefix ln jobT then (match cfgP (trimPrefix ln jobT) with
  | some c' => .go 1 c' wk xs
  | none => .brk) else .brk
 | 1 => if hasPrefix ln worT then (match numsP (trimPrefix ln worT) 1 with
  | some [x] => if x < 1 ∨ c.g < x then .brk else .go 2 c x xs
  | _ => .brk) else .brk
 | n + 2 => match stepP ln with
  | some x => if mayB c x then .go (n + 3) c wk (xs ++ [x]) else .ret
  | none => .ret
def cutsF : Nat → List UInt8 → List (List UInt8 × Bool)
 | 0, _ => []
 | f + 1, t => match t with
  | [] => []
  | c :: r => ((cutN (c :: r)).1, (cutN (c :: r)).2.2) :: cutsF f (cutN (c :: r)).2.1
def cutsP (t : List UInt8) : List (List UInt8 × Bool) := cutsF t.length t
theorem cutN_no : ∀ t : List UInt8, (cutN t).2.2 = false → (cutN t).2.1 = []
 | [], _ => rfl
 | c :: r, h => by
  unfold cutN at h ⊢
  split
  ·rename_i hc
   rw [if_pos hc] at h
   cases h
  rename_i hc
  rw [if_neg hc] at h
  exact cutN_no r h
theorem cutN_less (c : UInt8) (r : List UInt8) : (cutN (c :: r)).2.1.length < (c :: r).length := by
 cases h : (cutN (c :: r)).2.2 with
 | true => exact (cutN_len (c :: r)).2.2 h
 | false => rw [cutN_no _ h]; simp
theorem cutsF_fuel : ∀ (f g : Nat) (t : List UInt8), t.length ≤ f → t.length ≤ g → cutsF f t = cutsF g t
 | 0, 0, _, _, _ => rfl
 | 0, g + 1, t, h, _ => by
  have : t = [] := List.eq_nil_of_length_eq_zero (by omega)
  subst this; rfl
 | f + 1, 0, t, _, h => by
  have : t = [] := List.eq_nil_of_length_eq_zero (by omega)
  subst this; rfl
 | f + 1, g + 1, t, h1, h2 => by
  cases t with
  | nil => rfl
  | cons c r =>
   have := cutN_less c r
   simp only [cutsF]
   rw [cutsF_fuel f g _ (by omega) (by omega)]
theorem cutsP_nil : cutsP [] = [] := rfl
theorem cutsP_cons {c : UInt8} {r ln rs : List UInt8} {en : Bool} (h : cutN (c :: r) = (ln, rs, en)) : cutsP (c :: r) = (ln, en) :: cutsP rs := by
 have hl := cutN_less c r
 unfold cutsP
 rw [List.length_cons]
 simp only [cutsF, h]
 rw [h] at hl
 rw [cutsF_fuel r.length rs.length rs (by simp only [List.length_cons] at hl; omega) (Nat.le_refl _)]
structure FO where
 n : Nat
 c : Cf
 wk : Int
 xs : List St
 stop : Option Bool
def runL : List (List UInt8 × Bool) → Nat → Cf → Int → List St → FO
 | [], n, c, wk, xs => ⟨n, c, wk, xs, none⟩
 | (ln, en) :: ls, n, c, wk, xs => match stepR ln en n c wk xs with
  | .go n' c' wk' xs' => runL ls n' c' wk' xs'
  | .ret => ⟨n, c, wk, xs, some true⟩
  | .brk => ⟨n, c, wk, xs, some false⟩
def FO.ok (f : FO) : Bool := f.stop != some true && decide (2 ≤ f.n)
def parseS (t : List UInt8) : FO := runL (cutsP t) 0 cf0 0 []
end Go.Proofs.YthfpekhpeiebjaaGreatDoor
end
