/- Joined texts: Wrong, GA, GB, GD, GF, GG, GL, GC. -/
import Derived.Test.YthfpekhpeiebjaaGreatDoorTAE
import Derived.WalkSmall
set_option linter.unusedSimpArgs false
set_option linter.unusedVariables false
namespace Go.Sx
open Go
def pAF0 : List Nat := [1, 1, 1, 1, 1, 0, 1, 4, 4, 1, 1, 0, 4, 1, 1, 1, 0, 1, 2]
def pAF1 : List Nat := [1, 1, 1, 1, 1, 0, 1, 4, 4, 1, 1, 0, 4, 1, 1, 1, 1, 1]
def pAF2 : List Nat := [1, 1, 1, 1, 1, 0, 1, 4, 4, 1, 1, 0, 4, 1, 1, 1, 0, 1]
def pAF3 : List Nat := [1, 1, 1, 1, 1, 0, 1, 4, 4, 1, 1, 0, 4, 1, 1, 1, 1]
def pAF4 : List Nat := [1, 1, 1, 1, 1, 0, 1, 4, 4, 1, 1, 0, 4, 1, 1, 0]
def pAF5 : List Nat := [1, 1, 1, 1, 1, 0, 1, 4, 4, 1, 1, 0, 4, 1, 1, 1]
def pAF6 : List Nat := [1, 1, 1, 1, 1, 0, 1, 4, 4, 1, 1, 1]
def pAF7 : List Nat := [1, 1, 1, 1, 1, 0, 1, 4, 4]
def pAF8 : List Nat := [1, 1, 1, 1, 1, 1]
end Go.Sx
section
namespace Go.Proofs.YthfpekhpeiebjaaGreatDoor
open Go.RowKit Go.Sx
theorem within_any (x lo hi : Int) (w : World) :
  Calls Tryz.prog 85 #[.int .i64 x, .int .i64 lo, .int .i64 hi] w fun e w' => e = .returned (.bool (decide (lo ≤ x) && decide (x ≤ hi))) ∧ Below w.heap.size w w' := by
 refine enter (fn := Tryz.f85) [.io .i64 x, .io .i64 lo, .io .i64 hi] Tryz.func85 rfl rfl ?_
 refine At.run noF_stable 0 100 ?_
 by_cases h : x ≥ lo
 ·refine At.res 10 (decide (x ≥ lo)) true (by kernel_rfl) (by simp [h]) ?_
  refine At.run noF_stable 0 100 ?_
  refine zE (.bo (decide (x ≤ hi))) ?_
  intro ρ w' hw _
  exact ⟨by simp [SV.den]; omega, hw.below⟩
 refine At.res 10 (decide (x ≥ lo)) false (by kernel_rfl) (by simp [h]) ?_
 refine At.run noF_stable 0 100 ?_
 refine zE (.v (.bool false)) ?_
 intro ρ w' hw _
 exact ⟨by simp [SV.den]; omega, hw.below⟩
def wrongF (g s k sz sl of gp lt ea : Int) : Int :=
 bif !(decide (1 ≤ g) && decide (g ≤ 32768)) then 1 else
 bif !(decide (1 ≤ s) && decide (s ≤ 64)) then 2 else
 bif !(decide (1 ≤ k) && decide (k ≤ 3)) then 3 else
 bif (bif k == 3 then !(sz == 0) else !(decide (1 ≤ sz) && decide (sz ≤ 1099511627776))) then 4 else
 bif (bif k == 2 then (bif (decide (1 ≤ sl) && decide (sl ≤ sz)) then !decide (sz ≤ IntKind.i64.wrap (64 * sl)) else true) else !(sl == 0)) then 5 else
 bif (bif k == 3 then !(of == 0) else !(decide (0 ≤ of) && decide (of ≤ IntKind.i64.wrap ((bif k == 2 then sl else sz) - 1)))) then 6 else
 bif (bif k == 3 then !(decide (1 ≤ gp) && decide (gp ≤ 1099511627776)) else !(gp == 0)) then 7 else
 bif !(decide (0 ≤ lt) && decide (lt ≤ 1099511627776)) then 8 else
 bif !(decide (0 ≤ ea) && decide (ea ≤ 2147483647)) then 9 else 0
def jobE (n : Int) : Int := if n = 0 then 0 else 4
theorem wrong_fin {n m : Int} (h : n = m) : Ending.returned (.tuple #[.int .i64 m, .int .i64 (jobE m)]) = .returned (.tuple #[.int .i64 n, .int .i64 (jobE n)]) := by rw [h]
def cfgL (g s k sz sl of gp lt ea : Int) (d : Bool) : List SV := [.io .i64 g, .io .i64 s, .io .i64 k, .io .i64 sz, .io .i64 sl, .io .i64 of, .io .i64 gp, .io .i64 lt, .io .i64 ea, .bo d]
def rowsL (g s k sz sl of gp lt ea st : Int) : List SV := [.v (.bool false), .io .i64 g, .v (.int .i64 1), .v (.int .i64 32768), .v (.bool false), .io .i64 s, .v (.int .i64 1), .v (.int .i64 64), .v (.bool false), .io .i64 k, .v (.int .i64 1), .v (.int .i64 3), .bo (k == 3), .io .i64 sz, .v (.int .i64 1), .v (.int .i64 1099511627776), .bo (!k == 2), .io .i64 sl, .v (.int .i64 1), .io .i64 sz, .bo (k == 3), .io .i64 of, .v (.int .i64 0), .io .i64 (IntKind.i64.wrap (st - 1)), .bo (!k == 3), .io .i64 gp, .v (.int .i64 1), .v (.int .i64 1099511627776), .v (.bool false), .io .i64 lt, .v (.int .i64 0), .v (.int .i64 1099511627776), .v (.bool false), .io .i64 ea, .v (.int .i64 0), .v (.int .i64 2147483647)]
noncomputable def B72 : Code := (Tryz.f72.body).getD .skip
noncomputable def sq72 (p : List Nat) : Go.Sx.K := .seq (sub B72 p)
set_option maxHeartbeats 4000000 in
set_option maxRecDepth 100000 in
theorem wrong_any (g s k sz sl of gp lt ea : Int) (d : Bool) (w : World) :
  Calls Tryz.prog 72 #[.agg #[.int .i64 g, .int .i64 s, .int .i64 k, .int .i64 sz, .int .i64 sl, .int .i64 of, .int .i64 gp, .int .i64 lt, .int .i64 ea, .bool d]] w fun e w' =>
   e = .returned (.tuple #[.int .i64 (wrongF g s k sz sl of gp lt ea), .int .i64 (jobE (wrongF g s k sz sl of gp lt ea))]) ∧ Below w.heap.size w w' := by
 refine enter (fn := Tryz.f72) (c := B72) [.agg (cfgL g s k sz sl of gp lt ea d)] Tryz.func72 rfl rfl ?_
 refine zM [1, 4, 5, 6, 20] 1 ⟨.code (sub B72 [1, 1, 1, 0, 1]), [(sq72 [1, 1, 1, 1])], [(1, .lp 0 0), (4, .bo (k == 2)), (5, .bo (k == 3)), (6, .io .i64 sz), (20, .bo (k == 2))], [((cfgL g s k sz sl of gp lt ea d), 25)]⟩ ?_
 rcases zB (k == 2) with b0 | b0
 ·refine zR 20 b0 ?_
  refine zM [1, 4, 10, 61, 62, 75, 79, 81, 83, 85] 1 ⟨pops B72 pAF4 18, [(sq72 pAF5), .block 1, (sq72 pAF6), .rounds (sub B72 pAF7) 19, .block 0, (sq72 pAF8)], [(1, .lp 0 0), (4, .bo (k == 2)), (10, .v (.int .i64 1)), (61, .agg (rowsL g s k sz sl of gp lt ea sl)), (62, .v (.int .i64 0)), (75, .v (.bool false)), (79, .v (.bool true)), (81, .io .i64 g), (83, .v (.int .i64 1)), (85, .v (.int .i64 32768))], [((cfgL g s k sz sl of gp lt ea d), 25)]⟩ ?_
  refine zC noF_stable 85 [.io .i64 g, .v (.int .i64 1), .v (.int .i64 32768)] (.bo (decide (1 ≤ g) && decide (g ≤ 32768))) (fun _ _ w _ _ => within_any (g) (1) (32768) w) ?_
  refine zM [1, 4, 10, 61, 62, 104] 1 ⟨.code (sub B72 pAF1), [.block 1, (sq72 pAF6), .rounds (sub B72 pAF7) 19, .block 0, (sq72 pAF8)], [(1, .lp 0 0), (4, .bo (k == 2)), (10, .v (.int .i64 1)), (61, .agg (rowsL g s k sz sl of gp lt ea sl)), (62, .v (.int .i64 0)), (104, .bo !(decide (1 ≤ g) && decide (g ≤ 32768)))], [((cfgL g s k sz sl of gp lt ea d), 25)]⟩ ?_
  rcases zB (!(decide (1 ≤ g) && decide (g ≤ 32768))) with b1 | b1
  ·refine zR 104 b1 ?_
   refine zM [2, 3] 0 ⟨.exit .ret, [], [(2, .v (.int .i64 1)), (3, .v (.int .i64 4))], []⟩ ?_
   refine zE (.tup [.v (.int .i64 1), .v (.int .i64 4)]) ?_
   intro ρ w0 hw _
   exact ⟨wrong_fin (by simp only [wrongF, *, cond_true, cond_false, Bool.not_true, Bool.not_false]), hw.below⟩
  refine zR 104 b1 ?_
  refine zM [1, 4, 10, 61, 62, 75, 79, 81, 83, 85] 1 ⟨pops B72 pAF4 18, [(sq72 pAF5), .block 1, (sq72 pAF6), .rounds (sub B72 pAF7) 18, .block 0, (sq72 pAF8)], [(1, .lp 0 0), (4, .bo (k == 2)), (10, .v (.int .i64 2)), (61, .agg (rowsL g s k sz sl of gp lt ea sl)), (62, .v (.int .i64 1)), (75, .v (.bool false)), (79, .v (.bool true)), (81, .io .i64 s), (83, .v (.int .i64 1)), (85, .v (.int .i64 64))], [((cfgL g s k sz sl of gp lt ea d), 25)]⟩ ?_
  refine zC noF_stable 85 [.io .i64 s, .v (.int .i64 1), .v (.int .i64 64)] (.bo (decide (1 ≤ s) && decide (s ≤ 64))) (fun _ _ w _ _ => within_any (s) (1) (64) w) ?_
  refine zM [1, 4, 10, 61, 62, 104] 1 ⟨.code (sub B72 pAF1), [.block 1, (sq72 pAF6), .rounds (sub B72 pAF7) 18, .block 0, (sq72 pAF8)], [(1, .lp 0 0), (4, .bo (k == 2)), (10, .v (.int .i64 2)), (61, .agg (rowsL g s k sz sl of gp lt ea sl)), (62, .v (.int .i64 1)), (104, .bo !(decide (1 ≤ s) && decide (s ≤ 64)))], [((cfgL g s k sz sl of gp lt ea d), 25)]⟩ ?_
  rcases zB (!(decide (1 ≤ s) && decide (s ≤ 64))) with b2 | b2
  ·refine zR 104 b2 ?_
   refine zM [2, 3] 0 ⟨.exit .ret, [], [(2, .v (.int .i64 2)), (3, .v (.int .i64 4))], []⟩ ?_
   refine zE (.tup [.v (.int .i64 2), .v (.int .i64 4)]) ?_
   intro ρ w0 hw _
   exact ⟨wrong_fin (by simp only [wrongF, *, cond_true, cond_false, Bool.not_true, Bool.not_false]), hw.below⟩
  refine zR 104 b2 ?_
  refine zM [1, 4, 10, 61, 62, 75, 79, 81, 83, 85] 1 ⟨pops B72 pAF4 18, [(sq72 pAF5), .block 1, (sq72 pAF6), .rounds (sub B72 pAF7) 17, .block 0, (sq72 pAF8)], [(1, .lp 0 0), (4, .bo (k == 2)), (10, .v (.int .i64 3)), (61, .agg (rowsL g s k sz sl of gp lt ea sl)), (62, .v (.int .i64 2)), (75, .v (.bool false)), (79, .v (.bool true)), (81, .io .i64 k), (83, .v (.int .i64 1)), (85, .v (.int .i64 3))], [((cfgL g s k sz sl of gp lt ea d), 25)]⟩ ?_
  refine zC noF_stable 85 [.io .i64 k, .v (.int .i64 1), .v (.int .i64 3)] (.bo (decide (1 ≤ k) && decide (k ≤ 3))) (fun _ _ w _ _ => within_any (k) (1) (3) w) ?_
  refine zM [1, 4, 10, 61, 62, 104] 1 ⟨.code (sub B72 pAF1), [.block 1, (sq72 pAF6), .rounds (sub B72 pAF7) 17, .block 0, (sq72 pAF8)], [(1, .lp 0 0), (4, .bo (k == 2)), (10, .v (.int .i64 3)), (61, .agg (rowsL g s k sz sl of gp lt ea sl)), (62, .v (.int .i64 2)), (104, .bo !(decide (1 ≤ k) && decide (k ≤ 3)))], [((cfgL g s k sz sl of gp lt ea d), 25)]⟩ ?_
  rcases zB (!(decide (1 ≤ k) && decide (k ≤ 3))) with b3 | b3
  ·refine zR 104 b3 ?_
   refine zM [2, 3] 0 ⟨.exit .ret, [], [(2, .v (.int .i64 3)), (3, .v (.int .i64 4))], []⟩ ?_
   refine zE (.tup [.v (.int .i64 3), .v (.int .i64 4)]) ?_
   intro ρ w0 hw _
   exact ⟨wrong_fin (by simp only [wrongF, *, cond_true, cond_false, Bool.not_true, Bool.not_false]), hw.below⟩
  refine zR 104 b3 ?_
  refine zM [1, 4, 9, 10, 61, 62, 70] 2 ⟨pops B72 pAF4 3, [(sq72 pAF5), .block 1, (sq72 pAF6), .rounds (sub B72 pAF7) 16, .block 0, (sq72 pAF8)], [(1, .lp 0 0), (4, .bo (k == 2)), (9, .lp 1 0), (10, .v (.int .i64 4)), (61, .agg (rowsL g s k sz sl of gp lt ea sl)), (62, .v (.int .i64 3)), (70, .bo (k == 3))], [((cfgL g s k sz sl of gp lt ea d), 25), ([.bo (k == 3), .io .i64 sz, .v (.int .i64 1), .v (.int .i64 1099511627776)], 138)]⟩ ?_
  rcases zB (k == 3) with b4 | b4
  ·refine zR 70 b4 ?_
   refine zM [1, 4, 9, 10, 61, 62, 75] 2 ⟨pops B72 pAF4 8, [(sq72 pAF5), .block 1, (sq72 pAF6), .rounds (sub B72 pAF7) 16, .block 0, (sq72 pAF8)], [(1, .lp 0 0), (4, .bo (k == 2)), (9, .lp 1 0), (10, .v (.int .i64 4)), (61, .agg (rowsL g s k sz sl of gp lt ea sl)), (62, .v (.int .i64 3)), (75, .bo (sz == 0))], [((cfgL g s k sz sl of gp lt ea d), 25), ([.bo (k == 3), .io .i64 sz, .v (.int .i64 1), .v (.int .i64 1099511627776)], 138)]⟩ ?_
   rcases zB (sz == 0) with b5 | b5
   ·refine zR 75 b5 ?_
    refine zM [1, 4, 9, 10, 61, 62, 70] 3 ⟨pops B72 pAF4 3, [(sq72 pAF5), .block 1, (sq72 pAF6), .rounds (sub B72 pAF7) 15, .block 0, (sq72 pAF8)], [(1, .lp 0 0), (4, .bo (k == 2)), (9, .lp 2 0), (10, .v (.int .i64 5)), (61, .agg (rowsL g s k sz sl of gp lt ea sl)), (62, .v (.int .i64 4)), (70, .bo !k == 2)], [((cfgL g s k sz sl of gp lt ea d), 25), ([.bo (k == 3), .io .i64 sz, .v (.int .i64 1), .v (.int .i64 1099511627776)], 138), ([.bo !k == 2, .io .i64 sl, .v (.int .i64 1), .io .i64 sz], 138)]⟩ ?_
    refine At.res 70 (!k == 2) false (by kernel_rfl) (by first | assumption | (simp only [*]; done) | (simp [*]; done)) ?_
    refine zM [1, 4, 9, 10, 61, 62, 75, 79] 3 ⟨pops B72 pAF4 12, [(sq72 pAF5), .block 1, (sq72 pAF6), .rounds (sub B72 pAF7) 15, .block 0, (sq72 pAF8)], [(1, .lp 0 0), (4, .bo (k == 2)), (9, .lp 2 0), (10, .v (.int .i64 5)), (61, .agg (rowsL g s k sz sl of gp lt ea sl)), (62, .v (.int .i64 4)), (75, .v (.bool false)), (79, .bo !!k == 2)], [((cfgL g s k sz sl of gp lt ea d), 25), ([.bo (k == 3), .io .i64 sz, .v (.int .i64 1), .v (.int .i64 1099511627776)], 138), ([.bo !k == 2, .io .i64 sl, .v (.int .i64 1), .io .i64 sz], 138)]⟩ ?_
    refine At.res 79 (!!k == 2) true (by kernel_rfl) (by first | assumption | (simp only [*]; done) | (simp [*]; done)) ?_
    refine zM [1, 4, 10, 61, 62, 75, 79, 81, 83, 85] 1 ⟨pops B72 pAF4 18, [(sq72 pAF5), .block 1, (sq72 pAF6), .rounds (sub B72 pAF7) 15, .block 0, (sq72 pAF8)], [(1, .lp 0 0), (4, .bo (k == 2)), (10, .v (.int .i64 5)), (61, .agg (rowsL g s k sz sl of gp lt ea sl)), (62, .v (.int .i64 4)), (75, .v (.bool false)), (79, .v (.bool true)), (81, .io .i64 sl), (83, .v (.int .i64 1)), (85, .io .i64 sz)], [((cfgL g s k sz sl of gp lt ea d), 25)]⟩ ?_
    refine zC noF_stable 85 [.io .i64 sl, .v (.int .i64 1), .io .i64 sz] (.bo (decide (1 ≤ sl) && decide (sl ≤ sz))) (fun _ _ w _ _ => within_any (sl) (1) (sz) w) ?_
    refine zM [1, 4, 10, 11, 61, 62, 93] 1 ⟨.code (sub B72 pAF2), [(sq72 pAF3), .block 1, (sq72 pAF6), .rounds (sub B72 pAF7) 15, .block 0, (sq72 pAF8)], [(1, .lp 0 0), (4, .bo (k == 2)), (10, .v (.int .i64 5)), (11, .bo (decide (1 ≤ sl) && decide (sl ≤ sz))), (61, .agg (rowsL g s k sz sl of gp lt ea sl)), (62, .v (.int .i64 4)), (93, .bo (k == 2))], [((cfgL g s k sz sl of gp lt ea d), 25)]⟩ ?_
    refine zR 93 b0 ?_
    refine zM [1, 4, 10, 61, 62, 95] 1 ⟨pops B72 pAF0 2, [(sq72 pAF3), .block 1, (sq72 pAF6), .rounds (sub B72 pAF7) 15, .block 0, (sq72 pAF8)], [(1, .lp 0 0), (4, .bo (k == 2)), (10, .v (.int .i64 5)), (61, .agg (rowsL g s k sz sl of gp lt ea sl)), (62, .v (.int .i64 4)), (95, .bo (decide (1 ≤ sl) && decide (sl ≤ sz)))], [((cfgL g s k sz sl of gp lt ea d), 25)]⟩ ?_
    rcases zB (decide (1 ≤ sl) && decide (sl ≤ sz)) with b6 | b6
    ·refine zR 95 b6 ?_
     refine zM [1, 4, 10, 61, 62, 104] 1 ⟨.code (sub B72 pAF1), [.block 1, (sq72 pAF6), .rounds (sub B72 pAF7) 15, .block 0, (sq72 pAF8)], [(1, .lp 0 0), (4, .bo (k == 2)), (10, .v (.int .i64 5)), (61, .agg (rowsL g s k sz sl of gp lt ea sl)), (62, .v (.int .i64 4)), (104, .bo !decide (sz ≤ IntKind.i64.wrap (64 * sl)))], [((cfgL g s k sz sl of gp lt ea d), 25)]⟩ ?_
     rcases zB (!decide (sz ≤ IntKind.i64.wrap (64 * sl))) with b7 | b7
     ·refine zR 104 b7 ?_
      refine zM [2, 3] 0 ⟨.exit .ret, [], [(2, .v (.int .i64 5)), (3, .v (.int .i64 4))], []⟩ ?_
      refine zE (.tup [.v (.int .i64 5), .v (.int .i64 4)]) ?_
      intro ρ w0 hw _
      exact ⟨wrong_fin (by simp only [wrongF, *, cond_true, cond_false, Bool.not_true, Bool.not_false]), hw.below⟩
     refine zR 104 b7 ?_
     refine zM [1, 4, 9, 10, 61, 62, 70] 2 ⟨pops B72 pAF4 3, [(sq72 pAF5), .block 1, (sq72 pAF6), .rounds (sub B72 pAF7) 14, .block 0, (sq72 pAF8)], [(1, .lp 0 0), (4, .bo (k == 2)), (9, .lp 1 0), (10, .v (.int .i64 6)), (61, .agg (rowsL g s k sz sl of gp lt ea sl)), (62, .v (.int .i64 5)), (70, .bo (k == 3))], [((cfgL g s k sz sl of gp lt ea d), 25), ([.bo (k == 3), .io .i64 of, .v (.int .i64 0), .io .i64 (IntKind.i64.wrap (sl - 1))], 138)]⟩ ?_
     refine zR 70 b4 ?_
     refine zM [1, 4, 9, 10, 61, 62, 75] 2 ⟨pops B72 pAF4 8, [(sq72 pAF5), .block 1, (sq72 pAF6), .rounds (sub B72 pAF7) 14, .block 0, (sq72 pAF8)], [(1, .lp 0 0), (4, .bo (k == 2)), (9, .lp 1 0), (10, .v (.int .i64 6)), (61, .agg (rowsL g s k sz sl of gp lt ea sl)), (62, .v (.int .i64 5)), (75, .bo (of == 0))], [((cfgL g s k sz sl of gp lt ea d), 25), ([.bo (k == 3), .io .i64 of, .v (.int .i64 0), .io .i64 (IntKind.i64.wrap (sl - 1))], 138)]⟩ ?_
     rcases zB (of == 0) with b8 | b8
     ·refine zR 75 b8 ?_
      refine zM [1, 4, 9, 10, 61, 62, 70] 3 ⟨pops B72 pAF4 3, [(sq72 pAF5), .block 1, (sq72 pAF6), .rounds (sub B72 pAF7) 13, .block 0, (sq72 pAF8)], [(1, .lp 0 0), (4, .bo (k == 2)), (9, .lp 2 0), (10, .v (.int .i64 7)), (61, .agg (rowsL g s k sz sl of gp lt ea sl)), (62, .v (.int .i64 6)), (70, .bo !k == 3)], [((cfgL g s k sz sl of gp lt ea d), 25), ([.bo (k == 3), .io .i64 of, .v (.int .i64 0), .io .i64 (IntKind.i64.wrap (sl - 1))], 138), ([.bo !k == 3, .io .i64 gp, .v (.int .i64 1), .v (.int .i64 1099511627776)], 138)]⟩ ?_
      refine At.res 70 (!k == 3) false (by kernel_rfl) (by first | assumption | (simp only [*]; done) | (simp [*]; done)) ?_
      refine zM [1, 4, 9, 10, 61, 62, 75, 79] 3 ⟨pops B72 pAF4 12, [(sq72 pAF5), .block 1, (sq72 pAF6), .rounds (sub B72 pAF7) 13, .block 0, (sq72 pAF8)], [(1, .lp 0 0), (4, .bo (k == 2)), (9, .lp 2 0), (10, .v (.int .i64 7)), (61, .agg (rowsL g s k sz sl of gp lt ea sl)), (62, .v (.int .i64 6)), (75, .v (.bool false)), (79, .bo !!k == 3)], [((cfgL g s k sz sl of gp lt ea d), 25), ([.bo (k == 3), .io .i64 of, .v (.int .i64 0), .io .i64 (IntKind.i64.wrap (sl - 1))], 138), ([.bo !k == 3, .io .i64 gp, .v (.int .i64 1), .v (.int .i64 1099511627776)], 138)]⟩ ?_
      refine At.res 79 (!!k == 3) true (by kernel_rfl) (by first | assumption | (simp only [*]; done) | (simp [*]; done)) ?_
      refine zM [1, 4, 10, 61, 62, 75, 79, 81, 83, 85] 1 ⟨pops B72 pAF4 18, [(sq72 pAF5), .block 1, (sq72 pAF6), .rounds (sub B72 pAF7) 13, .block 0, (sq72 pAF8)], [(1, .lp 0 0), (4, .bo (k == 2)), (10, .v (.int .i64 7)), (61, .agg (rowsL g s k sz sl of gp lt ea sl)), (62, .v (.int .i64 6)), (75, .v (.bool false)), (79, .v (.bool true)), (81, .io .i64 gp), (83, .v (.int .i64 1)), (85, .v (.int .i64 1099511627776))], [((cfgL g s k sz sl of gp lt ea d), 25)]⟩ ?_
      refine zC noF_stable 85 [.io .i64 gp, .v (.int .i64 1), .v (.int .i64 1099511627776)] (.bo (decide (1 ≤ gp) && decide (gp ≤ 1099511627776))) (fun _ _ w _ _ => within_any (gp) (1) (1099511627776) w) ?_
      refine zM [1, 4, 10, 61, 62, 104] 1 ⟨.code (sub B72 pAF1), [.block 1, (sq72 pAF6), .rounds (sub B72 pAF7) 13, .block 0, (sq72 pAF8)], [(1, .lp 0 0), (4, .bo (k == 2)), (10, .v (.int .i64 7)), (61, .agg (rowsL g s k sz sl of gp lt ea sl)), (62, .v (.int .i64 6)), (104, .bo !(decide (1 ≤ gp) && decide (gp ≤ 1099511627776)))], [((cfgL g s k sz sl of gp lt ea d), 25)]⟩ ?_
      rcases zB (!(decide (1 ≤ gp) && decide (gp ≤ 1099511627776))) with b9 | b9
      ·refine zR 104 b9 ?_
       refine zM [2, 3] 0 ⟨.exit .ret, [], [(2, .v (.int .i64 7)), (3, .v (.int .i64 4))], []⟩ ?_
       refine zE (.tup [.v (.int .i64 7), .v (.int .i64 4)]) ?_
       intro ρ w0 hw _
       exact ⟨wrong_fin (by simp only [wrongF, *, cond_true, cond_false, Bool.not_true, Bool.not_false]), hw.below⟩
      refine zR 104 b9 ?_
      refine zM [1, 4, 10, 61, 62, 75, 79, 81, 83, 85] 1 ⟨pops B72 pAF4 18, [(sq72 pAF5), .block 1, (sq72 pAF6), .rounds (sub B72 pAF7) 12, .block 0, (sq72 pAF8)], [(1, .lp 0 0), (4, .bo (k == 2)), (10, .v (.int .i64 8)), (61, .agg (rowsL g s k sz sl of gp lt ea sl)), (62, .v (.int .i64 7)), (75, .v (.bool false)), (79, .v (.bool true)), (81, .io .i64 lt), (83, .v (.int .i64 0)), (85, .v (.int .i64 1099511627776))], [((cfgL g s k sz sl of gp lt ea d), 25)]⟩ ?_
      refine zC noF_stable 85 [.io .i64 lt, .v (.int .i64 0), .v (.int .i64 1099511627776)] (.bo (decide (0 ≤ lt) && decide (lt ≤ 1099511627776))) (fun _ _ w _ _ => within_any (lt) (0) (1099511627776) w) ?_
      refine zM [1, 4, 10, 61, 62, 104] 1 ⟨.code (sub B72 pAF1), [.block 1, (sq72 pAF6), .rounds (sub B72 pAF7) 12, .block 0, (sq72 pAF8)], [(1, .lp 0 0), (4, .bo (k == 2)), (10, .v (.int .i64 8)), (61, .agg (rowsL g s k sz sl of gp lt ea sl)), (62, .v (.int .i64 7)), (104, .bo !(decide (0 ≤ lt) && decide (lt ≤ 1099511627776)))], [((cfgL g s k sz sl of gp lt ea d), 25)]⟩ ?_
      rcases zB (!(decide (0 ≤ lt) && decide (lt ≤ 1099511627776))) with b10 | b10
      ·refine zR 104 b10 ?_
       refine zM [2, 3] 0 ⟨.exit .ret, [], [(2, .v (.int .i64 8)), (3, .v (.int .i64 4))], []⟩ ?_
       refine zE (.tup [.v (.int .i64 8), .v (.int .i64 4)]) ?_
       intro ρ w0 hw _
       exact ⟨wrong_fin (by simp only [wrongF, *, cond_true, cond_false, Bool.not_true, Bool.not_false]), hw.below⟩
      refine zR 104 b10 ?_
      refine zM [1, 4, 10, 61, 62, 75, 79, 81, 83, 85] 1 ⟨pops B72 pAF4 18, [(sq72 pAF5), .block 1, (sq72 pAF6), .rounds (sub B72 pAF7) 11, .block 0, (sq72 pAF8)], [(1, .lp 0 0), (4, .bo (k == 2)), (10, .v (.int .i64 9)), (61, .agg (rowsL g s k sz sl of gp lt ea sl)), (62, .v (.int .i64 8)), (75, .v (.bool false)), (79, .v (.bool true)), (81, .io .i64 ea), (83, .v (.int .i64 0)), (85, .v (.int .i64 2147483647))], [((cfgL g s k sz sl of gp lt ea d), 25)]⟩ ?_
      refine zC noF_stable 85 [.io .i64 ea, .v (.int .i64 0), .v (.int .i64 2147483647)] (.bo (decide (0 ≤ ea) && decide (ea ≤ 2147483647))) (fun _ _ w _ _ => within_any (ea) (0) (2147483647) w) ?_
      refine zM [1, 4, 10, 61, 62, 104] 1 ⟨.code (sub B72 pAF1), [.block 1, (sq72 pAF6), .rounds (sub B72 pAF7) 11, .block 0, (sq72 pAF8)], [(1, .lp 0 0), (4, .bo (k == 2)), (10, .v (.int .i64 9)), (61, .agg (rowsL g s k sz sl of gp lt ea sl)), (62, .v (.int .i64 8)), (104, .bo !(decide (0 ≤ ea) && decide (ea ≤ 2147483647)))], [((cfgL g s k sz sl of gp lt ea d), 25)]⟩ ?_
      rcases zB (!(decide (0 ≤ ea) && decide (ea ≤ 2147483647))) with b11 | b11
      ·refine zR 104 b11 ?_
       refine zM [2, 3] 0 ⟨.exit .ret, [], [(2, .v (.int .i64 9)), (3, .v (.int .i64 4))], []⟩ ?_
       refine zE (.tup [.v (.int .i64 9), .v (.int .i64 4)]) ?_
       intro ρ w0 hw _
       exact ⟨wrong_fin (by simp only [wrongF, *, cond_true, cond_false, Bool.not_true, Bool.not_false]), hw.below⟩
      refine zR 104 b11 ?_
      refine zM [2, 3] 0 ⟨.exit .ret, [], [(2, .v (.int .i64 0)), (3, .v (.int .i64 0))], []⟩ ?_
      refine zE (.tup [.v (.int .i64 0), .v (.int .i64 0)]) ?_
      intro ρ w0 hw _
      exact ⟨wrong_fin (by simp only [wrongF, *, cond_true, cond_false, Bool.not_true, Bool.not_false]), hw.below⟩
     refine zR 75 b8 ?_
     refine zM [1, 4, 9, 10, 61, 62, 75, 79] 2 ⟨pops B72 pAF4 12, [(sq72 pAF5), .block 1, (sq72 pAF6), .rounds (sub B72 pAF7) 14, .block 0, (sq72 pAF8)], [(1, .lp 0 0), (4, .bo (k == 2)), (9, .lp 1 0), (10, .v (.int .i64 6)), (61, .agg (rowsL g s k sz sl of gp lt ea sl)), (62, .v (.int .i64 5)), (75, .v (.bool false)), (79, .bo !k == 3)], [((cfgL g s k sz sl of gp lt ea d), 25), ([.bo (k == 3), .io .i64 of, .v (.int .i64 0), .io .i64 (IntKind.i64.wrap (sl - 1))], 138)]⟩ ?_
     refine At.res 79 (!k == 3) false (by kernel_rfl) (by first | assumption | (simp only [*]; done) | (simp [*]; done)) ?_
     refine zM [2, 3] 0 ⟨.exit .ret, [], [(2, .v (.int .i64 6)), (3, .v (.int .i64 4))], []⟩ ?_
     refine zE (.tup [.v (.int .i64 6), .v (.int .i64 4)]) ?_
     intro ρ w0 hw _
     exact ⟨wrong_fin (by simp only [wrongF, *, cond_true, cond_false, Bool.not_true, Bool.not_false]), hw.below⟩
    refine zR 95 b6 ?_
    refine zM [2, 3] 0 ⟨.exit .ret, [], [(2, .v (.int .i64 5)), (3, .v (.int .i64 4))], []⟩ ?_
    refine zE (.tup [.v (.int .i64 5), .v (.int .i64 4)]) ?_
    intro ρ w0 hw _
    exact ⟨wrong_fin (by simp only [wrongF, *, cond_true, cond_false, Bool.not_true, Bool.not_false]), hw.below⟩
   refine zR 75 b5 ?_
   refine zM [1, 4, 9, 10, 61, 62, 75, 79] 2 ⟨pops B72 pAF4 12, [(sq72 pAF5), .block 1, (sq72 pAF6), .rounds (sub B72 pAF7) 16, .block 0, (sq72 pAF8)], [(1, .lp 0 0), (4, .bo (k == 2)), (9, .lp 1 0), (10, .v (.int .i64 4)), (61, .agg (rowsL g s k sz sl of gp lt ea sl)), (62, .v (.int .i64 3)), (75, .v (.bool false)), (79, .bo !k == 3)], [((cfgL g s k sz sl of gp lt ea d), 25), ([.bo (k == 3), .io .i64 sz, .v (.int .i64 1), .v (.int .i64 1099511627776)], 138)]⟩ ?_
   refine At.res 79 (!k == 3) false (by kernel_rfl) (by first | assumption | (simp only [*]; done) | (simp [*]; done)) ?_
   refine zM [2, 3] 0 ⟨.exit .ret, [], [(2, .v (.int .i64 4)), (3, .v (.int .i64 4))], []⟩ ?_
   refine zE (.tup [.v (.int .i64 4), .v (.int .i64 4)]) ?_
   intro ρ w0 hw _
   exact ⟨wrong_fin (by simp only [wrongF, *, cond_true, cond_false, Bool.not_true, Bool.not_false]), hw.below⟩
  refine zR 70 b4 ?_
  refine zM [1, 4, 9, 10, 61, 62, 75, 79] 2 ⟨pops B72 pAF4 12, [(sq72 pAF5), .block 1, (sq72 pAF6), .rounds (sub B72 pAF7) 16, .block 0, (sq72 pAF8)], [(1, .lp 0 0), (4, .bo (k == 2)), (9, .lp 1 0), (10, .v (.int .i64 4)), (61, .agg (rowsL g s k sz sl of gp lt ea sl)), (62, .v (.int .i64 3)), (75, .v (.bool false)), (79, .bo !k == 3)], [((cfgL g s k sz sl of gp lt ea d), 25), ([.bo (k == 3), .io .i64 sz, .v (.int .i64 1), .v (.int .i64 1099511627776)], 138)]⟩ ?_
  refine At.res 79 (!k == 3) true (by kernel_rfl) (by first | assumption | (simp only [*]; done) | (simp [*]; done)) ?_
  refine zM [1, 4, 10, 61, 62, 75, 79, 81, 83, 85] 1 ⟨pops B72 pAF4 18, [(sq72 pAF5), .block 1, (sq72 pAF6), .rounds (sub B72 pAF7) 16, .block 0, (sq72 pAF8)], [(1, .lp 0 0), (4, .bo (k == 2)), (10, .v (.int .i64 4)), (61, .agg (rowsL g s k sz sl of gp lt ea sl)), (62, .v (.int .i64 3)), (75, .v (.bool false)), (79, .v (.bool true)), (81, .io .i64 sz), (83, .v (.int .i64 1)), (85, .v (.int .i64 1099511627776))], [((cfgL g s k sz sl of gp lt ea d), 25)]⟩ ?_
  refine zC noF_stable 85 [.io .i64 sz, .v (.int .i64 1), .v (.int .i64 1099511627776)] (.bo (decide (1 ≤ sz) && decide (sz ≤ 1099511627776))) (fun _ _ w _ _ => within_any (sz) (1) (1099511627776) w) ?_
  refine zM [1, 4, 10, 61, 62, 104] 1 ⟨.code (sub B72 pAF1), [.block 1, (sq72 pAF6), .rounds (sub B72 pAF7) 16, .block 0, (sq72 pAF8)], [(1, .lp 0 0), (4, .bo (k == 2)), (10, .v (.int .i64 4)), (61, .agg (rowsL g s k sz sl of gp lt ea sl)), (62, .v (.int .i64 3)), (104, .bo !(decide (1 ≤ sz) && decide (sz ≤ 1099511627776)))], [((cfgL g s k sz sl of gp lt ea d), 25)]⟩ ?_
  rcases zB (!(decide (1 ≤ sz) && decide (sz ≤ 1099511627776))) with b12 | b12
  ·refine zR 104 b12 ?_
   refine zM [2, 3] 0 ⟨.exit .ret, [], [(2, .v (.int .i64 4)), (3, .v (.int .i64 4))], []⟩ ?_
   refine zE (.tup [.v (.int .i64 4), .v (.int .i64 4)]) ?_
   intro ρ w0 hw _
   exact ⟨wrong_fin (by simp only [wrongF, *, cond_true, cond_false, Bool.not_true, Bool.not_false]), hw.below⟩
  refine zR 104 b12 ?_
  refine zM [1, 4, 9, 10, 61, 62, 70] 2 ⟨pops B72 pAF4 3, [(sq72 pAF5), .block 1, (sq72 pAF6), .rounds (sub B72 pAF7) 15, .block 0, (sq72 pAF8)], [(1, .lp 0 0), (4, .bo (k == 2)), (9, .lp 1 0), (10, .v (.int .i64 5)), (61, .agg (rowsL g s k sz sl of gp lt ea sl)), (62, .v (.int .i64 4)), (70, .bo !k == 2)], [((cfgL g s k sz sl of gp lt ea d), 25), ([.bo !k == 2, .io .i64 sl, .v (.int .i64 1), .io .i64 sz], 138)]⟩ ?_
  refine At.res 70 (!k == 2) false (by kernel_rfl) (by first | assumption | (simp only [*]; done) | (simp [*]; done)) ?_
  refine zM [1, 4, 9, 10, 61, 62, 75, 79] 2 ⟨pops B72 pAF4 12, [(sq72 pAF5), .block 1, (sq72 pAF6), .rounds (sub B72 pAF7) 15, .block 0, (sq72 pAF8)], [(1, .lp 0 0), (4, .bo (k == 2)), (9, .lp 1 0), (10, .v (.int .i64 5)), (61, .agg (rowsL g s k sz sl of gp lt ea sl)), (62, .v (.int .i64 4)), (75, .v (.bool false)), (79, .bo !!k == 2)], [((cfgL g s k sz sl of gp lt ea d), 25), ([.bo !k == 2, .io .i64 sl, .v (.int .i64 1), .io .i64 sz], 138)]⟩ ?_
  refine At.res 79 (!!k == 2) true (by kernel_rfl) (by first | assumption | (simp only [*]; done) | (simp [*]; done)) ?_
  refine zM [1, 4, 10, 61, 62, 75, 79, 81, 83, 85] 1 ⟨pops B72 pAF4 18, [(sq72 pAF5), .block 1, (sq72 pAF6), .rounds (sub B72 pAF7) 15, .block 0, (sq72 pAF8)], [(1, .lp 0 0), (4, .bo (k == 2)), (10, .v (.int .i64 5)), (61, .agg (rowsL g s k sz sl of gp lt ea sl)), (62, .v (.int .i64 4)), (75, .v (.bool false)), (79, .v (.bool true)), (81, .io .i64 sl), (83, .v (.int .i64 1)), (85, .io .i64 sz)], [((cfgL g s k sz sl of gp lt ea d), 25)]⟩ ?_
  refine zC noF_stable 85 [.io .i64 sl, .v (.int .i64 1), .io .i64 sz] (.bo (decide (1 ≤ sl) && decide (sl ≤ sz))) (fun _ _ w _ _ => within_any (sl) (1) (sz) w) ?_
  refine zM [1, 4, 10, 11, 61, 62, 93] 1 ⟨.code (sub B72 pAF2), [(sq72 pAF3), .block 1, (sq72 pAF6), .rounds (sub B72 pAF7) 15, .block 0, (sq72 pAF8)], [(1, .lp 0 0), (4, .bo (k == 2)), (10, .v (.int .i64 5)), (11, .bo (decide (1 ≤ sl) && decide (sl ≤ sz))), (61, .agg (rowsL g s k sz sl of gp lt ea sl)), (62, .v (.int .i64 4)), (93, .bo (k == 2))], [((cfgL g s k sz sl of gp lt ea d), 25)]⟩ ?_
  refine zR 93 b0 ?_
  refine zM [1, 4, 10, 61, 62, 95] 1 ⟨pops B72 pAF0 2, [(sq72 pAF3), .block 1, (sq72 pAF6), .rounds (sub B72 pAF7) 15, .block 0, (sq72 pAF8)], [(1, .lp 0 0), (4, .bo (k == 2)), (10, .v (.int .i64 5)), (61, .agg (rowsL g s k sz sl of gp lt ea sl)), (62, .v (.int .i64 4)), (95, .bo (decide (1 ≤ sl) && decide (sl ≤ sz)))], [((cfgL g s k sz sl of gp lt ea d), 25)]⟩ ?_
  rcases zB (decide (1 ≤ sl) && decide (sl ≤ sz)) with b13 | b13
  ·refine zR 95 b13 ?_
   refine zM [1, 4, 10, 61, 62, 104] 1 ⟨.code (sub B72 pAF1), [.block 1, (sq72 pAF6), .rounds (sub B72 pAF7) 15, .block 0, (sq72 pAF8)], [(1, .lp 0 0), (4, .bo (k == 2)), (10, .v (.int .i64 5)), (61, .agg (rowsL g s k sz sl of gp lt ea sl)), (62, .v (.int .i64 4)), (104, .bo !decide (sz ≤ IntKind.i64.wrap (64 * sl)))], [((cfgL g s k sz sl of gp lt ea d), 25)]⟩ ?_
   rcases zB (!decide (sz ≤ IntKind.i64.wrap (64 * sl))) with b14 | b14
   ·refine zR 104 b14 ?_
    refine zM [2, 3] 0 ⟨.exit .ret, [], [(2, .v (.int .i64 5)), (3, .v (.int .i64 4))], []⟩ ?_
    refine zE (.tup [.v (.int .i64 5), .v (.int .i64 4)]) ?_
    intro ρ w0 hw _
    exact ⟨wrong_fin (by simp only [wrongF, *, cond_true, cond_false, Bool.not_true, Bool.not_false]), hw.below⟩
   refine zR 104 b14 ?_
   refine zM [1, 4, 9, 10, 61, 62, 70] 2 ⟨pops B72 pAF4 3, [(sq72 pAF5), .block 1, (sq72 pAF6), .rounds (sub B72 pAF7) 14, .block 0, (sq72 pAF8)], [(1, .lp 0 0), (4, .bo (k == 2)), (9, .lp 1 0), (10, .v (.int .i64 6)), (61, .agg (rowsL g s k sz sl of gp lt ea sl)), (62, .v (.int .i64 5)), (70, .bo (k == 3))], [((cfgL g s k sz sl of gp lt ea d), 25), ([.bo (k == 3), .io .i64 of, .v (.int .i64 0), .io .i64 (IntKind.i64.wrap (sl - 1))], 138)]⟩ ?_
   refine zR 70 b4 ?_
   refine zM [1, 4, 9, 10, 61, 62, 75, 79] 2 ⟨pops B72 pAF4 12, [(sq72 pAF5), .block 1, (sq72 pAF6), .rounds (sub B72 pAF7) 14, .block 0, (sq72 pAF8)], [(1, .lp 0 0), (4, .bo (k == 2)), (9, .lp 1 0), (10, .v (.int .i64 6)), (61, .agg (rowsL g s k sz sl of gp lt ea sl)), (62, .v (.int .i64 5)), (75, .v (.bool false)), (79, .bo !k == 3)], [((cfgL g s k sz sl of gp lt ea d), 25), ([.bo (k == 3), .io .i64 of, .v (.int .i64 0), .io .i64 (IntKind.i64.wrap (sl - 1))], 138)]⟩ ?_
   refine At.res 79 (!k == 3) true (by kernel_rfl) (by first | assumption | (simp only [*]; done) | (simp [*]; done)) ?_
   refine zM [1, 4, 10, 61, 62, 75, 79, 81, 83, 85] 1 ⟨pops B72 pAF4 18, [(sq72 pAF5), .block 1, (sq72 pAF6), .rounds (sub B72 pAF7) 14, .block 0, (sq72 pAF8)], [(1, .lp 0 0), (4, .bo (k == 2)), (10, .v (.int .i64 6)), (61, .agg (rowsL g s k sz sl of gp lt ea sl)), (62, .v (.int .i64 5)), (75, .v (.bool false)), (79, .v (.bool true)), (81, .io .i64 of), (83, .v (.int .i64 0)), (85, .io .i64 (IntKind.i64.wrap (sl - 1)))], [((cfgL g s k sz sl of gp lt ea d), 25)]⟩ ?_
   refine zC noF_stable 85 [.io .i64 of, .v (.int .i64 0), .io .i64 (IntKind.i64.wrap (sl - 1))] (.bo (decide (0 ≤ of) && decide (of ≤ IntKind.i64.wrap (sl - 1)))) (fun _ _ w _ _ => within_any (of) (0) (IntKind.i64.wrap (sl - 1)) w) ?_
   refine zM [1, 4, 10, 61, 62, 104] 1 ⟨.code (sub B72 pAF1), [.block 1, (sq72 pAF6), .rounds (sub B72 pAF7) 14, .block 0, (sq72 pAF8)], [(1, .lp 0 0), (4, .bo (k == 2)), (10, .v (.int .i64 6)), (61, .agg (rowsL g s k sz sl of gp lt ea sl)), (62, .v (.int .i64 5)), (104, .bo !(decide (0 ≤ of) && decide (of ≤ IntKind.i64.wrap (sl - 1))))], [((cfgL g s k sz sl of gp lt ea d), 25)]⟩ ?_
   rcases zB (!(decide (0 ≤ of) && decide (of ≤ IntKind.i64.wrap (sl - 1)))) with b15 | b15
   ·refine zR 104 b15 ?_
    refine zM [2, 3] 0 ⟨.exit .ret, [], [(2, .v (.int .i64 6)), (3, .v (.int .i64 4))], []⟩ ?_
    refine zE (.tup [.v (.int .i64 6), .v (.int .i64 4)]) ?_
    intro ρ w0 hw _
    exact ⟨wrong_fin (by simp only [wrongF, *, cond_true, cond_false, Bool.not_true, Bool.not_false]), hw.below⟩
   refine zR 104 b15 ?_
   refine zM [1, 4, 9, 10, 61, 62, 70] 2 ⟨pops B72 pAF4 3, [(sq72 pAF5), .block 1, (sq72 pAF6), .rounds (sub B72 pAF7) 13, .block 0, (sq72 pAF8)], [(1, .lp 0 0), (4, .bo (k == 2)), (9, .lp 1 0), (10, .v (.int .i64 7)), (61, .agg (rowsL g s k sz sl of gp lt ea sl)), (62, .v (.int .i64 6)), (70, .bo !k == 3)], [((cfgL g s k sz sl of gp lt ea d), 25), ([.bo !k == 3, .io .i64 gp, .v (.int .i64 1), .v (.int .i64 1099511627776)], 138)]⟩ ?_
   refine At.res 70 (!k == 3) true (by kernel_rfl) (by first | assumption | (simp only [*]; done) | (simp [*]; done)) ?_
   refine zM [1, 4, 9, 10, 61, 62, 75] 2 ⟨pops B72 pAF4 8, [(sq72 pAF5), .block 1, (sq72 pAF6), .rounds (sub B72 pAF7) 13, .block 0, (sq72 pAF8)], [(1, .lp 0 0), (4, .bo (k == 2)), (9, .lp 1 0), (10, .v (.int .i64 7)), (61, .agg (rowsL g s k sz sl of gp lt ea sl)), (62, .v (.int .i64 6)), (75, .bo (gp == 0))], [((cfgL g s k sz sl of gp lt ea d), 25), ([.bo !k == 3, .io .i64 gp, .v (.int .i64 1), .v (.int .i64 1099511627776)], 138)]⟩ ?_
   rcases zB (gp == 0) with b16 | b16
   ·refine zR 75 b16 ?_
    refine zM [1, 4, 10, 61, 62, 75, 79, 81, 83, 85] 1 ⟨pops B72 pAF4 18, [(sq72 pAF5), .block 1, (sq72 pAF6), .rounds (sub B72 pAF7) 12, .block 0, (sq72 pAF8)], [(1, .lp 0 0), (4, .bo (k == 2)), (10, .v (.int .i64 8)), (61, .agg (rowsL g s k sz sl of gp lt ea sl)), (62, .v (.int .i64 7)), (75, .v (.bool false)), (79, .v (.bool true)), (81, .io .i64 lt), (83, .v (.int .i64 0)), (85, .v (.int .i64 1099511627776))], [((cfgL g s k sz sl of gp lt ea d), 25)]⟩ ?_
    refine zC noF_stable 85 [.io .i64 lt, .v (.int .i64 0), .v (.int .i64 1099511627776)] (.bo (decide (0 ≤ lt) && decide (lt ≤ 1099511627776))) (fun _ _ w _ _ => within_any (lt) (0) (1099511627776) w) ?_
    refine zM [1, 4, 10, 61, 62, 104] 1 ⟨.code (sub B72 pAF1), [.block 1, (sq72 pAF6), .rounds (sub B72 pAF7) 12, .block 0, (sq72 pAF8)], [(1, .lp 0 0), (4, .bo (k == 2)), (10, .v (.int .i64 8)), (61, .agg (rowsL g s k sz sl of gp lt ea sl)), (62, .v (.int .i64 7)), (104, .bo !(decide (0 ≤ lt) && decide (lt ≤ 1099511627776)))], [((cfgL g s k sz sl of gp lt ea d), 25)]⟩ ?_
    rcases zB (!(decide (0 ≤ lt) && decide (lt ≤ 1099511627776))) with b17 | b17
    ·refine zR 104 b17 ?_
     refine zM [2, 3] 0 ⟨.exit .ret, [], [(2, .v (.int .i64 8)), (3, .v (.int .i64 4))], []⟩ ?_
     refine zE (.tup [.v (.int .i64 8), .v (.int .i64 4)]) ?_
     intro ρ w0 hw _
     exact ⟨wrong_fin (by simp only [wrongF, *, cond_true, cond_false, Bool.not_true, Bool.not_false]), hw.below⟩
    refine zR 104 b17 ?_
    refine zM [1, 4, 10, 61, 62, 75, 79, 81, 83, 85] 1 ⟨pops B72 pAF4 18, [(sq72 pAF5), .block 1, (sq72 pAF6), .rounds (sub B72 pAF7) 11, .block 0, (sq72 pAF8)], [(1, .lp 0 0), (4, .bo (k == 2)), (10, .v (.int .i64 9)), (61, .agg (rowsL g s k sz sl of gp lt ea sl)), (62, .v (.int .i64 8)), (75, .v (.bool false)), (79, .v (.bool true)), (81, .io .i64 ea), (83, .v (.int .i64 0)), (85, .v (.int .i64 2147483647))], [((cfgL g s k sz sl of gp lt ea d), 25)]⟩ ?_
    refine zC noF_stable 85 [.io .i64 ea, .v (.int .i64 0), .v (.int .i64 2147483647)] (.bo (decide (0 ≤ ea) && decide (ea ≤ 2147483647))) (fun _ _ w _ _ => within_any (ea) (0) (2147483647) w) ?_
    refine zM [1, 4, 10, 61, 62, 104] 1 ⟨.code (sub B72 pAF1), [.block 1, (sq72 pAF6), .rounds (sub B72 pAF7) 11, .block 0, (sq72 pAF8)], [(1, .lp 0 0), (4, .bo (k == 2)), (10, .v (.int .i64 9)), (61, .agg (rowsL g s k sz sl of gp lt ea sl)), (62, .v (.int .i64 8)), (104, .bo !(decide (0 ≤ ea) && decide (ea ≤ 2147483647)))], [((cfgL g s k sz sl of gp lt ea d), 25)]⟩ ?_
    rcases zB (!(decide (0 ≤ ea) && decide (ea ≤ 2147483647))) with b18 | b18
    ·refine zR 104 b18 ?_
     refine zM [2, 3] 0 ⟨.exit .ret, [], [(2, .v (.int .i64 9)), (3, .v (.int .i64 4))], []⟩ ?_
     refine zE (.tup [.v (.int .i64 9), .v (.int .i64 4)]) ?_
     intro ρ w0 hw _
     exact ⟨wrong_fin (by simp only [wrongF, *, cond_true, cond_false, Bool.not_true, Bool.not_false]), hw.below⟩
    refine zR 104 b18 ?_
    refine zM [2, 3] 0 ⟨.exit .ret, [], [(2, .v (.int .i64 0)), (3, .v (.int .i64 0))], []⟩ ?_
    refine zE (.tup [.v (.int .i64 0), .v (.int .i64 0)]) ?_
    intro ρ w0 hw _
    exact ⟨wrong_fin (by simp only [wrongF, *, cond_true, cond_false, Bool.not_true, Bool.not_false]), hw.below⟩
   refine zR 75 b16 ?_
   refine zM [1, 4, 9, 10, 61, 62, 75, 79] 2 ⟨pops B72 pAF4 12, [(sq72 pAF5), .block 1, (sq72 pAF6), .rounds (sub B72 pAF7) 13, .block 0, (sq72 pAF8)], [(1, .lp 0 0), (4, .bo (k == 2)), (9, .lp 1 0), (10, .v (.int .i64 7)), (61, .agg (rowsL g s k sz sl of gp lt ea sl)), (62, .v (.int .i64 6)), (75, .v (.bool false)), (79, .bo !!k == 3)], [((cfgL g s k sz sl of gp lt ea d), 25), ([.bo !k == 3, .io .i64 gp, .v (.int .i64 1), .v (.int .i64 1099511627776)], 138)]⟩ ?_
   refine At.res 79 (!!k == 3) false (by kernel_rfl) (by first | assumption | (simp only [*]; done) | (simp [*]; done)) ?_
   refine zM [2, 3] 0 ⟨.exit .ret, [], [(2, .v (.int .i64 7)), (3, .v (.int .i64 4))], []⟩ ?_
   refine zE (.tup [.v (.int .i64 7), .v (.int .i64 4)]) ?_
   intro ρ w0 hw _
   exact ⟨wrong_fin (by simp only [wrongF, *, cond_true, cond_false, Bool.not_true, Bool.not_false]), hw.below⟩
  refine zR 95 b13 ?_
  refine zM [2, 3] 0 ⟨.exit .ret, [], [(2, .v (.int .i64 5)), (3, .v (.int .i64 4))], []⟩ ?_
  refine zE (.tup [.v (.int .i64 5), .v (.int .i64 4)]) ?_
  intro ρ w0 hw _
  exact ⟨wrong_fin (by simp only [wrongF, *, cond_true, cond_false, Bool.not_true, Bool.not_false]), hw.below⟩
 refine zR 20 b0 ?_
 refine zM [1, 4, 10, 61, 62, 75, 79, 81, 83, 85] 1 ⟨pops B72 pAF4 18, [(sq72 pAF5), .block 1, (sq72 pAF6), .rounds (sub B72 pAF7) 19, .block 0, (sq72 pAF8)], [(1, .lp 0 0), (4, .bo (k == 2)), (10, .v (.int .i64 1)), (61, .agg (rowsL g s k sz sl of gp lt ea sz)), (62, .v (.int .i64 0)), (75, .v (.bool false)), (79, .v (.bool true)), (81, .io .i64 g), (83, .v (.int .i64 1)), (85, .v (.int .i64 32768))], [((cfgL g s k sz sl of gp lt ea d), 25)]⟩ ?_
 refine zC noF_stable 85 [.io .i64 g, .v (.int .i64 1), .v (.int .i64 32768)] (.bo (decide (1 ≤ g) && decide (g ≤ 32768))) (fun _ _ w _ _ => within_any (g) (1) (32768) w) ?_
 refine zM [1, 4, 10, 61, 62, 104] 1 ⟨.code (sub B72 pAF1), [.block 1, (sq72 pAF6), .rounds (sub B72 pAF7) 19, .block 0, (sq72 pAF8)], [(1, .lp 0 0), (4, .bo (k == 2)), (10, .v (.int .i64 1)), (61, .agg (rowsL g s k sz sl of gp lt ea sz)), (62, .v (.int .i64 0)), (104, .bo !(decide (1 ≤ g) && decide (g ≤ 32768)))], [((cfgL g s k sz sl of gp lt ea d), 25)]⟩ ?_
 rcases zB (!(decide (1 ≤ g) && decide (g ≤ 32768))) with b19 | b19
 ·refine zR 104 b19 ?_
  refine zM [2, 3] 0 ⟨.exit .ret, [], [(2, .v (.int .i64 1)), (3, .v (.int .i64 4))], []⟩ ?_
  refine zE (.tup [.v (.int .i64 1), .v (.int .i64 4)]) ?_
  intro ρ w0 hw _
  exact ⟨wrong_fin (by simp only [wrongF, *, cond_true, cond_false, Bool.not_true, Bool.not_false]), hw.below⟩
 refine zR 104 b19 ?_
 refine zM [1, 4, 10, 61, 62, 75, 79, 81, 83, 85] 1 ⟨pops B72 pAF4 18, [(sq72 pAF5), .block 1, (sq72 pAF6), .rounds (sub B72 pAF7) 18, .block 0, (sq72 pAF8)], [(1, .lp 0 0), (4, .bo (k == 2)), (10, .v (.int .i64 2)), (61, .agg (rowsL g s k sz sl of gp lt ea sz)), (62, .v (.int .i64 1)), (75, .v (.bool false)), (79, .v (.bool true)), (81, .io .i64 s), (83, .v (.int .i64 1)), (85, .v (.int .i64 64))], [((cfgL g s k sz sl of gp lt ea d), 25)]⟩ ?_
 refine zC noF_stable 85 [.io .i64 s, .v (.int .i64 1), .v (.int .i64 64)] (.bo (decide (1 ≤ s) && decide (s ≤ 64))) (fun _ _ w _ _ => within_any (s) (1) (64) w) ?_
 refine zM [1, 4, 10, 61, 62, 104] 1 ⟨.code (sub B72 pAF1), [.block 1, (sq72 pAF6), .rounds (sub B72 pAF7) 18, .block 0, (sq72 pAF8)], [(1, .lp 0 0), (4, .bo (k == 2)), (10, .v (.int .i64 2)), (61, .agg (rowsL g s k sz sl of gp lt ea sz)), (62, .v (.int .i64 1)), (104, .bo !(decide (1 ≤ s) && decide (s ≤ 64)))], [((cfgL g s k sz sl of gp lt ea d), 25)]⟩ ?_
 rcases zB (!(decide (1 ≤ s) && decide (s ≤ 64))) with b20 | b20
 ·refine zR 104 b20 ?_
  refine zM [2, 3] 0 ⟨.exit .ret, [], [(2, .v (.int .i64 2)), (3, .v (.int .i64 4))], []⟩ ?_
  refine zE (.tup [.v (.int .i64 2), .v (.int .i64 4)]) ?_
  intro ρ w0 hw _
  exact ⟨wrong_fin (by simp only [wrongF, *, cond_true, cond_false, Bool.not_true, Bool.not_false]), hw.below⟩
 refine zR 104 b20 ?_
 refine zM [1, 4, 10, 61, 62, 75, 79, 81, 83, 85] 1 ⟨pops B72 pAF4 18, [(sq72 pAF5), .block 1, (sq72 pAF6), .rounds (sub B72 pAF7) 17, .block 0, (sq72 pAF8)], [(1, .lp 0 0), (4, .bo (k == 2)), (10, .v (.int .i64 3)), (61, .agg (rowsL g s k sz sl of gp lt ea sz)), (62, .v (.int .i64 2)), (75, .v (.bool false)), (79, .v (.bool true)), (81, .io .i64 k), (83, .v (.int .i64 1)), (85, .v (.int .i64 3))], [((cfgL g s k sz sl of gp lt ea d), 25)]⟩ ?_
 refine zC noF_stable 85 [.io .i64 k, .v (.int .i64 1), .v (.int .i64 3)] (.bo (decide (1 ≤ k) && decide (k ≤ 3))) (fun _ _ w _ _ => within_any (k) (1) (3) w) ?_
 refine zM [1, 4, 10, 61, 62, 104] 1 ⟨.code (sub B72 pAF1), [.block 1, (sq72 pAF6), .rounds (sub B72 pAF7) 17, .block 0, (sq72 pAF8)], [(1, .lp 0 0), (4, .bo (k == 2)), (10, .v (.int .i64 3)), (61, .agg (rowsL g s k sz sl of gp lt ea sz)), (62, .v (.int .i64 2)), (104, .bo !(decide (1 ≤ k) && decide (k ≤ 3)))], [((cfgL g s k sz sl of gp lt ea d), 25)]⟩ ?_
 rcases zB (!(decide (1 ≤ k) && decide (k ≤ 3))) with b21 | b21
 ·refine zR 104 b21 ?_
  refine zM [2, 3] 0 ⟨.exit .ret, [], [(2, .v (.int .i64 3)), (3, .v (.int .i64 4))], []⟩ ?_
  refine zE (.tup [.v (.int .i64 3), .v (.int .i64 4)]) ?_
  intro ρ w0 hw _
  exact ⟨wrong_fin (by simp only [wrongF, *, cond_true, cond_false, Bool.not_true, Bool.not_false]), hw.below⟩
 refine zR 104 b21 ?_
 refine zM [1, 4, 9, 10, 61, 62, 70] 2 ⟨pops B72 pAF4 3, [(sq72 pAF5), .block 1, (sq72 pAF6), .rounds (sub B72 pAF7) 16, .block 0, (sq72 pAF8)], [(1, .lp 0 0), (4, .bo (k == 2)), (9, .lp 1 0), (10, .v (.int .i64 4)), (61, .agg (rowsL g s k sz sl of gp lt ea sz)), (62, .v (.int .i64 3)), (70, .bo (k == 3))], [((cfgL g s k sz sl of gp lt ea d), 25), ([.bo (k == 3), .io .i64 sz, .v (.int .i64 1), .v (.int .i64 1099511627776)], 138)]⟩ ?_
 rcases zB (k == 3) with b22 | b22
 ·refine zR 70 b22 ?_
  refine zM [1, 4, 9, 10, 61, 62, 75] 2 ⟨pops B72 pAF4 8, [(sq72 pAF5), .block 1, (sq72 pAF6), .rounds (sub B72 pAF7) 16, .block 0, (sq72 pAF8)], [(1, .lp 0 0), (4, .bo (k == 2)), (9, .lp 1 0), (10, .v (.int .i64 4)), (61, .agg (rowsL g s k sz sl of gp lt ea sz)), (62, .v (.int .i64 3)), (75, .bo (sz == 0))], [((cfgL g s k sz sl of gp lt ea d), 25), ([.bo (k == 3), .io .i64 sz, .v (.int .i64 1), .v (.int .i64 1099511627776)], 138)]⟩ ?_
  rcases zB (sz == 0) with b23 | b23
  ·refine zR 75 b23 ?_
   refine zM [1, 4, 9, 10, 61, 62, 70] 3 ⟨pops B72 pAF4 3, [(sq72 pAF5), .block 1, (sq72 pAF6), .rounds (sub B72 pAF7) 15, .block 0, (sq72 pAF8)], [(1, .lp 0 0), (4, .bo (k == 2)), (9, .lp 2 0), (10, .v (.int .i64 5)), (61, .agg (rowsL g s k sz sl of gp lt ea sz)), (62, .v (.int .i64 4)), (70, .bo !k == 2)], [((cfgL g s k sz sl of gp lt ea d), 25), ([.bo (k == 3), .io .i64 sz, .v (.int .i64 1), .v (.int .i64 1099511627776)], 138), ([.bo !k == 2, .io .i64 sl, .v (.int .i64 1), .io .i64 sz], 138)]⟩ ?_
   refine At.res 70 (!k == 2) true (by kernel_rfl) (by first | assumption | (simp only [*]; done) | (simp [*]; done)) ?_
   refine zM [1, 4, 9, 10, 61, 62, 75] 3 ⟨pops B72 pAF4 8, [(sq72 pAF5), .block 1, (sq72 pAF6), .rounds (sub B72 pAF7) 15, .block 0, (sq72 pAF8)], [(1, .lp 0 0), (4, .bo (k == 2)), (9, .lp 2 0), (10, .v (.int .i64 5)), (61, .agg (rowsL g s k sz sl of gp lt ea sz)), (62, .v (.int .i64 4)), (75, .bo (sl == 0))], [((cfgL g s k sz sl of gp lt ea d), 25), ([.bo (k == 3), .io .i64 sz, .v (.int .i64 1), .v (.int .i64 1099511627776)], 138), ([.bo !k == 2, .io .i64 sl, .v (.int .i64 1), .io .i64 sz], 138)]⟩ ?_
   rcases zB (sl == 0) with b24 | b24
   ·refine zR 75 b24 ?_
    refine zM [1, 4, 10, 11, 61, 62, 93] 1 ⟨.code (sub B72 pAF2), [(sq72 pAF3), .block 1, (sq72 pAF6), .rounds (sub B72 pAF7) 15, .block 0, (sq72 pAF8)], [(1, .lp 0 0), (4, .bo (k == 2)), (10, .v (.int .i64 5)), (11, .v (.bool true)), (61, .agg (rowsL g s k sz sl of gp lt ea sz)), (62, .v (.int .i64 4)), (93, .bo (k == 2))], [((cfgL g s k sz sl of gp lt ea d), 25)]⟩ ?_
    refine zR 93 b0 ?_
    refine zM [1, 4, 9, 10, 61, 62, 70] 2 ⟨pops B72 pAF4 3, [(sq72 pAF5), .block 1, (sq72 pAF6), .rounds (sub B72 pAF7) 14, .block 0, (sq72 pAF8)], [(1, .lp 0 0), (4, .bo (k == 2)), (9, .lp 1 0), (10, .v (.int .i64 6)), (61, .agg (rowsL g s k sz sl of gp lt ea sz)), (62, .v (.int .i64 5)), (70, .bo (k == 3))], [((cfgL g s k sz sl of gp lt ea d), 25), ([.bo (k == 3), .io .i64 of, .v (.int .i64 0), .io .i64 (IntKind.i64.wrap (sz - 1))], 138)]⟩ ?_
    refine zR 70 b22 ?_
    refine zM [1, 4, 9, 10, 61, 62, 75] 2 ⟨pops B72 pAF4 8, [(sq72 pAF5), .block 1, (sq72 pAF6), .rounds (sub B72 pAF7) 14, .block 0, (sq72 pAF8)], [(1, .lp 0 0), (4, .bo (k == 2)), (9, .lp 1 0), (10, .v (.int .i64 6)), (61, .agg (rowsL g s k sz sl of gp lt ea sz)), (62, .v (.int .i64 5)), (75, .bo (of == 0))], [((cfgL g s k sz sl of gp lt ea d), 25), ([.bo (k == 3), .io .i64 of, .v (.int .i64 0), .io .i64 (IntKind.i64.wrap (sz - 1))], 138)]⟩ ?_
    rcases zB (of == 0) with b25 | b25
    ·refine zR 75 b25 ?_
     refine zM [1, 4, 9, 10, 61, 62, 70] 3 ⟨pops B72 pAF4 3, [(sq72 pAF5), .block 1, (sq72 pAF6), .rounds (sub B72 pAF7) 13, .block 0, (sq72 pAF8)], [(1, .lp 0 0), (4, .bo (k == 2)), (9, .lp 2 0), (10, .v (.int .i64 7)), (61, .agg (rowsL g s k sz sl of gp lt ea sz)), (62, .v (.int .i64 6)), (70, .bo !k == 3)], [((cfgL g s k sz sl of gp lt ea d), 25), ([.bo (k == 3), .io .i64 of, .v (.int .i64 0), .io .i64 (IntKind.i64.wrap (sz - 1))], 138), ([.bo !k == 3, .io .i64 gp, .v (.int .i64 1), .v (.int .i64 1099511627776)], 138)]⟩ ?_
     refine At.res 70 (!k == 3) false (by kernel_rfl) (by first | assumption | (simp only [*]; done) | (simp [*]; done)) ?_
     refine zM [1, 4, 9, 10, 61, 62, 75, 79] 3 ⟨pops B72 pAF4 12, [(sq72 pAF5), .block 1, (sq72 pAF6), .rounds (sub B72 pAF7) 13, .block 0, (sq72 pAF8)], [(1, .lp 0 0), (4, .bo (k == 2)), (9, .lp 2 0), (10, .v (.int .i64 7)), (61, .agg (rowsL g s k sz sl of gp lt ea sz)), (62, .v (.int .i64 6)), (75, .v (.bool false)), (79, .bo !!k == 3)], [((cfgL g s k sz sl of gp lt ea d), 25), ([.bo (k == 3), .io .i64 of, .v (.int .i64 0), .io .i64 (IntKind.i64.wrap (sz - 1))], 138), ([.bo !k == 3, .io .i64 gp, .v (.int .i64 1), .v (.int .i64 1099511627776)], 138)]⟩ ?_
     refine At.res 79 (!!k == 3) true (by kernel_rfl) (by first | assumption | (simp only [*]; done) | (simp [*]; done)) ?_
     refine zM [1, 4, 10, 61, 62, 75, 79, 81, 83, 85] 1 ⟨pops B72 pAF4 18, [(sq72 pAF5), .block 1, (sq72 pAF6), .rounds (sub B72 pAF7) 13, .block 0, (sq72 pAF8)], [(1, .lp 0 0), (4, .bo (k == 2)), (10, .v (.int .i64 7)), (61, .agg (rowsL g s k sz sl of gp lt ea sz)), (62, .v (.int .i64 6)), (75, .v (.bool false)), (79, .v (.bool true)), (81, .io .i64 gp), (83, .v (.int .i64 1)), (85, .v (.int .i64 1099511627776))], [((cfgL g s k sz sl of gp lt ea d), 25)]⟩ ?_
     refine zC noF_stable 85 [.io .i64 gp, .v (.int .i64 1), .v (.int .i64 1099511627776)] (.bo (decide (1 ≤ gp) && decide (gp ≤ 1099511627776))) (fun _ _ w _ _ => within_any (gp) (1) (1099511627776) w) ?_
     refine zM [1, 4, 10, 61, 62, 104] 1 ⟨.code (sub B72 pAF1), [.block 1, (sq72 pAF6), .rounds (sub B72 pAF7) 13, .block 0, (sq72 pAF8)], [(1, .lp 0 0), (4, .bo (k == 2)), (10, .v (.int .i64 7)), (61, .agg (rowsL g s k sz sl of gp lt ea sz)), (62, .v (.int .i64 6)), (104, .bo !(decide (1 ≤ gp) && decide (gp ≤ 1099511627776)))], [((cfgL g s k sz sl of gp lt ea d), 25)]⟩ ?_
     rcases zB (!(decide (1 ≤ gp) && decide (gp ≤ 1099511627776))) with b26 | b26
     ·refine zR 104 b26 ?_
      refine zM [2, 3] 0 ⟨.exit .ret, [], [(2, .v (.int .i64 7)), (3, .v (.int .i64 4))], []⟩ ?_
      refine zE (.tup [.v (.int .i64 7), .v (.int .i64 4)]) ?_
      intro ρ w0 hw _
      exact ⟨wrong_fin (by simp only [wrongF, *, cond_true, cond_false, Bool.not_true, Bool.not_false]), hw.below⟩
     refine zR 104 b26 ?_
     refine zM [1, 4, 10, 61, 62, 75, 79, 81, 83, 85] 1 ⟨pops B72 pAF4 18, [(sq72 pAF5), .block 1, (sq72 pAF6), .rounds (sub B72 pAF7) 12, .block 0, (sq72 pAF8)], [(1, .lp 0 0), (4, .bo (k == 2)), (10, .v (.int .i64 8)), (61, .agg (rowsL g s k sz sl of gp lt ea sz)), (62, .v (.int .i64 7)), (75, .v (.bool false)), (79, .v (.bool true)), (81, .io .i64 lt), (83, .v (.int .i64 0)), (85, .v (.int .i64 1099511627776))], [((cfgL g s k sz sl of gp lt ea d), 25)]⟩ ?_
     refine zC noF_stable 85 [.io .i64 lt, .v (.int .i64 0), .v (.int .i64 1099511627776)] (.bo (decide (0 ≤ lt) && decide (lt ≤ 1099511627776))) (fun _ _ w _ _ => within_any (lt) (0) (1099511627776) w) ?_
     refine zM [1, 4, 10, 61, 62, 104] 1 ⟨.code (sub B72 pAF1), [.block 1, (sq72 pAF6), .rounds (sub B72 pAF7) 12, .block 0, (sq72 pAF8)], [(1, .lp 0 0), (4, .bo (k == 2)), (10, .v (.int .i64 8)), (61, .agg (rowsL g s k sz sl of gp lt ea sz)), (62, .v (.int .i64 7)), (104, .bo !(decide (0 ≤ lt) && decide (lt ≤ 1099511627776)))], [((cfgL g s k sz sl of gp lt ea d), 25)]⟩ ?_
     rcases zB (!(decide (0 ≤ lt) && decide (lt ≤ 1099511627776))) with b27 | b27
     ·refine zR 104 b27 ?_
      refine zM [2, 3] 0 ⟨.exit .ret, [], [(2, .v (.int .i64 8)), (3, .v (.int .i64 4))], []⟩ ?_
      refine zE (.tup [.v (.int .i64 8), .v (.int .i64 4)]) ?_
      intro ρ w0 hw _
      exact ⟨wrong_fin (by simp only [wrongF, *, cond_true, cond_false, Bool.not_true, Bool.not_false]), hw.below⟩
     refine zR 104 b27 ?_
     refine zM [1, 4, 10, 61, 62, 75, 79, 81, 83, 85] 1 ⟨pops B72 pAF4 18, [(sq72 pAF5), .block 1, (sq72 pAF6), .rounds (sub B72 pAF7) 11, .block 0, (sq72 pAF8)], [(1, .lp 0 0), (4, .bo (k == 2)), (10, .v (.int .i64 9)), (61, .agg (rowsL g s k sz sl of gp lt ea sz)), (62, .v (.int .i64 8)), (75, .v (.bool false)), (79, .v (.bool true)), (81, .io .i64 ea), (83, .v (.int .i64 0)), (85, .v (.int .i64 2147483647))], [((cfgL g s k sz sl of gp lt ea d), 25)]⟩ ?_
     refine zC noF_stable 85 [.io .i64 ea, .v (.int .i64 0), .v (.int .i64 2147483647)] (.bo (decide (0 ≤ ea) && decide (ea ≤ 2147483647))) (fun _ _ w _ _ => within_any (ea) (0) (2147483647) w) ?_
     refine zM [1, 4, 10, 61, 62, 104] 1 ⟨.code (sub B72 pAF1), [.block 1, (sq72 pAF6), .rounds (sub B72 pAF7) 11, .block 0, (sq72 pAF8)], [(1, .lp 0 0), (4, .bo (k == 2)), (10, .v (.int .i64 9)), (61, .agg (rowsL g s k sz sl of gp lt ea sz)), (62, .v (.int .i64 8)), (104, .bo !(decide (0 ≤ ea) && decide (ea ≤ 2147483647)))], [((cfgL g s k sz sl of gp lt ea d), 25)]⟩ ?_
     rcases zB (!(decide (0 ≤ ea) && decide (ea ≤ 2147483647))) with b28 | b28
     ·refine zR 104 b28 ?_
      refine zM [2, 3] 0 ⟨.exit .ret, [], [(2, .v (.int .i64 9)), (3, .v (.int .i64 4))], []⟩ ?_
      refine zE (.tup [.v (.int .i64 9), .v (.int .i64 4)]) ?_
      intro ρ w0 hw _
      exact ⟨wrong_fin (by simp only [wrongF, *, cond_true, cond_false, Bool.not_true, Bool.not_false]), hw.below⟩
     refine zR 104 b28 ?_
     refine zM [2, 3] 0 ⟨.exit .ret, [], [(2, .v (.int .i64 0)), (3, .v (.int .i64 0))], []⟩ ?_
     refine zE (.tup [.v (.int .i64 0), .v (.int .i64 0)]) ?_
     intro ρ w0 hw _
     exact ⟨wrong_fin (by simp only [wrongF, *, cond_true, cond_false, Bool.not_true, Bool.not_false]), hw.below⟩
    refine zR 75 b25 ?_
    refine zM [1, 4, 9, 10, 61, 62, 75, 79] 2 ⟨pops B72 pAF4 12, [(sq72 pAF5), .block 1, (sq72 pAF6), .rounds (sub B72 pAF7) 14, .block 0, (sq72 pAF8)], [(1, .lp 0 0), (4, .bo (k == 2)), (9, .lp 1 0), (10, .v (.int .i64 6)), (61, .agg (rowsL g s k sz sl of gp lt ea sz)), (62, .v (.int .i64 5)), (75, .v (.bool false)), (79, .bo !k == 3)], [((cfgL g s k sz sl of gp lt ea d), 25), ([.bo (k == 3), .io .i64 of, .v (.int .i64 0), .io .i64 (IntKind.i64.wrap (sz - 1))], 138)]⟩ ?_
    refine At.res 79 (!k == 3) false (by kernel_rfl) (by first | assumption | (simp only [*]; done) | (simp [*]; done)) ?_
    refine zM [2, 3] 0 ⟨.exit .ret, [], [(2, .v (.int .i64 6)), (3, .v (.int .i64 4))], []⟩ ?_
    refine zE (.tup [.v (.int .i64 6), .v (.int .i64 4)]) ?_
    intro ρ w0 hw _
    exact ⟨wrong_fin (by simp only [wrongF, *, cond_true, cond_false, Bool.not_true, Bool.not_false]), hw.below⟩
   refine zR 75 b24 ?_
   refine zM [1, 4, 9, 10, 61, 62, 75, 79] 3 ⟨pops B72 pAF4 12, [(sq72 pAF5), .block 1, (sq72 pAF6), .rounds (sub B72 pAF7) 15, .block 0, (sq72 pAF8)], [(1, .lp 0 0), (4, .bo (k == 2)), (9, .lp 2 0), (10, .v (.int .i64 5)), (61, .agg (rowsL g s k sz sl of gp lt ea sz)), (62, .v (.int .i64 4)), (75, .v (.bool false)), (79, .bo !!k == 2)], [((cfgL g s k sz sl of gp lt ea d), 25), ([.bo (k == 3), .io .i64 sz, .v (.int .i64 1), .v (.int .i64 1099511627776)], 138), ([.bo !k == 2, .io .i64 sl, .v (.int .i64 1), .io .i64 sz], 138)]⟩ ?_
   refine At.res 79 (!!k == 2) false (by kernel_rfl) (by first | assumption | (simp only [*]; done) | (simp [*]; done)) ?_
   refine zM [1, 4, 10, 11, 61, 62, 93] 1 ⟨.code (sub B72 pAF2), [(sq72 pAF3), .block 1, (sq72 pAF6), .rounds (sub B72 pAF7) 15, .block 0, (sq72 pAF8)], [(1, .lp 0 0), (4, .bo (k == 2)), (10, .v (.int .i64 5)), (11, .v (.bool false)), (61, .agg (rowsL g s k sz sl of gp lt ea sz)), (62, .v (.int .i64 4)), (93, .bo (k == 2))], [((cfgL g s k sz sl of gp lt ea d), 25)]⟩ ?_
   refine zR 93 b0 ?_
   refine zM [2, 3] 0 ⟨.exit .ret, [], [(2, .v (.int .i64 5)), (3, .v (.int .i64 4))], []⟩ ?_
   refine zE (.tup [.v (.int .i64 5), .v (.int .i64 4)]) ?_
   intro ρ w0 hw _
   exact ⟨wrong_fin (by simp only [wrongF, *, cond_true, cond_false, Bool.not_true, Bool.not_false]), hw.below⟩
  refine zR 75 b23 ?_
  refine zM [1, 4, 9, 10, 61, 62, 75, 79] 2 ⟨pops B72 pAF4 12, [(sq72 pAF5), .block 1, (sq72 pAF6), .rounds (sub B72 pAF7) 16, .block 0, (sq72 pAF8)], [(1, .lp 0 0), (4, .bo (k == 2)), (9, .lp 1 0), (10, .v (.int .i64 4)), (61, .agg (rowsL g s k sz sl of gp lt ea sz)), (62, .v (.int .i64 3)), (75, .v (.bool false)), (79, .bo !k == 3)], [((cfgL g s k sz sl of gp lt ea d), 25), ([.bo (k == 3), .io .i64 sz, .v (.int .i64 1), .v (.int .i64 1099511627776)], 138)]⟩ ?_
  refine At.res 79 (!k == 3) false (by kernel_rfl) (by first | assumption | (simp only [*]; done) | (simp [*]; done)) ?_
  refine zM [2, 3] 0 ⟨.exit .ret, [], [(2, .v (.int .i64 4)), (3, .v (.int .i64 4))], []⟩ ?_
  refine zE (.tup [.v (.int .i64 4), .v (.int .i64 4)]) ?_
  intro ρ w0 hw _
  exact ⟨wrong_fin (by simp only [wrongF, *, cond_true, cond_false, Bool.not_true, Bool.not_false]), hw.below⟩
 refine zR 70 b22 ?_
 refine zM [1, 4, 9, 10, 61, 62, 75, 79] 2 ⟨pops B72 pAF4 12, [(sq72 pAF5), .block 1, (sq72 pAF6), .rounds (sub B72 pAF7) 16, .block 0, (sq72 pAF8)], [(1, .lp 0 0), (4, .bo (k == 2)), (9, .lp 1 0), (10, .v (.int .i64 4)), (61, .agg (rowsL g s k sz sl of gp lt ea sz)), (62, .v (.int .i64 3)), (75, .v (.bool false)), (79, .bo !k == 3)], [((cfgL g s k sz sl of gp lt ea d), 25), ([.bo (k == 3), .io .i64 sz, .v (.int .i64 1), .v (.int .i64 1099511627776)], 138)]⟩ ?_
 refine At.res 79 (!k == 3) true (by kernel_rfl) (by first | assumption | (simp only [*]; done) | (simp [*]; done)) ?_
 refine zM [1, 4, 10, 61, 62, 75, 79, 81, 83, 85] 1 ⟨pops B72 pAF4 18, [(sq72 pAF5), .block 1, (sq72 pAF6), .rounds (sub B72 pAF7) 16, .block 0, (sq72 pAF8)], [(1, .lp 0 0), (4, .bo (k == 2)), (10, .v (.int .i64 4)), (61, .agg (rowsL g s k sz sl of gp lt ea sz)), (62, .v (.int .i64 3)), (75, .v (.bool false)), (79, .v (.bool true)), (81, .io .i64 sz), (83, .v (.int .i64 1)), (85, .v (.int .i64 1099511627776))], [((cfgL g s k sz sl of gp lt ea d), 25)]⟩ ?_
 refine zC noF_stable 85 [.io .i64 sz, .v (.int .i64 1), .v (.int .i64 1099511627776)] (.bo (decide (1 ≤ sz) && decide (sz ≤ 1099511627776))) (fun _ _ w _ _ => within_any (sz) (1) (1099511627776) w) ?_
 refine zM [1, 4, 10, 61, 62, 104] 1 ⟨.code (sub B72 pAF1), [.block 1, (sq72 pAF6), .rounds (sub B72 pAF7) 16, .block 0, (sq72 pAF8)], [(1, .lp 0 0), (4, .bo (k == 2)), (10, .v (.int .i64 4)), (61, .agg (rowsL g s k sz sl of gp lt ea sz)), (62, .v (.int .i64 3)), (104, .bo !(decide (1 ≤ sz) && decide (sz ≤ 1099511627776)))], [((cfgL g s k sz sl of gp lt ea d), 25)]⟩ ?_
 rcases zB (!(decide (1 ≤ sz) && decide (sz ≤ 1099511627776))) with b29 | b29
 ·refine zR 104 b29 ?_
  refine zM [2, 3] 0 ⟨.exit .ret, [], [(2, .v (.int .i64 4)), (3, .v (.int .i64 4))], []⟩ ?_
  refine zE (.tup [.v (.int .i64 4), .v (.int .i64 4)]) ?_
  intro ρ w0 hw _
  exact ⟨wrong_fin (by simp only [wrongF, *, cond_true, cond_false, Bool.not_true, Bool.not_false]), hw.below⟩
 refine zR 104 b29 ?_
 refine zM [1, 4, 9, 10, 61, 62, 70] 2 ⟨pops B72 pAF4 3, [(sq72 pAF5), .block 1, (sq72 pAF6), .rounds (sub B72 pAF7) 15, .block 0, (sq72 pAF8)], [(1, .lp 0 0), (4, .bo (k == 2)), (9, .lp 1 0), (10, .v (.int .i64 5)), (61, .agg (rowsL g s k sz sl of gp lt ea sz)), (62, .v (.int .i64 4)), (70, .bo !k == 2)], [((cfgL g s k sz sl of gp lt ea d), 25), ([.bo !k == 2, .io .i64 sl, .v (.int .i64 1), .io .i64 sz], 138)]⟩ ?_
 refine At.res 70 (!k == 2) true (by kernel_rfl) (by first | assumption | (simp only [*]; done) | (simp [*]; done)) ?_
 refine zM [1, 4, 9, 10, 61, 62, 75] 2 ⟨pops B72 pAF4 8, [(sq72 pAF5), .block 1, (sq72 pAF6), .rounds (sub B72 pAF7) 15, .block 0, (sq72 pAF8)], [(1, .lp 0 0), (4, .bo (k == 2)), (9, .lp 1 0), (10, .v (.int .i64 5)), (61, .agg (rowsL g s k sz sl of gp lt ea sz)), (62, .v (.int .i64 4)), (75, .bo (sl == 0))], [((cfgL g s k sz sl of gp lt ea d), 25), ([.bo !k == 2, .io .i64 sl, .v (.int .i64 1), .io .i64 sz], 138)]⟩ ?_
 rcases zB (sl == 0) with b30 | b30
 ·refine zR 75 b30 ?_
  refine zM [1, 4, 10, 11, 61, 62, 93] 1 ⟨.code (sub B72 pAF2), [(sq72 pAF3), .block 1, (sq72 pAF6), .rounds (sub B72 pAF7) 15, .block 0, (sq72 pAF8)], [(1, .lp 0 0), (4, .bo (k == 2)), (10, .v (.int .i64 5)), (11, .v (.bool true)), (61, .agg (rowsL g s k sz sl of gp lt ea sz)), (62, .v (.int .i64 4)), (93, .bo (k == 2))], [((cfgL g s k sz sl of gp lt ea d), 25)]⟩ ?_
  refine zR 93 b0 ?_
  refine zM [1, 4, 9, 10, 61, 62, 70] 2 ⟨pops B72 pAF4 3, [(sq72 pAF5), .block 1, (sq72 pAF6), .rounds (sub B72 pAF7) 14, .block 0, (sq72 pAF8)], [(1, .lp 0 0), (4, .bo (k == 2)), (9, .lp 1 0), (10, .v (.int .i64 6)), (61, .agg (rowsL g s k sz sl of gp lt ea sz)), (62, .v (.int .i64 5)), (70, .bo (k == 3))], [((cfgL g s k sz sl of gp lt ea d), 25), ([.bo (k == 3), .io .i64 of, .v (.int .i64 0), .io .i64 (IntKind.i64.wrap (sz - 1))], 138)]⟩ ?_
  refine zR 70 b22 ?_
  refine zM [1, 4, 9, 10, 61, 62, 75, 79] 2 ⟨pops B72 pAF4 12, [(sq72 pAF5), .block 1, (sq72 pAF6), .rounds (sub B72 pAF7) 14, .block 0, (sq72 pAF8)], [(1, .lp 0 0), (4, .bo (k == 2)), (9, .lp 1 0), (10, .v (.int .i64 6)), (61, .agg (rowsL g s k sz sl of gp lt ea sz)), (62, .v (.int .i64 5)), (75, .v (.bool false)), (79, .bo !k == 3)], [((cfgL g s k sz sl of gp lt ea d), 25), ([.bo (k == 3), .io .i64 of, .v (.int .i64 0), .io .i64 (IntKind.i64.wrap (sz - 1))], 138)]⟩ ?_
  refine At.res 79 (!k == 3) true (by kernel_rfl) (by first | assumption | (simp only [*]; done) | (simp [*]; done)) ?_
  refine zM [1, 4, 10, 61, 62, 75, 79, 81, 83, 85] 1 ⟨pops B72 pAF4 18, [(sq72 pAF5), .block 1, (sq72 pAF6), .rounds (sub B72 pAF7) 14, .block 0, (sq72 pAF8)], [(1, .lp 0 0), (4, .bo (k == 2)), (10, .v (.int .i64 6)), (61, .agg (rowsL g s k sz sl of gp lt ea sz)), (62, .v (.int .i64 5)), (75, .v (.bool false)), (79, .v (.bool true)), (81, .io .i64 of), (83, .v (.int .i64 0)), (85, .io .i64 (IntKind.i64.wrap (sz - 1)))], [((cfgL g s k sz sl of gp lt ea d), 25)]⟩ ?_
  refine zC noF_stable 85 [.io .i64 of, .v (.int .i64 0), .io .i64 (IntKind.i64.wrap (sz - 1))] (.bo (decide (0 ≤ of) && decide (of ≤ IntKind.i64.wrap (sz - 1)))) (fun _ _ w _ _ => within_any (of) (0) (IntKind.i64.wrap (sz - 1)) w) ?_
  refine zM [1, 4, 10, 61, 62, 104] 1 ⟨.code (sub B72 pAF1), [.block 1, (sq72 pAF6), .rounds (sub B72 pAF7) 14, .block 0, (sq72 pAF8)], [(1, .lp 0 0), (4, .bo (k == 2)), (10, .v (.int .i64 6)), (61, .agg (rowsL g s k sz sl of gp lt ea sz)), (62, .v (.int .i64 5)), (104, .bo !(decide (0 ≤ of) && decide (of ≤ IntKind.i64.wrap (sz - 1))))], [((cfgL g s k sz sl of gp lt ea d), 25)]⟩ ?_
  rcases zB (!(decide (0 ≤ of) && decide (of ≤ IntKind.i64.wrap (sz - 1)))) with b31 | b31
  ·refine zR 104 b31 ?_
   refine zM [2, 3] 0 ⟨.exit .ret, [], [(2, .v (.int .i64 6)), (3, .v (.int .i64 4))], []⟩ ?_
   refine zE (.tup [.v (.int .i64 6), .v (.int .i64 4)]) ?_
   intro ρ w0 hw _
   exact ⟨wrong_fin (by simp only [wrongF, *, cond_true, cond_false, Bool.not_true, Bool.not_false]), hw.below⟩
  refine zR 104 b31 ?_
  refine zM [1, 4, 9, 10, 61, 62, 70] 2 ⟨pops B72 pAF4 3, [(sq72 pAF5), .block 1, (sq72 pAF6), .rounds (sub B72 pAF7) 13, .block 0, (sq72 pAF8)], [(1, .lp 0 0), (4, .bo (k == 2)), (9, .lp 1 0), (10, .v (.int .i64 7)), (61, .agg (rowsL g s k sz sl of gp lt ea sz)), (62, .v (.int .i64 6)), (70, .bo !k == 3)], [((cfgL g s k sz sl of gp lt ea d), 25), ([.bo !k == 3, .io .i64 gp, .v (.int .i64 1), .v (.int .i64 1099511627776)], 138)]⟩ ?_
  refine At.res 70 (!k == 3) true (by kernel_rfl) (by first | assumption | (simp only [*]; done) | (simp [*]; done)) ?_
  refine zM [1, 4, 9, 10, 61, 62, 75] 2 ⟨pops B72 pAF4 8, [(sq72 pAF5), .block 1, (sq72 pAF6), .rounds (sub B72 pAF7) 13, .block 0, (sq72 pAF8)], [(1, .lp 0 0), (4, .bo (k == 2)), (9, .lp 1 0), (10, .v (.int .i64 7)), (61, .agg (rowsL g s k sz sl of gp lt ea sz)), (62, .v (.int .i64 6)), (75, .bo (gp == 0))], [((cfgL g s k sz sl of gp lt ea d), 25), ([.bo !k == 3, .io .i64 gp, .v (.int .i64 1), .v (.int .i64 1099511627776)], 138)]⟩ ?_
  rcases zB (gp == 0) with b32 | b32
  ·refine zR 75 b32 ?_
   refine zM [1, 4, 10, 61, 62, 75, 79, 81, 83, 85] 1 ⟨pops B72 pAF4 18, [(sq72 pAF5), .block 1, (sq72 pAF6), .rounds (sub B72 pAF7) 12, .block 0, (sq72 pAF8)], [(1, .lp 0 0), (4, .bo (k == 2)), (10, .v (.int .i64 8)), (61, .agg (rowsL g s k sz sl of gp lt ea sz)), (62, .v (.int .i64 7)), (75, .v (.bool false)), (79, .v (.bool true)), (81, .io .i64 lt), (83, .v (.int .i64 0)), (85, .v (.int .i64 1099511627776))], [((cfgL g s k sz sl of gp lt ea d), 25)]⟩ ?_
   refine zC noF_stable 85 [.io .i64 lt, .v (.int .i64 0), .v (.int .i64 1099511627776)] (.bo (decide (0 ≤ lt) && decide (lt ≤ 1099511627776))) (fun _ _ w _ _ => within_any (lt) (0) (1099511627776) w) ?_
   refine zM [1, 4, 10, 61, 62, 104] 1 ⟨.code (sub B72 pAF1), [.block 1, (sq72 pAF6), .rounds (sub B72 pAF7) 12, .block 0, (sq72 pAF8)], [(1, .lp 0 0), (4, .bo (k == 2)), (10, .v (.int .i64 8)), (61, .agg (rowsL g s k sz sl of gp lt ea sz)), (62, .v (.int .i64 7)), (104, .bo !(decide (0 ≤ lt) && decide (lt ≤ 1099511627776)))], [((cfgL g s k sz sl of gp lt ea d), 25)]⟩ ?_
   rcases zB (!(decide (0 ≤ lt) && decide (lt ≤ 1099511627776))) with b33 | b33
   ·refine zR 104 b33 ?_
    refine zM [2, 3] 0 ⟨.exit .ret, [], [(2, .v (.int .i64 8)), (3, .v (.int .i64 4))], []⟩ ?_
    refine zE (.tup [.v (.int .i64 8), .v (.int .i64 4)]) ?_
    intro ρ w0 hw _
    exact ⟨wrong_fin (by simp only [wrongF, *, cond_true, cond_false, Bool.not_true, Bool.not_false]), hw.below⟩
   refine zR 104 b33 ?_
   refine zM [1, 4, 10, 61, 62, 75, 79, 81, 83, 85] 1 ⟨pops B72 pAF4 18, [(sq72 pAF5), .block 1, (sq72 pAF6), .rounds (sub B72 pAF7) 11, .block 0, (sq72 pAF8)], [(1, .lp 0 0), (4, .bo (k == 2)), (10, .v (.int .i64 9)), (61, .agg (rowsL g s k sz sl of gp lt ea sz)), (62, .v (.int .i64 8)), (75, .v (.bool false)), (79, .v (.bool true)), (81, .io .i64 ea), (83, .v (.int .i64 0)), (85, .v (.int .i64 2147483647))], [((cfgL g s k sz sl of gp lt ea d), 25)]⟩ ?_
   refine zC noF_stable 85 [.io .i64 ea, .v (.int .i64 0), .v (.int .i64 2147483647)] (.bo (decide (0 ≤ ea) && decide (ea ≤ 2147483647))) (fun _ _ w _ _ => within_any (ea) (0) (2147483647) w) ?_
   refine zM [1, 4, 10, 61, 62, 104] 1 ⟨.code (sub B72 pAF1), [.block 1, (sq72 pAF6), .rounds (sub B72 pAF7) 11, .block 0, (sq72 pAF8)], [(1, .lp 0 0), (4, .bo (k == 2)), (10, .v (.int .i64 9)), (61, .agg (rowsL g s k sz sl of gp lt ea sz)), (62, .v (.int .i64 8)), (104, .bo !(decide (0 ≤ ea) && decide (ea ≤ 2147483647)))], [((cfgL g s k sz sl of gp lt ea d), 25)]⟩ ?_
   rcases zB (!(decide (0 ≤ ea) && decide (ea ≤ 2147483647))) with b34 | b34
   ·refine zR 104 b34 ?_
    refine zM [2, 3] 0 ⟨.exit .ret, [], [(2, .v (.int .i64 9)), (3, .v (.int .i64 4))], []⟩ ?_
    refine zE (.tup [.v (.int .i64 9), .v (.int .i64 4)]) ?_
    intro ρ w0 hw _
    exact ⟨wrong_fin (by simp only [wrongF, *, cond_true, cond_false, Bool.not_true, Bool.not_false]), hw.below⟩
   refine zR 104 b34 ?_
   refine zM [2, 3] 0 ⟨.exit .ret, [], [(2, .v (.int .i64 0)), (3, .v (.int .i64 0))], []⟩ ?_
   refine zE (.tup [.v (.int .i64 0), .v (.int .i64 0)]) ?_
   intro ρ w0 hw _
   exact ⟨wrong_fin (by simp only [wrongF, *, cond_true, cond_false, Bool.not_true, Bool.not_false]), hw.below⟩
  refine zR 75 b32 ?_
  refine zM [1, 4, 9, 10, 61, 62, 75, 79] 2 ⟨pops B72 pAF4 12, [(sq72 pAF5), .block 1, (sq72 pAF6), .rounds (sub B72 pAF7) 13, .block 0, (sq72 pAF8)], [(1, .lp 0 0), (4, .bo (k == 2)), (9, .lp 1 0), (10, .v (.int .i64 7)), (61, .agg (rowsL g s k sz sl of gp lt ea sz)), (62, .v (.int .i64 6)), (75, .v (.bool false)), (79, .bo !!k == 3)], [((cfgL g s k sz sl of gp lt ea d), 25), ([.bo !k == 3, .io .i64 gp, .v (.int .i64 1), .v (.int .i64 1099511627776)], 138)]⟩ ?_
  refine At.res 79 (!!k == 3) false (by kernel_rfl) (by first | assumption | (simp only [*]; done) | (simp [*]; done)) ?_
  refine zM [2, 3] 0 ⟨.exit .ret, [], [(2, .v (.int .i64 7)), (3, .v (.int .i64 4))], []⟩ ?_
  refine zE (.tup [.v (.int .i64 7), .v (.int .i64 4)]) ?_
  intro ρ w0 hw _
  exact ⟨wrong_fin (by simp only [wrongF, *, cond_true, cond_false, Bool.not_true, Bool.not_false]), hw.below⟩
 refine zR 75 b30 ?_
 refine zM [1, 4, 9, 10, 61, 62, 75, 79] 2 ⟨pops B72 pAF4 12, [(sq72 pAF5), .block 1, (sq72 pAF6), .rounds (sub B72 pAF7) 15, .block 0, (sq72 pAF8)], [(1, .lp 0 0), (4, .bo (k == 2)), (9, .lp 1 0), (10, .v (.int .i64 5)), (61, .agg (rowsL g s k sz sl of gp lt ea sz)), (62, .v (.int .i64 4)), (75, .v (.bool false)), (79, .bo !!k == 2)], [((cfgL g s k sz sl of gp lt ea d), 25), ([.bo !k == 2, .io .i64 sl, .v (.int .i64 1), .io .i64 sz], 138)]⟩ ?_
 refine At.res 79 (!!k == 2) false (by kernel_rfl) (by first | assumption | (simp only [*]; done) | (simp [*]; done)) ?_
 refine zM [1, 4, 10, 11, 61, 62, 93] 1 ⟨.code (sub B72 pAF2), [(sq72 pAF3), .block 1, (sq72 pAF6), .rounds (sub B72 pAF7) 15, .block 0, (sq72 pAF8)], [(1, .lp 0 0), (4, .bo (k == 2)), (10, .v (.int .i64 5)), (11, .v (.bool false)), (61, .agg (rowsL g s k sz sl of gp lt ea sz)), (62, .v (.int .i64 4)), (93, .bo (k == 2))], [((cfgL g s k sz sl of gp lt ea d), 25)]⟩ ?_
 refine zR 93 b0 ?_
 refine zM [2, 3] 0 ⟨.exit .ret, [], [(2, .v (.int .i64 5)), (3, .v (.int .i64 4))], []⟩ ?_
 refine zE (.tup [.v (.int .i64 5), .v (.int .i64 4)]) ?_
 intro ρ w0 hw _
 exact ⟨wrong_fin (by simp only [wrongF, *, cond_true, cond_false, Bool.not_true, Bool.not_false]), hw.below⟩
end Go.Proofs.YthfpekhpeiebjaaGreatDoor
end
section

namespace Go.Proofs.YthfpekhpeiebjaaGreatDoor
open Go.RowKit Go.Sx
def fldB (g s k sz sl of gp lt ea : Int) : Int → Bool
 | 1 => decide (1 ≤ g) && decide (g ≤ 32768)
 | 2 => decide (1 ≤ s) && decide (s ≤ 64)
 | 3 => (k == 1) || (k == 2) || (k == 3)
 | 4 => bif k == 3 then sz == 0 else decide (1 ≤ sz) && decide (sz ≤ 1099511627776)
 | 5 => bif k != 2 then sl == 0 else (decide (1 ≤ sl) && decide (sl ≤ sz)) && decide (sz ≤ IntKind.i64.wrap (64 * sl))
 | 6 => bif k == 1 then decide (0 ≤ of) && decide (of ≤ IntKind.i64.wrap (sz - 1)) else bif k == 2 then decide (0 ≤ of) && decide (of ≤ IntKind.i64.wrap (sl - 1)) else of == 0
 | 7 => bif k != 3 then gp == 0 else decide (1 ≤ gp) && decide (gp ≤ 1099511627776)
 | 8 => decide (0 ≤ lt) && decide (lt ≤ 1099511627776)
 | _ => decide (0 ≤ ea) && decide (ea ≤ 2147483647)
noncomputable def B41 : Code := (Tryz.f41.body).getD .skip
noncomputable def sq41 (p : List Nat) : Go.Sx.K := .seq (sub B41 p)
set_option maxHeartbeats 4000000 in
set_option maxRecDepth 100000 in
theorem check_any (g s k sz sl of gp lt ea : Int) (d : Bool) (w : World) : Calls Tryz.prog 41 #[.agg #[.int .i64 g, .int .i64 s, .int .i64 k, .int .i64 sz, .int .i64 sl, .int .i64 of, .int .i64 gp, .int .i64 lt, .int .i64 ea, .bool d]] w fun e w' => e = .returned (.int .i64 (jobE (wrongF g s k sz sl of gp lt ea))) ∧ Below w.heap.size w w' := by
 refine enter (fn := Tryz.f41) (c := B41) [.agg (cfgL g s k sz sl of gp lt ea d)] Tryz.func41 rfl rfl ?_
 refine At.to noF_stable noF_fewer 20 400 [6] 0 ⟨pops B41 [1, 0] 1, [(sq41 [1, 1])], [(6, .agg (cfgL g s k sz sl of gp lt ea d))], []⟩ (by kernel_rfl) (by kernel_rfl) ?_
 refine zC noF_stable 72 [.agg (cfgL g s k sz sl of gp lt ea d)] (.tup [.io .i64 (wrongF g s k sz sl of gp lt ea), .io .i64 (jobE (wrongF g s k sz sl of gp lt ea))]) (fun _ _ w _ _ => wrong_any (g) (s) (k) (sz) (sl) (of) (gp) (lt) (ea) (d) w) ?_
 refine At.to noF_stable noF_fewer 20 400 [2] 0 ⟨.exit .ret, [], [(2, .io .i64 (jobE (wrongF g s k sz sl of gp lt ea)))], []⟩ (by kernel_rfl) (by kernel_rfl) ?_
 refine zE (.io .i64 (jobE (wrongF g s k sz sl of gp lt ea))) ?_
 intro ρ w9 hw9 _
 exact ⟨rfl, hw9.below⟩
def wrongR (g s k sz sl of gp lt ea : Int) : Int :=
 bif !(fldB g s k sz sl of gp lt ea 1) then 1 else bif !(fldB g s k sz sl of gp lt ea 2) then 2 else bif !(fldB g s k sz sl of gp lt ea 3) then 3 else
 bif !(fldB g s k sz sl of gp lt ea 4) then 4 else bif !(fldB g s k sz sl of gp lt ea 5) then 5 else bif !(fldB g s k sz sl of gp lt ea 6) then 6 else
 bif !(fldB g s k sz sl of gp lt ea 7) then 7 else bif !(fldB g s k sz sl of gp lt ea 8) then 8 else bif !(fldB g s k sz sl of gp lt ea 9) then 9 else 0
end Go.Proofs.YthfpekhpeiebjaaGreatDoor
end
section

namespace Go.Proofs.YthfpekhpeiebjaaGreatDoor
open Go.RowKit Go.Sx
noncomputable def B67 : Code := (Tryz.f67.body).getD .skip
noncomputable def sq67 (p : List Nat) : Go.Sx.K := .seq (sub B67 p)
set_option maxHeartbeats 4000000 in
set_option maxRecDepth 100000 in
theorem numbers_any (g s k sz sl of gp lt ea : Int) (d : Bool) (w : World) : Calls Tryz.prog 67 #[.agg #[.int .i64 g, .int .i64 s, .int .i64 k, .int .i64 sz, .int .i64 sl, .int .i64 of, .int .i64 gp, .int .i64 lt, .int .i64 ea, .bool d]] w fun e w' => e = .returned (.agg #[.int .i64 g, .int .i64 s, .int .i64 k, .int .i64 sz, .int .i64 sl, .int .i64 of, .int .i64 gp, .int .i64 lt, .int .i64 ea, .int .i64 (bif d then 1 else 0)]) ∧ Below w.heap.size w w' := by
 refine enter (fn := Tryz.f67) (c := B67) [.agg (cfgL g s k sz sl of gp lt ea d)] Tryz.func67 rfl rfl ?_
 refine At.to noF_stable noF_fewer 20 400 [2, 3, 24] 3 ⟨.code (sub B67 [1, 1, 0, 1]), [(sq67 [1, 1, 1])], [(2, .lp 1 0), (3, .lp 2 0), (24, .bo d)], [((cfgL g s k sz sl of gp lt ea d), 25), ([.v (.int .i64 0), .v (.int .i64 0), .v (.int .i64 0), .v (.int .i64 0), .v (.int .i64 0), .v (.int .i64 0), .v (.int .i64 0), .v (.int .i64 0), .v (.int .i64 0), .v (.int .i64 0)], 105), ([.io .i64 g, .io .i64 s, .io .i64 k, .io .i64 sz, .io .i64 sl, .io .i64 of, .io .i64 gp, .io .i64 lt, .io .i64 ea, .v (.int .i64 0)], 105)]⟩ (by kernel_rfl) (by kernel_rfl) ?_
 rcases zB (d) with b0 | b0
 ·refine zR 24 b0 ?_
  refine At.to noF_stable noF_fewer 20 400 [2] 2 ⟨.exit .ret, [], [(2, .lp 1 0)], [((cfgL g s k sz sl of gp lt ea d), 25), ([.io .i64 g, .io .i64 s, .io .i64 k, .io .i64 sz, .io .i64 sl, .io .i64 of, .io .i64 gp, .io .i64 lt, .io .i64 ea, .v (.int .i64 1)], 105)]⟩ (by kernel_rfl) (by kernel_rfl) ?_
  refine zE (.agg [.io .i64 g, .io .i64 s, .io .i64 k, .io .i64 sz, .io .i64 sl, .io .i64 of, .io .i64 gp, .io .i64 lt, .io .i64 ea, .v (.int .i64 1)]) ?_
  intro ρ w9 hw9 _
  exact ⟨by simp only [*]; rfl, hw9.below⟩
 refine zR 24 b0 ?_
 refine At.to noF_stable noF_fewer 20 400 [2] 2 ⟨.exit .ret, [], [(2, .lp 1 0)], [((cfgL g s k sz sl of gp lt ea d), 25), ([.io .i64 g, .io .i64 s, .io .i64 k, .io .i64 sz, .io .i64 sl, .io .i64 of, .io .i64 gp, .io .i64 lt, .io .i64 ea, .v (.int .i64 0)], 105)]⟩ (by kernel_rfl) (by kernel_rfl) ?_
 refine zE (.agg [.io .i64 g, .io .i64 s, .io .i64 k, .io .i64 sz, .io .i64 sl, .io .i64 of, .io .i64 gp, .io .i64 lt, .io .i64 ea, .v (.int .i64 0)]) ?_
 intro ρ w9 hw9 _
 exact ⟨by simp only [*]; rfl, hw9.below⟩
end Go.Proofs.YthfpekhpeiebjaaGreatDoor
end
section

namespace Go.Proofs.YthfpekhpeiebjaaGreatDoor
open Go.RowKit Go.Sx
noncomputable def B58 : Code := (Tryz.f58.body).getD .skip
noncomputable def sq58 (p : List Nat) : Go.Sx.K := .seq (sub B58 p)
set_option maxHeartbeats 4000000 in
set_option maxRecDepth 100000 in
theorem of_any (g s k sz sl of gp lt ea d : Int) (w : World) : Calls Tryz.prog 58 #[.agg #[.int .i64 g, .int .i64 s, .int .i64 k, .int .i64 sz, .int .i64 sl, .int .i64 of, .int .i64 gp, .int .i64 lt, .int .i64 ea, .int .i64 d]] w fun e w' => e = .returned (.agg #[.int .i64 g, .int .i64 s, .int .i64 k, .int .i64 sz, .int .i64 sl, .int .i64 of, .int .i64 gp, .int .i64 lt, .int .i64 ea, .bool (d == 1)]) ∧ Below w.heap.size w w' := by
 refine enter (fn := Tryz.f58) (c := B58) [.agg [.io .i64 g, .io .i64 s, .io .i64 k, .io .i64 sz, .io .i64 sl, .io .i64 of, .io .i64 gp, .io .i64 lt, .io .i64 ea, .io .i64 d]] Tryz.func58 rfl rfl ?_
 refine At.to noF_stable noF_fewer 20 400 [2] 2 ⟨.exit .ret, [], [(2, .lp 1 0)], [([.io .i64 g, .io .i64 s, .io .i64 k, .io .i64 sz, .io .i64 sl, .io .i64 of, .io .i64 gp, .io .i64 lt, .io .i64 ea, .io .i64 d], 105), ([.io .i64 g, .io .i64 s, .io .i64 k, .io .i64 sz, .io .i64 sl, .io .i64 of, .io .i64 gp, .io .i64 lt, .io .i64 ea, .bo (d == 1)], 25)]⟩ (by kernel_rfl) (by kernel_rfl) ?_
 refine zE (.agg [.io .i64 g, .io .i64 s, .io .i64 k, .io .i64 sz, .io .i64 sl, .io .i64 of, .io .i64 gp, .io .i64 lt, .io .i64 ea, .bo (d == 1)]) ?_
 intro ρ w9 hw9 _
 exact ⟨rfl, hw9.below⟩
end Go.Proofs.YthfpekhpeiebjaaGreatDoor
end
section

namespace Go.Proofs.YthfpekhpeiebjaaGreatDoor
open Go.RowKit Go.Sx
def wordsL : List SV := [.v (.string ⟨#[103, 114, 111, 117, 112, 115]⟩), .v (.string ⟨#[115, 111, 117, 114, 99, 101, 115]⟩), .v (.string ⟨#[107, 105, 110, 100]⟩), .v (.string ⟨#[115, 105, 122, 101]⟩), .v (.string ⟨#[115, 108, 105, 100, 101]⟩), .v (.string ⟨#[111, 102, 102, 115, 101, 116]⟩), .v (.string ⟨#[103, 97, 112]⟩), .v (.string ⟨#[108, 97, 116, 101]⟩), .v (.string ⟨#[101, 97, 114, 108, 121]⟩), .v (.string ⟨#[100, 105, 115, 99, 97, 114, 100]⟩)]
theorem fields_words (w : World) (htab : Lib.TabIs Tryz.prog w "strings.asciiSpace" .u8 Lib.asciiSpaceTab) : Calls Tryz.prog 78 #[.string ⟨#[103, 114, 111, 117, 112, 115, 32, 115, 111, 117, 114, 99, 101, 115, 32, 107, 105, 110, 100, 32, 115, 105, 122, 101, 32, 115, 108, 105, 100, 101, 32, 111, 102, 102, 115, 101, 116, 32, 103, 97, 112, 32, 108, 97, 116, 101, 32, 101, 97, 114, 108, 121, 32, 100, 105, 115, 99, 97, 114, 100]⟩] w fun e w' => ∃ ρc, e = .returned ((SV.ls 0 0 10 10).den ρc) ∧ WInv w.heap.size w ρc [(wordsL, 9)] w' := by
 refine (Tryz.strings_Fields_laid ⟨#[103, 114, 111, 117, 112, 115, 32, 115, 111, 117, 114, 99, 101, 115, 32, 107, 105, 110, 100, 32, 115, 105, 122, 101, 32, 115, 108, 105, 100, 101, 32, 111, 102, 102, 115, 101, 116, 32, 103, 97, 112, 32, 108, 97, 116, 101, 32, 101, 97, 114, 108, 121, 32, 100, 105, 115, 99, 97, 114, 100]⟩ w (by decide) (by
  intro j b hj
  have : ∀ b ∈ ([103, 114, 111, 117, 112, 115, 32, 115, 111, 117, 114, 99, 101, 115, 32, 107, 105, 110, 100, 32, 115, 105, 122, 101, 32, 115, 108, 105, 100, 101, 32, 111, 102, 102, 115, 101, 116, 32, 103, 97, 112, 32, 108, 97, 116, 101, 32, 101, 97, 114, 108, 121, 32, 100, 105, 115, 99, 97, 114, 100] : List UInt8), b.toNat < 128 := by decide
  exact this b (List.mem_of_getElem? hj)) htab).mono ?_
 rintro e w' ⟨rfl, rfl⟩
 refine ⟨[w.heap.size], by kernel_rfl, (Below.refl _ _).alloc (Nat.le_refl _) _, by rw [show (w.alloc _).heap = w.heap.push _ from rfl]; simp, rfl, by simp, fun b hb => ?_, fun i c t hi => ?_⟩
 ·simp at hb
  subst hb
  exact ⟨Nat.le_refl _, by rw [show (w.alloc _).heap = w.heap.push _ from rfl]; simp⟩
 cases i with
 | zero =>
  simp only [List.getElem?_cons_zero, Option.some.injEq, Prod.mk.injEq] at hi
  obtain ⟨rfl, rfl⟩ := hi
  have h1 : ((Lib.fields ([103, 114, 111, 117, 112, 115, 32, 115, 111, 117, 114, 99, 101, 115, 32, 107, 105, 110, 100, 32, 115, 105, 122, 101, 32, 115, 108, 105, 100, 101, 32, 111, 102, 102, 115, 101, 116, 32, 103, 97, 112, 32, 108, 97, 116, 101, 32, 101, 97, 114, 108, 121, 32, 100, 105, 115, 99, 97, 114, 100] : List UInt8)).map fun l => Value.string ⟨l.toArray⟩).toArray = (SV.denL [w.heap.size] wordsL).toArray := by kernel_rfl
  rw [show (w.alloc _).heap = w.heap.push _ from rfl]
  simp only [nth, List.getD, List.getElem?_cons_zero, Option.getD_some, Array.getElem?_push_size]
  exact congrArg (fun x => some (Obj.cells x 9 (0, 0))) h1
 | succ i => simp at hi
noncomputable def B53 : Code := (Tryz.f53.body).getD .skip
noncomputable def sq53 (p : List Nat) : Go.Sx.K := .seq (sub B53 p)
set_option maxHeartbeats 4000000 in
set_option maxRecDepth 100000 in
theorem words_any (w : World) (htab : Lib.TabIs Tryz.prog w "strings.asciiSpace" .u8 Lib.asciiSpaceTab) : Calls Tryz.prog 53 #[] w fun e w' => ∃ ρc, e = .returned ((SV.ls 0 0 10 10).den ρc) ∧ WInv w.heap.size w ρc [(wordsL, 9)] w' := by
 refine enter (fn := Tryz.f53) (c := B53) [] Tryz.func53 rfl rfl ?_
 refine At.to (noF_stable) (noF_fewer) 0 100 [] 0 ⟨pops B53 [1, 0] 0, [(sq53 [1, 1])], [], []⟩ (by kernel_rfl) (by kernel_rfl) ?_
 refine At.newcall 78 [.v (.string ⟨#[103, 114, 111, 117, 112, 115, 32, 115, 111, 117, 114, 99, 101, 115, 32, 107, 105, 110, 100, 32, 115, 105, 122, 101, 32, 115, 108, 105, 100, 101, 32, 111, 102, 102, 115, 101, 116, 32, 103, 97, 112, 32, 108, 97, 116, 101, 32, 101, 97, 114, 108, 121, 32, 100, 105, 115, 99, 97, 114, 100]⟩)] (.ls 0 0 10 10) [(wordsL, 9)] noF_stable (by kernel_rfl) (by kernel_rfl) (by kernel_rfl) (by kernel_rfl) (by kernel_rfl) (by kernel_rfl) (by kernel_rfl) (by kernel_rfl) (fun ρ w1 hm _ => fields_words w1 (tab_below htab hm.below rfl)) ?_
 refine At.to (noF_stable) (noF_fewer) 0 100 [0] 1 ⟨.exit .ret, [], [(0, .ls 0 0 10 10)], [([.v (.string (ByteArray.mk #[103, 114, 111, 117, 112, 115])), .v (.string (ByteArray.mk #[115, 111, 117, 114, 99, 101, 115])), .v (.string (ByteArray.mk #[107, 105, 110, 100])), .v (.string (ByteArray.mk #[115, 105, 122, 101])), .v (.string (ByteArray.mk #[115, 108, 105, 100, 101])), .v (.string (ByteArray.mk #[111, 102, 102, 115, 101, 116])), .v (.string (ByteArray.mk #[103, 97, 112])), .v (.string (ByteArray.mk #[108, 97, 116, 101])), .v (.string (ByteArray.mk #[101, 97, 114, 108, 121])), .v (.string (ByteArray.mk #[100, 105, 115, 99, 97, 114, 100]))], 9)]⟩ (by kernel_rfl) (by kernel_rfl) ?_
 refine zE (.ls 0 0 10 10) ?_
 intro ρ w9 hm _
 exact ⟨ρ, rfl, hm⟩
noncomputable def B55 : Code := (Tryz.f55.body).getD .skip
noncomputable def sq55 (p : List Nat) : Go.Sx.K := .seq (sub B55 p)
set_option maxHeartbeats 4000000 in
set_option maxRecDepth 100000 in
theorem kinds_any (w : World) : Calls Tryz.prog 55 #[] w fun e w' => ∃ ρc, e = .returned ((SV.ls 0 0 4 4).den ρc) ∧ WInv w.heap.size w ρc [([.v (.string ⟨#[]⟩), .v (.string ⟨#[116, 117, 109, 98, 108, 105, 110, 103]⟩), .v (.string ⟨#[115, 108, 105, 100, 105, 110, 103]⟩), .v (.string ⟨#[115, 101, 115, 115, 105, 111, 110]⟩)], 9)] w' := by
 refine enter (fn := Tryz.f55) (c := B55) [] Tryz.func55 rfl rfl ?_
 refine At.to (noF_stable) (noF_fewer) 0 100 [0] 1 ⟨.exit .ret, [], [(0, .ls 0 0 4 4)], [([.v (.string (ByteArray.mk #[])), .v (.string (ByteArray.mk #[116, 117, 109, 98, 108, 105, 110, 103])), .v (.string (ByteArray.mk #[115, 108, 105, 100, 105, 110, 103])), .v (.string (ByteArray.mk #[115, 101, 115, 115, 105, 111, 110]))], 9)]⟩ (by kernel_rfl) (by kernel_rfl) ?_
 refine zE (.ls 0 0 4 4) ?_
 intro ρ w9 hm _
 exact ⟨ρ, rfl, hm⟩
noncomputable def B56 : Code := (Tryz.f56.body).getD .skip
noncomputable def sq56 (p : List Nat) : Go.Sx.K := .seq (sub B56 p)
set_option maxHeartbeats 4000000 in
set_option maxRecDepth 100000 in
theorem says_any (w : World) : Calls Tryz.prog 56 #[] w fun e w' => ∃ ρc, e = .returned ((SV.ls 0 0 2 2).den ρc) ∧ WInv w.heap.size w ρc [([.v (.string ⟨#[110, 111]⟩), .v (.string ⟨#[121, 101, 115]⟩)], 9)] w' := by
 refine enter (fn := Tryz.f56) (c := B56) [] Tryz.func56 rfl rfl ?_
 refine At.to (noF_stable) (noF_fewer) 0 100 [0] 1 ⟨.exit .ret, [], [(0, .ls 0 0 2 2)], [([.v (.string (ByteArray.mk #[110, 111])), .v (.string (ByteArray.mk #[121, 101, 115]))], 9)]⟩ (by kernel_rfl) (by kernel_rfl) ?_
 refine zE (.ls 0 0 2 2) ?_
 intro ρ w9 hm _
 exact ⟨ρ, rfl, hm⟩
noncomputable def B36 : Code := (Tryz.f36.body).getD .skip
noncomputable def sq36 (p : List Nat) : Go.Sx.K := .seq (sub B36 p)
end Go.Proofs.YthfpekhpeiebjaaGreatDoor
end
section

namespace Go.Proofs.YthfpekhpeiebjaaGreatDoor
open Go.RowKit Go.Sx
theorem wrong_eq (g s k sz sl of gp lt ea : Int) : wrongF g s k sz sl of gp lt ea = wrongR g s k sz sl of gp lt ea := by
 simp only [wrongF, wrongR, fldB]
 by_cases hk : 1 ≤ k ∧ k ≤ 3
 ·have h3 : k = 1 ∨ k = 2 ∨ k = 3 := by omega
  rcases h3 with rfl | rfl | rfl
  ·rfl
  ·have e : ∀ (a b c : Bool), (bif (a && b) then !c else true) = !(a && b && c) := by decide
   simp only [e]
   rfl
  rfl
 have e1 : (decide (1 ≤ k) && decide (k ≤ 3)) = false := by
  by_cases h : 1 ≤ k
  ·have : ¬ k ≤ 3 := fun h' => hk ⟨h, h'⟩
   simp [h, this]
  simp [h]
 have e2 : ((k == 1) || (k == 2) || (k == 3)) = false := by
  have h1 : k ≠ 1 := by omega
  have h2 : k ≠ 2 := by omega
  have h3 : k ≠ 3 := by omega
  simp [h1, h2, h3]
 rw [e1, e2]
 rfl
end Go.Proofs.YthfpekhpeiebjaaGreatDoor
end
section

namespace Go.Proofs.YthfpekhpeiebjaaGreatDoor
open Go.Lib
theorem pcs_join : ∀ (ws : List (List UInt8)) (w : List UInt8), (∀ p ∈ w :: ws, ∀ b ∈ p, b ≠ 32) → pcs [] (Lib.join (w :: ws) [32]) = w :: ws
 | [], w, h => by
  rw [join_one]
  exact pcs_none w (h w (by simp))
 | v :: ws, w, h => by
  have ih := pcs_join ws v (fun p hp => h p (by simp [List.mem_cons.1 hp]))
  rw [join_cons] at ih ⊢
  simp only [joinTail, List.map_cons, List.flatten_cons, List.append_assoc, List.cons_append, List.nil_append] at ih ⊢
  rw [pcs_hit w _ (h w (by simp)), ih]
theorem dec_plain (u : Nat) : ∀ b ∈ decDigits u, b ≠ 32 := by
 induction u using Nat.strongRecOn with
 | _ u ih =>
  intro b hb
  by_cases h : u < 10
  ·rw [decDigits_one h] at hb
   simp only [List.mem_singleton] at hb
   subst hb
   intro e
   have := congrArg UInt8.toNat e
   simp [UInt8.toNat_ofNat'] at this
   omega
  rw [decDigits, dif_neg h, List.mem_append] at hb
  rcases hb with hb | hb
  ·exact ih (u / 10) (by omega) b hb
  simp only [List.mem_singleton] at hb
  subst hb
  intro e
  have := congrArg UInt8.toNat e
  simp [UInt8.toNat_ofNat'] at this
  omega
theorem itoa_plain {n : Int} (h0 : 0 ≤ n) : ∀ b ∈ itoa n, b ≠ 32 := by
 unfold itoa
 rw [if_neg (by omega)]
 exact dec_plain _
end Go.Proofs.YthfpekhpeiebjaaGreatDoor
end
section
namespace Go.Proofs.YthfpekhpeiebjaaGreatDoor
open Go.RowKit Go.Sx
def wordsW : List (List UInt8) := [[103, 114, 111, 117, 112, 115], [115, 111, 117, 114, 99, 101, 115], [107, 105, 110, 100], [115, 105, 122, 101], [115, 108, 105, 100, 101], [111, 102, 102, 115, 101, 116], [103, 97, 112], [108, 97, 116, 101], [101, 97, 114, 108, 121], [100, 105, 115, 99, 97, 114, 100]]
def weaveL : List (List UInt8) → List (List UInt8) → List (List UInt8)
 | a :: l, b :: r => a :: b :: weaveL l r
 | _, _ => []
def kindW (k : Int) : List UInt8 := if k = 1 then [116, 117, 109, 98, 108, 105, 110, 103] else if k = 2 then [115, 108, 105, 100, 105, 110, 103] else [115, 101, 115, 115, 105, 111, 110]
def saysW (d : Bool) : List UInt8 := bif d then [121, 101, 115] else [110, 111]
def valsL (g s k sz sl of gp lt ea : Int) (d : Bool) : List (List UInt8) := [Lib.itoa g, Lib.itoa s, kindW k, Lib.itoa sz, Lib.itoa sl, Lib.itoa of, Lib.itoa gp, Lib.itoa lt, Lib.itoa ea, saysW d]
def textW (g s k sz sl of gp lt ea : Int) (d : Bool) : List UInt8 := Lib.join (weaveL wordsW (valsL g s k sz sl of gp lt ea d)) [32]
theorem valid_of {g s k sz sl of gp lt ea : Int} (h : wrongR g s k sz sl of gp lt ea = 0) :
  (1 ≤ g ∧ g ≤ 32768) ∧ (1 ≤ s ∧ s ≤ 64) ∧ (k = 1 ∨ k = 2 ∨ k = 3) ∧ (0 ≤ sz ∧ sz ≤ 1099511627776) ∧ (0 ≤ sl ∧ sl ≤ 1099511627776) ∧ (0 ≤ of ∧ of ≤ 1099511627776) ∧ (0 ≤ gp ∧ gp ≤ 1099511627776) ∧ (0 ≤ lt ∧ lt ≤ 1099511627776) ∧ (0 ≤ ea ∧ ea ≤ 2147483647) := by
 unfold wrongR at h
 cases h1 : fldB g s k sz sl of gp lt ea 1 with
 | false => simp [h1] at h
 | true =>
 cases h2 : fldB g s k sz sl of gp lt ea 2 with
 | false => simp [h1, h2] at h
 | true =>
 cases h3 : fldB g s k sz sl of gp lt ea 3 with
 | false => simp [h1, h2, h3] at h
 | true =>
 cases h4 : fldB g s k sz sl of gp lt ea 4 with
 | false => simp [h1, h2, h3, h4] at h
 | true =>
 cases h5 : fldB g s k sz sl of gp lt ea 5 with
 | false => simp [h1, h2, h3, h4, h5] at h
 | true =>
 cases h6 : fldB g s k sz sl of gp lt ea 6 with
 | false => simp [h1, h2, h3, h4, h5, h6] at h
 | true =>
 cases h7 : fldB g s k sz sl of gp lt ea 7 with
 | false => simp [h1, h2, h3, h4, h5, h6, h7] at h
 | true =>
 cases h8 : fldB g s k sz sl of gp lt ea 8 with
 | false => simp [h1, h2, h3, h4, h5, h6, h7, h8] at h
 | true =>
 cases h9 : fldB g s k sz sl of gp lt ea 9 with
 | false => simp [h1, h2, h3, h4, h5, h6, h7, h8, h9] at h
 | true =>
 clear h
 simp only [fldB, Bool.and_eq_true, Bool.or_eq_true, decide_eq_true_eq, beq_iff_eq] at h1 h2 h3 h8 h9
 refine ⟨h1, h2, by omega, ?_⟩
 rcases (by omega : k = 1 ∨ k = 2 ∨ k = 3) with rfl | rfl | rfl
 ·simp [fldB] at h4 h5 h6 h7
  rw [wrap63 (by omega) (by omega)] at h6
  omega
 ·simp [fldB] at h4 h5 h6 h7
  rw [wrap63 (by omega) (by omega)] at h5 h6
  omega
 simp [fldB] at h4 h5 h6 h7
 omega
theorem kindW_short (k : Int) : (kindW k).length ≤ 21 := by
 unfold kindW
 split
 ·decide
 split <;> decide
theorem saysW_short (d : Bool) : (saysW d).length ≤ 21 := by cases d <;> decide
section
variable {Q : Exit → Act → World → Prop} {N : Nat} {w0 : World} {ntm : Nat} {F : List Nat → World → Prop}
end
end Go.Proofs.YthfpekhpeiebjaaGreatDoor
end
