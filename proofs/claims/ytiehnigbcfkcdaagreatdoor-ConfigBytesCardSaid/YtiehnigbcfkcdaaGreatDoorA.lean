import Derived.Test.YtiehnigbcfkcdaaGreatDoorRows
import Derived.Test.YtiehnigbcfkcdaaGreatDoorSxJ
import Derived.Test.YtiehnigbcfkcdaaGreatDoorWrong
set_option linter.unusedSimpArgs false
set_option linter.unusedVariables false
namespace Go.Proofs.YtiehnigbcfkcdaaGreatDoor
open Go.RowKit Go.Sx

/-- The reference's answer on field n. -/
def fldB (g s k sz sl of gp lt ea : Int) : Int → Bool
  | 1 => decide (1 ≤ g) && decide (g ≤ 32768)
  | 2 => decide (1 ≤ s) && decide (s ≤ 64)
  | 3 => (k == 1) || (k == 2) || (k == 3)
  | 4 => bif k == 3 then sz == 0 else decide (1 ≤ sz) && decide (sz ≤ 1099511627776)
  | 5 => bif k != 2 then sl == 0 else (decide (1 ≤ sl) && decide (sl ≤ sz)) && decide (sz ≤ IntKind.i64.wrap (64 * sl))
  | 6 => bif k == 1 then decide (0 ≤ of) && decide (of ≤ IntKind.i64.wrap (sz - 1)) else bif k == 2 then decide (0 ≤ of) && decide (of ≤ IntKind.i64.wrap (sl - 1)) else of == 0
  | 7 => bif k != 3 then gp == 0 else decide (1 ≤ gp) && decide (gp ≤ 1099511627776)
  | 8 => decide (0 ≤ lt) && decide (lt ≤ 1099511627776)
  | _ => decide (0 ≤ ea) && decide (ea ≤ 2147483647)

noncomputable def B29 : Code := (Tryz.f29.body).getD .skip
set_option maxHeartbeats 4000000 in
set_option maxRecDepth 100000 in
theorem check_any (g s k sz sl of gp lt ea : Int) (d : Bool) (w : World) : Calls Tryz.prog 29 #[.agg #[.int .i64 g, .int .i64 s, .int .i64 k, .int .i64 sz, .int .i64 sl, .int .i64 of, .int .i64 gp, .int .i64 lt, .int .i64 ea, .bool d]] w fun e w' => e = .returned (.int .i64 (jobE (wrongF g s k sz sl of gp lt ea))) ∧ Below w.heap.size w w' := by
  refine enter (fn := Tryz.f29) (c := B29) [.agg (cfgL g s k sz sl of gp lt ea d)] Tryz.func29 rfl rfl ?_
  refine At.to noF_stable noF_fewer 20 400 [6] 0 ⟨pops B29 [1, 0] 1, [.seq (sub B29 [1, 1])], [(6, .agg (cfgL g s k sz sl of gp lt ea d))], []⟩ (by kernel_rfl) (by kernel_rfl) ?_
  refine At.call noF_stable 28 [.agg (cfgL g s k sz sl of gp lt ea d)] (.tup [.io .i64 (wrongF g s k sz sl of gp lt ea), .io .i64 (jobE (wrongF g s k sz sl of gp lt ea))]) (by kernel_rfl) (by kernel_rfl) (by kernel_rfl) (fun _ _ w _ _ => wrong_any (g) (s) (k) (sz) (sl) (of) (gp) (lt) (ea) (d) w) ?_
  refine At.to noF_stable noF_fewer 20 400 [2] 0 ⟨.exit .ret, [], [(2, .io .i64 (jobE (wrongF g s k sz sl of gp lt ea)))], []⟩ (by kernel_rfl) (by kernel_rfl) ?_
  refine At.ret (by kernel_rfl) (.io .i64 (jobE (wrongF g s k sz sl of gp lt ea))) (by kernel_rfl) ?_
  intro ρ w9 hw9 _
  exact ⟨rfl, hw9.below⟩

noncomputable def B59 : Code := (Tryz.f59.body).getD .skip
set_option maxHeartbeats 4000000 in
set_option maxRecDepth 100000 in
theorem rwithin_any (x lo hi : Int) (w : World) : Calls Tryz.prog 59 #[.int .i64 x, .int .i64 lo, .int .i64 hi] w fun e w' => e = .returned (.bool (decide (lo ≤ x) && decide (x ≤ hi))) ∧ Below w.heap.size w w' := by
  refine enter (fn := Tryz.f59) (c := B59) [.io .i64 x, .io .i64 lo, .io .i64 hi] Tryz.func59 rfl rfl ?_
  refine At.to noF_stable noF_fewer 20 400 [0, 2, 10] 0 ⟨pops B59 [1, 0] 4, [.seq (sub B59 [1, 1])], [(0, .io .i64 x), (2, .io .i64 hi), (10, .bo (decide (x ≥ lo)))], []⟩ (by kernel_rfl) (by kernel_rfl) ?_
  rcases Bool.eq_false_or_eq_true (decide (x ≥ lo)) with b0 | b0
  · refine At.res 10 (decide (x ≥ lo)) true (by kernel_rfl) b0 ?_
    refine At.to noF_stable noF_fewer 20 400 [6] 0 ⟨.exit .ret, [], [(6, .bo (decide (x ≤ hi)))], []⟩ (by kernel_rfl) (by kernel_rfl) ?_
    refine At.ret (by kernel_rfl) (.bo (decide (x ≤ hi))) (by kernel_rfl) ?_
    intro ρ w9 hw9 _
    exact ⟨congrArg (fun b => Ending.returned (.bool b)) (by simp only [ge_iff_le] at *; simp only [*, Bool.true_and, Bool.false_and]), hw9.below⟩
  · refine At.res 10 (decide (x ≥ lo)) false (by kernel_rfl) b0 ?_
    refine At.to noF_stable noF_fewer 20 400 [6] 0 ⟨.exit .ret, [], [(6, .v (.bool false))], []⟩ (by kernel_rfl) (by kernel_rfl) ?_
    refine At.ret (by kernel_rfl) (.v (.bool false)) (by kernel_rfl) ?_
    intro ρ w9 hw9 _
    exact ⟨congrArg (fun b => Ending.returned (.bool b)) (by simp only [ge_iff_le] at *; simp only [*, Bool.true_and, Bool.false_and]), hw9.below⟩

noncomputable def B37 : Code := (Tryz.f37.body).getD .skip
set_option maxHeartbeats 4000000 in
set_option maxRecDepth 100000 in
theorem field_1 (g s k sz sl of gp lt ea : Int) (d : Bool) (w : World) : Calls Tryz.prog 37 #[.agg #[.int .i64 g, .int .i64 s, .int .i64 k, .int .i64 sz, .int .i64 sl, .int .i64 of, .int .i64 gp, .int .i64 lt, .int .i64 ea, .bool d], .int .i64 1] w fun e w' => e = .returned (.bool (fldB g s k sz sl of gp lt ea 1)) ∧ Below w.heap.size w w' := by
  refine enter (fn := Tryz.f37) (c := B37) [.agg (cfgL g s k sz sl of gp lt ea d), .v (.int .i64 1)] Tryz.func37 rfl rfl ?_
  refine At.to noF_stable noF_fewer 20 400 [9] 0 ⟨pops B37 [1, 0, 1, 4, 1, 2, 0] 2, [.seq (sub B37 [1, 0, 1, 4, 1, 2, 1]), .block 0, .seq (sub B37 [1, 1])], [(9, .io .i64 g)], []⟩ (by kernel_rfl) (by kernel_rfl) ?_
  refine At.call noF_stable 59 [.io .i64 g, .v (.int .i64 1), .v (.int .i64 32768)] (.bo (decide (1 ≤ g) && decide (g ≤ 32768))) (by kernel_rfl) (by kernel_rfl) (by kernel_rfl) (fun _ _ w _ _ => rwithin_any (g) (1) (32768) w) ?_
  refine At.to noF_stable noF_fewer 20 400 [4] 0 ⟨.exit .ret, [], [(4, .bo (decide (1 ≤ g) && decide (g ≤ 32768)))], []⟩ (by kernel_rfl) (by kernel_rfl) ?_
  refine At.ret (by kernel_rfl) (.bo (decide (1 ≤ g) && decide (g ≤ 32768))) (by kernel_rfl) ?_
  intro ρ w9 hw9 _
  exact ⟨congrArg (fun b => Ending.returned (.bool b)) (by simp only [fldB, *, cond_true, cond_false, Bool.true_and, Bool.false_and, Bool.true_or, Bool.false_or, Bool.or_true, Bool.or_false, Bool.and_true, Bool.and_false]), hw9.below⟩

set_option maxHeartbeats 4000000 in
set_option maxRecDepth 100000 in
theorem field_2 (g s k sz sl of gp lt ea : Int) (d : Bool) (w : World) : Calls Tryz.prog 37 #[.agg #[.int .i64 g, .int .i64 s, .int .i64 k, .int .i64 sz, .int .i64 sl, .int .i64 of, .int .i64 gp, .int .i64 lt, .int .i64 ea, .bool d], .int .i64 2] w fun e w' => e = .returned (.bool (fldB g s k sz sl of gp lt ea 2)) ∧ Below w.heap.size w w' := by
  refine enter (fn := Tryz.f37) (c := B37) [.agg (cfgL g s k sz sl of gp lt ea d), .v (.int .i64 2)] Tryz.func37 rfl rfl ?_
  refine At.to noF_stable noF_fewer 20 400 [14] 0 ⟨pops B37 [1, 0, 1, 4, 1, 3, 1, 2, 0] 2, [.seq (sub B37 [1, 0, 1, 4, 1, 2, 1]), .block 0, .seq (sub B37 [1, 1])], [(14, .io .i64 s)], []⟩ (by kernel_rfl) (by kernel_rfl) ?_
  refine At.call noF_stable 59 [.io .i64 s, .v (.int .i64 1), .v (.int .i64 64)] (.bo (decide (1 ≤ s) && decide (s ≤ 64))) (by kernel_rfl) (by kernel_rfl) (by kernel_rfl) (fun _ _ w _ _ => rwithin_any (s) (1) (64) w) ?_
  refine At.to noF_stable noF_fewer 20 400 [4] 0 ⟨.exit .ret, [], [(4, .bo (decide (1 ≤ s) && decide (s ≤ 64)))], []⟩ (by kernel_rfl) (by kernel_rfl) ?_
  refine At.ret (by kernel_rfl) (.bo (decide (1 ≤ s) && decide (s ≤ 64))) (by kernel_rfl) ?_
  intro ρ w9 hw9 _
  exact ⟨congrArg (fun b => Ending.returned (.bool b)) (by simp only [fldB, *, cond_true, cond_false, Bool.true_and, Bool.false_and, Bool.true_or, Bool.false_or, Bool.or_true, Bool.or_false, Bool.and_true, Bool.and_false]), hw9.below⟩

set_option maxHeartbeats 4000000 in
set_option maxRecDepth 100000 in
theorem field_3 (g s k sz sl of gp lt ea : Int) (d : Bool) (w : World) : Calls Tryz.prog 37 #[.agg #[.int .i64 g, .int .i64 s, .int .i64 k, .int .i64 sz, .int .i64 sl, .int .i64 of, .int .i64 gp, .int .i64 lt, .int .i64 ea, .bool d], .int .i64 3] w fun e w' => e = .returned (.bool (fldB g s k sz sl of gp lt ea 3)) ∧ Below w.heap.size w w' := by
  refine enter (fn := Tryz.f37) (c := B37) [.agg (cfgL g s k sz sl of gp lt ea d), .v (.int .i64 3)] Tryz.func37 rfl rfl ?_
  refine At.to noF_stable noF_fewer 20 400 [2, 21] 1 ⟨pops B37 [1, 0, 1, 4, 1, 3, 1, 3, 1, 2, 0] 4, [.seq (sub B37 [1, 0, 1, 4, 1, 2, 1]), .block 0, .seq (sub B37 [1, 1])], [(2, .lp 0 0), (21, .bo (k == 1))], [((cfgL g s k sz sl of gp lt ea d), 24)]⟩ (by kernel_rfl) (by kernel_rfl) ?_
  rcases Bool.eq_false_or_eq_true (k == 1) with b0 | b0
  · refine At.res 21 (k == 1) true (by kernel_rfl) b0 ?_
    refine At.to noF_stable noF_fewer 20 400 [4] 0 ⟨.exit .ret, [], [(4, .v (.bool true))], []⟩ (by kernel_rfl) (by kernel_rfl) ?_
    refine At.ret (by kernel_rfl) (.v (.bool true)) (by kernel_rfl) ?_
    intro ρ w9 hw9 _
    exact ⟨congrArg (fun b => Ending.returned (.bool b)) (by simp only [fldB, *, cond_true, cond_false, Bool.true_and, Bool.false_and, Bool.true_or, Bool.false_or, Bool.or_true, Bool.or_false, Bool.and_true, Bool.and_false]), hw9.below⟩
  · refine At.res 21 (k == 1) false (by kernel_rfl) b0 ?_
    refine At.to noF_stable noF_fewer 20 400 [2, 26] 1 ⟨pops B37 [1, 0, 1, 4, 1, 3, 1, 3, 1, 2, 0] 9, [.seq (sub B37 [1, 0, 1, 4, 1, 2, 1]), .block 0, .seq (sub B37 [1, 1])], [(2, .lp 0 0), (26, .bo (k == 2))], [((cfgL g s k sz sl of gp lt ea d), 24)]⟩ (by kernel_rfl) (by kernel_rfl) ?_
    rcases Bool.eq_false_or_eq_true (k == 2) with b1 | b1
    · refine At.res 26 (k == 2) true (by kernel_rfl) b1 ?_
      refine At.to noF_stable noF_fewer 20 400 [4] 0 ⟨.exit .ret, [], [(4, .v (.bool true))], []⟩ (by kernel_rfl) (by kernel_rfl) ?_
      refine At.ret (by kernel_rfl) (.v (.bool true)) (by kernel_rfl) ?_
      intro ρ w9 hw9 _
      exact ⟨congrArg (fun b => Ending.returned (.bool b)) (by simp only [fldB, *, cond_true, cond_false, Bool.true_and, Bool.false_and, Bool.true_or, Bool.false_or, Bool.or_true, Bool.or_false, Bool.and_true, Bool.and_false]), hw9.below⟩
    · refine At.res 26 (k == 2) false (by kernel_rfl) b1 ?_
      refine At.to noF_stable noF_fewer 20 400 [4] 0 ⟨.exit .ret, [], [(4, .bo (k == 3))], []⟩ (by kernel_rfl) (by kernel_rfl) ?_
      refine At.ret (by kernel_rfl) (.bo (k == 3)) (by kernel_rfl) ?_
      intro ρ w9 hw9 _
      exact ⟨congrArg (fun b => Ending.returned (.bool b)) (by simp only [fldB, *, cond_true, cond_false, Bool.true_and, Bool.false_and, Bool.true_or, Bool.false_or, Bool.or_true, Bool.or_false, Bool.and_true, Bool.and_false]), hw9.below⟩

set_option maxHeartbeats 4000000 in
set_option maxRecDepth 100000 in
theorem field_4 (g s k sz sl of gp lt ea : Int) (d : Bool) (w : World) : Calls Tryz.prog 37 #[.agg #[.int .i64 g, .int .i64 s, .int .i64 k, .int .i64 sz, .int .i64 sl, .int .i64 of, .int .i64 gp, .int .i64 lt, .int .i64 ea, .bool d], .int .i64 4] w fun e w' => e = .returned (.bool (fldB g s k sz sl of gp lt ea 4)) ∧ Below w.heap.size w w' := by
  refine enter (fn := Tryz.f37) (c := B37) [.agg (cfgL g s k sz sl of gp lt ea d), .v (.int .i64 4)] Tryz.func37 rfl rfl ?_
  refine At.to noF_stable noF_fewer 20 400 [2, 35] 1 ⟨.code (sub B37 [1, 0, 1, 4, 1, 3, 1, 3, 1, 3, 1, 2, 0, 1]), [.seq (sub B37 [1, 0, 1, 4, 1, 3, 1, 3, 1, 3, 1, 2, 1]), .block 0, .seq (sub B37 [1, 1])], [(2, .lp 0 0), (35, .bo (k == 3))], [((cfgL g s k sz sl of gp lt ea d), 24)]⟩ (by kernel_rfl) (by kernel_rfl) ?_
  rcases Bool.eq_false_or_eq_true (k == 3) with b0 | b0
  · refine At.res 35 (k == 3) true (by kernel_rfl) b0 ?_
    refine At.to noF_stable noF_fewer 20 400 [4] 0 ⟨.exit .ret, [], [(4, .bo (sz == 0))], []⟩ (by kernel_rfl) (by kernel_rfl) ?_
    refine At.ret (by kernel_rfl) (.bo (sz == 0)) (by kernel_rfl) ?_
    intro ρ w9 hw9 _
    exact ⟨congrArg (fun b => Ending.returned (.bool b)) (by simp only [fldB, *, cond_true, cond_false, Bool.true_and, Bool.false_and, Bool.true_or, Bool.false_or, Bool.or_true, Bool.or_false, Bool.and_true, Bool.and_false]), hw9.below⟩
  · refine At.res 35 (k == 3) false (by kernel_rfl) b0 ?_
    refine At.to noF_stable noF_fewer 20 400 [40] 0 ⟨pops B37 [1, 0, 1, 4, 1, 3, 1, 3, 1, 3, 1, 2, 1, 0] 2, [.seq (sub B37 [1, 0, 1, 4, 1, 2, 1]), .block 0, .seq (sub B37 [1, 1])], [(40, .io .i64 sz)], []⟩ (by kernel_rfl) (by kernel_rfl) ?_
    refine At.call noF_stable 59 [.io .i64 sz, .v (.int .i64 1), .v (.int .i64 1099511627776)] (.bo (decide (1 ≤ sz) && decide (sz ≤ 1099511627776))) (by kernel_rfl) (by kernel_rfl) (by kernel_rfl) (fun _ _ w _ _ => rwithin_any (sz) (1) (1099511627776) w) ?_
    refine At.to noF_stable noF_fewer 20 400 [4] 0 ⟨.exit .ret, [], [(4, .bo (decide (1 ≤ sz) && decide (sz ≤ 1099511627776)))], []⟩ (by kernel_rfl) (by kernel_rfl) ?_
    refine At.ret (by kernel_rfl) (.bo (decide (1 ≤ sz) && decide (sz ≤ 1099511627776))) (by kernel_rfl) ?_
    intro ρ w9 hw9 _
    exact ⟨congrArg (fun b => Ending.returned (.bool b)) (by simp only [fldB, *, cond_true, cond_false, Bool.true_and, Bool.false_and, Bool.true_or, Bool.false_or, Bool.or_true, Bool.or_false, Bool.and_true, Bool.and_false]), hw9.below⟩

set_option maxHeartbeats 4000000 in
set_option maxRecDepth 100000 in
theorem field_5 (g s k sz sl of gp lt ea : Int) (d : Bool) (w : World) : Calls Tryz.prog 37 #[.agg #[.int .i64 g, .int .i64 s, .int .i64 k, .int .i64 sz, .int .i64 sl, .int .i64 of, .int .i64 gp, .int .i64 lt, .int .i64 ea, .bool d], .int .i64 5] w fun e w' => e = .returned (.bool (fldB g s k sz sl of gp lt ea 5)) ∧ Below w.heap.size w w' := by
  refine enter (fn := Tryz.f37) (c := B37) [.agg (cfgL g s k sz sl of gp lt ea d), .v (.int .i64 5)] Tryz.func37 rfl rfl ?_
  refine At.to noF_stable noF_fewer 20 400 [2, 46] 1 ⟨.code (sub B37 [1, 0, 1, 4, 1, 3, 1, 3, 1, 3, 1, 3, 1, 2, 0, 1]), [.seq (sub B37 [1, 0, 1, 4, 1, 3, 1, 3, 1, 3, 1, 3, 1, 2, 1]), .block 0, .seq (sub B37 [1, 1])], [(2, .lp 0 0), (46, .bo (k != 2))], [((cfgL g s k sz sl of gp lt ea d), 24)]⟩ (by kernel_rfl) (by kernel_rfl) ?_
  rcases Bool.eq_false_or_eq_true (k != 2) with b0 | b0
  · refine At.res 46 (k != 2) true (by kernel_rfl) b0 ?_
    refine At.to noF_stable noF_fewer 20 400 [4] 0 ⟨.exit .ret, [], [(4, .bo (sl == 0))], []⟩ (by kernel_rfl) (by kernel_rfl) ?_
    refine At.ret (by kernel_rfl) (.bo (sl == 0)) (by kernel_rfl) ?_
    intro ρ w9 hw9 _
    exact ⟨congrArg (fun b => Ending.returned (.bool b)) (by simp only [fldB, *, cond_true, cond_false, Bool.true_and, Bool.false_and, Bool.true_or, Bool.false_or, Bool.or_true, Bool.or_false, Bool.and_true, Bool.and_false]), hw9.below⟩
  · refine At.res 46 (k != 2) false (by kernel_rfl) b0 ?_
    refine At.to noF_stable noF_fewer 20 400 [2, 51, 53] 1 ⟨pops B37 [1, 0, 1, 4, 1, 3, 1, 3, 1, 3, 1, 3, 1, 2, 1, 0] 4, [.seq (sub B37 [1, 0, 1, 4, 1, 2, 1]), .block 0, .seq (sub B37 [1, 1])], [(2, .lp 0 0), (51, .io .i64 sl), (53, .io .i64 sz)], [((cfgL g s k sz sl of gp lt ea d), 24)]⟩ (by kernel_rfl) (by kernel_rfl) ?_
    refine At.call noF_stable 59 [.io .i64 sl, .v (.int .i64 1), .io .i64 sz] (.bo (decide (1 ≤ sl) && decide (sl ≤ sz))) (by kernel_rfl) (by kernel_rfl) (by kernel_rfl) (fun _ _ w _ _ => rwithin_any (sl) (1) (sz) w) ?_
    refine At.to noF_stable noF_fewer 20 400 [2, 55] 1 ⟨pops B37 [1, 0, 1, 4, 1, 3, 1, 3, 1, 3, 1, 3, 1, 2, 1, 0] 6, [.seq (sub B37 [1, 0, 1, 4, 1, 2, 1]), .block 0, .seq (sub B37 [1, 1])], [(2, .lp 0 0), (55, .bo (decide (1 ≤ sl) && decide (sl ≤ sz)))], [((cfgL g s k sz sl of gp lt ea d), 24)]⟩ (by kernel_rfl) (by kernel_rfl) ?_
    rcases Bool.eq_false_or_eq_true (decide (1 ≤ sl) && decide (sl ≤ sz)) with b1 | b1
    · refine At.res 55 (decide (1 ≤ sl) && decide (sl ≤ sz)) true (by kernel_rfl) b1 ?_
      refine At.to noF_stable noF_fewer 20 400 [4] 0 ⟨.exit .ret, [], [(4, .bo (decide (sz ≤ IntKind.i64.wrap (64 * sl))))], []⟩ (by kernel_rfl) (by kernel_rfl) ?_
      refine At.ret (by kernel_rfl) (.bo (decide (sz ≤ IntKind.i64.wrap (64 * sl)))) (by kernel_rfl) ?_
      intro ρ w9 hw9 _
      exact ⟨congrArg (fun b => Ending.returned (.bool b)) (by simp only [fldB, *, cond_true, cond_false, Bool.true_and, Bool.false_and, Bool.true_or, Bool.false_or, Bool.or_true, Bool.or_false, Bool.and_true, Bool.and_false]), hw9.below⟩
    · refine At.res 55 (decide (1 ≤ sl) && decide (sl ≤ sz)) false (by kernel_rfl) b1 ?_
      refine At.to noF_stable noF_fewer 20 400 [4] 0 ⟨.exit .ret, [], [(4, .v (.bool false))], []⟩ (by kernel_rfl) (by kernel_rfl) ?_
      refine At.ret (by kernel_rfl) (.v (.bool false)) (by kernel_rfl) ?_
      intro ρ w9 hw9 _
      exact ⟨congrArg (fun b => Ending.returned (.bool b)) (by simp only [fldB, *, cond_true, cond_false, Bool.true_and, Bool.false_and, Bool.true_or, Bool.false_or, Bool.or_true, Bool.or_false, Bool.and_true, Bool.and_false]), hw9.below⟩

set_option maxHeartbeats 4000000 in
set_option maxRecDepth 100000 in
theorem field_6 (g s k sz sl of gp lt ea : Int) (d : Bool) (w : World) : Calls Tryz.prog 37 #[.agg #[.int .i64 g, .int .i64 s, .int .i64 k, .int .i64 sz, .int .i64 sl, .int .i64 of, .int .i64 gp, .int .i64 lt, .int .i64 ea, .bool d], .int .i64 6] w fun e w' => e = .returned (.bool (fldB g s k sz sl of gp lt ea 6)) ∧ Below w.heap.size w w' := by
  refine enter (fn := Tryz.f37) (c := B37) [.agg (cfgL g s k sz sl of gp lt ea d), .v (.int .i64 6)] Tryz.func37 rfl rfl ?_
  refine At.to noF_stable noF_fewer 20 400 [2, 66, 67] 1 ⟨.code (sub B37 [1, 0, 1, 4, 1, 3, 1, 3, 1, 3, 1, 3, 1, 3, 1, 2, 0, 1, 4, 1]), [.block 1, .seq (sub B37 [1, 0, 1, 4, 1, 3, 1, 3, 1, 3, 1, 3, 1, 3, 1, 2, 1]), .block 0, .seq (sub B37 [1, 1])], [(2, .lp 0 0), (66, .io .i64 k), (67, .bo (k == 1))], [((cfgL g s k sz sl of gp lt ea d), 24)]⟩ (by kernel_rfl) (by kernel_rfl) ?_
  rcases Bool.eq_false_or_eq_true (k == 1) with b0 | b0
  · refine At.res 67 (k == 1) true (by kernel_rfl) b0 ?_
    refine At.to noF_stable noF_fewer 20 400 [70, 73] 0 ⟨pops B37 [1, 0, 1, 4, 1, 3, 1, 3, 1, 3, 1, 3, 1, 3, 1, 2, 0, 1, 4, 1, 2, 0] 5, [.seq (sub B37 [1, 0, 1, 4, 1, 2, 1]), .block 1, .seq (sub B37 [1, 0, 1, 4, 1, 3, 1, 3, 1, 3, 1, 3, 1, 3, 1, 2, 1]), .block 0, .seq (sub B37 [1, 1])], [(70, .io .i64 of), (73, .io .i64 (IntKind.i64.wrap (sz - 1)))], []⟩ (by kernel_rfl) (by kernel_rfl) ?_
    refine At.call noF_stable 59 [.io .i64 of, .v (.int .i64 0), .io .i64 (IntKind.i64.wrap (sz - 1))] (.bo (decide (0 ≤ of) && decide (of ≤ IntKind.i64.wrap (sz - 1)))) (by kernel_rfl) (by kernel_rfl) (by kernel_rfl) (fun _ _ w _ _ => rwithin_any (of) (0) (IntKind.i64.wrap (sz - 1)) w) ?_
    refine At.to noF_stable noF_fewer 20 400 [4] 0 ⟨.exit .ret, [], [(4, .bo (decide (0 ≤ of) && decide (of ≤ IntKind.i64.wrap (sz - 1))))], []⟩ (by kernel_rfl) (by kernel_rfl) ?_
    refine At.ret (by kernel_rfl) (.bo (decide (0 ≤ of) && decide (of ≤ IntKind.i64.wrap (sz - 1)))) (by kernel_rfl) ?_
    intro ρ w9 hw9 _
    exact ⟨congrArg (fun b => Ending.returned (.bool b)) (by simp only [fldB, *, cond_true, cond_false, Bool.true_and, Bool.false_and, Bool.true_or, Bool.false_or, Bool.or_true, Bool.or_false, Bool.and_true, Bool.and_false]), hw9.below⟩
  · refine At.res 67 (k == 1) false (by kernel_rfl) b0 ?_
    refine At.to noF_stable noF_fewer 20 400 [2, 75] 1 ⟨.code (sub B37 [1, 0, 1, 4, 1, 3, 1, 3, 1, 3, 1, 3, 1, 3, 1, 2, 0, 1, 4, 1, 3, 1]), [.block 1, .seq (sub B37 [1, 0, 1, 4, 1, 3, 1, 3, 1, 3, 1, 3, 1, 3, 1, 2, 1]), .block 0, .seq (sub B37 [1, 1])], [(2, .lp 0 0), (75, .bo (k == 2))], [((cfgL g s k sz sl of gp lt ea d), 24)]⟩ (by kernel_rfl) (by kernel_rfl) ?_
    rcases Bool.eq_false_or_eq_true (k == 2) with b1 | b1
    · refine At.res 75 (k == 2) true (by kernel_rfl) b1 ?_
      refine At.to noF_stable noF_fewer 20 400 [78, 81] 0 ⟨pops B37 [1, 0, 1, 4, 1, 3, 1, 3, 1, 3, 1, 3, 1, 3, 1, 2, 0, 1, 4, 1, 3, 1, 2, 0] 5, [.seq (sub B37 [1, 0, 1, 4, 1, 2, 1]), .block 1, .seq (sub B37 [1, 0, 1, 4, 1, 3, 1, 3, 1, 3, 1, 3, 1, 3, 1, 2, 1]), .block 0, .seq (sub B37 [1, 1])], [(78, .io .i64 of), (81, .io .i64 (IntKind.i64.wrap (sl - 1)))], []⟩ (by kernel_rfl) (by kernel_rfl) ?_
      refine At.call noF_stable 59 [.io .i64 of, .v (.int .i64 0), .io .i64 (IntKind.i64.wrap (sl - 1))] (.bo (decide (0 ≤ of) && decide (of ≤ IntKind.i64.wrap (sl - 1)))) (by kernel_rfl) (by kernel_rfl) (by kernel_rfl) (fun _ _ w _ _ => rwithin_any (of) (0) (IntKind.i64.wrap (sl - 1)) w) ?_
      refine At.to noF_stable noF_fewer 20 400 [4] 0 ⟨.exit .ret, [], [(4, .bo (decide (0 ≤ of) && decide (of ≤ IntKind.i64.wrap (sl - 1))))], []⟩ (by kernel_rfl) (by kernel_rfl) ?_
      refine At.ret (by kernel_rfl) (.bo (decide (0 ≤ of) && decide (of ≤ IntKind.i64.wrap (sl - 1)))) (by kernel_rfl) ?_
      intro ρ w9 hw9 _
      exact ⟨congrArg (fun b => Ending.returned (.bool b)) (by simp only [fldB, *, cond_true, cond_false, Bool.true_and, Bool.false_and, Bool.true_or, Bool.false_or, Bool.or_true, Bool.or_false, Bool.and_true, Bool.and_false]), hw9.below⟩
    · refine At.res 75 (k == 2) false (by kernel_rfl) b1 ?_
      refine At.to noF_stable noF_fewer 20 400 [4] 0 ⟨.exit .ret, [], [(4, .bo (of == 0))], []⟩ (by kernel_rfl) (by kernel_rfl) ?_
      refine At.ret (by kernel_rfl) (.bo (of == 0)) (by kernel_rfl) ?_
      intro ρ w9 hw9 _
      exact ⟨congrArg (fun b => Ending.returned (.bool b)) (by simp only [fldB, *, cond_true, cond_false, Bool.true_and, Bool.false_and, Bool.true_or, Bool.false_or, Bool.or_true, Bool.or_false, Bool.and_true, Bool.and_false]), hw9.below⟩

set_option maxHeartbeats 4000000 in
set_option maxRecDepth 100000 in
theorem field_7 (g s k sz sl of gp lt ea : Int) (d : Bool) (w : World) : Calls Tryz.prog 37 #[.agg #[.int .i64 g, .int .i64 s, .int .i64 k, .int .i64 sz, .int .i64 sl, .int .i64 of, .int .i64 gp, .int .i64 lt, .int .i64 ea, .bool d], .int .i64 7] w fun e w' => e = .returned (.bool (fldB g s k sz sl of gp lt ea 7)) ∧ Below w.heap.size w w' := by
  refine enter (fn := Tryz.f37) (c := B37) [.agg (cfgL g s k sz sl of gp lt ea d), .v (.int .i64 7)] Tryz.func37 rfl rfl ?_
  refine At.to noF_stable noF_fewer 20 400 [2, 90] 1 ⟨.code (sub B37 [1, 0, 1, 4, 1, 3, 1, 3, 1, 3, 1, 3, 1, 3, 1, 3, 1, 2, 0, 1]), [.seq (sub B37 [1, 0, 1, 4, 1, 3, 1, 3, 1, 3, 1, 3, 1, 3, 1, 3, 1, 2, 1]), .block 0, .seq (sub B37 [1, 1])], [(2, .lp 0 0), (90, .bo (k != 3))], [((cfgL g s k sz sl of gp lt ea d), 24)]⟩ (by kernel_rfl) (by kernel_rfl) ?_
  rcases Bool.eq_false_or_eq_true (k != 3) with b0 | b0
  · refine At.res 90 (k != 3) true (by kernel_rfl) b0 ?_
    refine At.to noF_stable noF_fewer 20 400 [4] 0 ⟨.exit .ret, [], [(4, .bo (gp == 0))], []⟩ (by kernel_rfl) (by kernel_rfl) ?_
    refine At.ret (by kernel_rfl) (.bo (gp == 0)) (by kernel_rfl) ?_
    intro ρ w9 hw9 _
    exact ⟨congrArg (fun b => Ending.returned (.bool b)) (by simp only [fldB, *, cond_true, cond_false, Bool.true_and, Bool.false_and, Bool.true_or, Bool.false_or, Bool.or_true, Bool.or_false, Bool.and_true, Bool.and_false]), hw9.below⟩
  · refine At.res 90 (k != 3) false (by kernel_rfl) b0 ?_
    refine At.to noF_stable noF_fewer 20 400 [95] 0 ⟨pops B37 [1, 0, 1, 4, 1, 3, 1, 3, 1, 3, 1, 3, 1, 3, 1, 3, 1, 2, 1, 0] 2, [.seq (sub B37 [1, 0, 1, 4, 1, 2, 1]), .block 0, .seq (sub B37 [1, 1])], [(95, .io .i64 gp)], []⟩ (by kernel_rfl) (by kernel_rfl) ?_
    refine At.call noF_stable 59 [.io .i64 gp, .v (.int .i64 1), .v (.int .i64 1099511627776)] (.bo (decide (1 ≤ gp) && decide (gp ≤ 1099511627776))) (by kernel_rfl) (by kernel_rfl) (by kernel_rfl) (fun _ _ w _ _ => rwithin_any (gp) (1) (1099511627776) w) ?_
    refine At.to noF_stable noF_fewer 20 400 [4] 0 ⟨.exit .ret, [], [(4, .bo (decide (1 ≤ gp) && decide (gp ≤ 1099511627776)))], []⟩ (by kernel_rfl) (by kernel_rfl) ?_
    refine At.ret (by kernel_rfl) (.bo (decide (1 ≤ gp) && decide (gp ≤ 1099511627776))) (by kernel_rfl) ?_
    intro ρ w9 hw9 _
    exact ⟨congrArg (fun b => Ending.returned (.bool b)) (by simp only [fldB, *, cond_true, cond_false, Bool.true_and, Bool.false_and, Bool.true_or, Bool.false_or, Bool.or_true, Bool.or_false, Bool.and_true, Bool.and_false]), hw9.below⟩

set_option maxHeartbeats 4000000 in
set_option maxRecDepth 100000 in
theorem field_8 (g s k sz sl of gp lt ea : Int) (d : Bool) (w : World) : Calls Tryz.prog 37 #[.agg #[.int .i64 g, .int .i64 s, .int .i64 k, .int .i64 sz, .int .i64 sl, .int .i64 of, .int .i64 gp, .int .i64 lt, .int .i64 ea, .bool d], .int .i64 8] w fun e w' => e = .returned (.bool (fldB g s k sz sl of gp lt ea 8)) ∧ Below w.heap.size w w' := by
  refine enter (fn := Tryz.f37) (c := B37) [.agg (cfgL g s k sz sl of gp lt ea d), .v (.int .i64 8)] Tryz.func37 rfl rfl ?_
  refine At.to noF_stable noF_fewer 20 400 [100] 0 ⟨pops B37 [1, 0, 1, 4, 1, 3, 1, 3, 1, 3, 1, 3, 1, 3, 1, 3, 1, 3, 1, 2, 0] 2, [.seq (sub B37 [1, 0, 1, 4, 1, 2, 1]), .block 0, .seq (sub B37 [1, 1])], [(100, .io .i64 lt)], []⟩ (by kernel_rfl) (by kernel_rfl) ?_
  refine At.call noF_stable 59 [.io .i64 lt, .v (.int .i64 0), .v (.int .i64 1099511627776)] (.bo (decide (0 ≤ lt) && decide (lt ≤ 1099511627776))) (by kernel_rfl) (by kernel_rfl) (by kernel_rfl) (fun _ _ w _ _ => rwithin_any (lt) (0) (1099511627776) w) ?_
  refine At.to noF_stable noF_fewer 20 400 [4] 0 ⟨.exit .ret, [], [(4, .bo (decide (0 ≤ lt) && decide (lt ≤ 1099511627776)))], []⟩ (by kernel_rfl) (by kernel_rfl) ?_
  refine At.ret (by kernel_rfl) (.bo (decide (0 ≤ lt) && decide (lt ≤ 1099511627776))) (by kernel_rfl) ?_
  intro ρ w9 hw9 _
  exact ⟨congrArg (fun b => Ending.returned (.bool b)) (by simp only [fldB, *, cond_true, cond_false, Bool.true_and, Bool.false_and, Bool.true_or, Bool.false_or, Bool.or_true, Bool.or_false, Bool.and_true, Bool.and_false]), hw9.below⟩

set_option maxHeartbeats 4000000 in
set_option maxRecDepth 100000 in
theorem field_9 (g s k sz sl of gp lt ea : Int) (d : Bool) (w : World) : Calls Tryz.prog 37 #[.agg #[.int .i64 g, .int .i64 s, .int .i64 k, .int .i64 sz, .int .i64 sl, .int .i64 of, .int .i64 gp, .int .i64 lt, .int .i64 ea, .bool d], .int .i64 9] w fun e w' => e = .returned (.bool (fldB g s k sz sl of gp lt ea 9)) ∧ Below w.heap.size w w' := by
  refine enter (fn := Tryz.f37) (c := B37) [.agg (cfgL g s k sz sl of gp lt ea d), .v (.int .i64 9)] Tryz.func37 rfl rfl ?_
  refine At.to noF_stable noF_fewer 20 400 [103] 0 ⟨pops B37 [1, 1, 0] 2, [.seq (sub B37 [1, 0, 1, 4, 1, 2, 1])], [(103, .io .i64 ea)], []⟩ (by kernel_rfl) (by kernel_rfl) ?_
  refine At.call noF_stable 59 [.io .i64 ea, .v (.int .i64 0), .v (.int .i64 2147483647)] (.bo (decide (0 ≤ ea) && decide (ea ≤ 2147483647))) (by kernel_rfl) (by kernel_rfl) (by kernel_rfl) (fun _ _ w _ _ => rwithin_any (ea) (0) (2147483647) w) ?_
  refine At.to noF_stable noF_fewer 20 400 [4] 0 ⟨.exit .ret, [], [(4, .bo (decide (0 ≤ ea) && decide (ea ≤ 2147483647)))], []⟩ (by kernel_rfl) (by kernel_rfl) ?_
  refine At.ret (by kernel_rfl) (.bo (decide (0 ≤ ea) && decide (ea ≤ 2147483647))) (by kernel_rfl) ?_
  intro ρ w9 hw9 _
  exact ⟨congrArg (fun b => Ending.returned (.bool b)) (by simp only [fldB, *, cond_true, cond_false, Bool.true_and, Bool.false_and, Bool.true_or, Bool.false_or, Bool.or_true, Bool.or_false, Bool.and_true, Bool.and_false]), hw9.below⟩


/-- The reference's number of the first field that may not be. -/
def wrongR (g s k sz sl of gp lt ea : Int) : Int :=
  bif !(fldB g s k sz sl of gp lt ea 1) then 1 else bif !(fldB g s k sz sl of gp lt ea 2) then 2 else bif !(fldB g s k sz sl of gp lt ea 3) then 3 else
  bif !(fldB g s k sz sl of gp lt ea 4) then 4 else bif !(fldB g s k sz sl of gp lt ea 5) then 5 else bif !(fldB g s k sz sl of gp lt ea 6) then 6 else
  bif !(fldB g s k sz sl of gp lt ea 7) then 7 else bif !(fldB g s k sz sl of gp lt ea 8) then 8 else bif !(fldB g s k sz sl of gp lt ea 9) then 9 else 0

noncomputable def B12 : Code := (Tryz.f12.body).getD .skip
set_option maxHeartbeats 4000000 in
set_option maxRecDepth 100000 in
theorem rwrong_any (g s k sz sl of gp lt ea : Int) (d : Bool) (w : World) : Calls Tryz.prog 12 #[.agg #[.int .i64 g, .int .i64 s, .int .i64 k, .int .i64 sz, .int .i64 sl, .int .i64 of, .int .i64 gp, .int .i64 lt, .int .i64 ea, .bool d]] w fun e w' => e = .returned (.int .i64 (wrongR g s k sz sl of gp lt ea)) ∧ Below w.heap.size w w' := by
  refine enter (fn := Tryz.f12) (c := B12) [.agg (cfgL g s k sz sl of gp lt ea d)] Tryz.func12 rfl rfl ?_
  refine At.to noF_stable noF_fewer 20 400 [1, 3, 8, 9] 1 ⟨pops B12 [1, 0, 1, 4, 4, 1, 0, 4, 0] 2, [.seq (sub B12 [1, 0, 1, 4, 4, 1, 0, 4, 1]), .block 1, .seq (sub B12 [1, 0, 1, 4, 4, 1, 1]), .rounds (sub B12 [1, 0, 1, 4, 4]) 19, .block 0, .seq (sub B12 [1, 1])], [(1, .lp 0 0), (3, .v (.int .i64 1)), (8, .agg (cfgL g s k sz sl of gp lt ea d)), (9, .v (.int .i64 1))], [((cfgL g s k sz sl of gp lt ea d), 24)]⟩ (by kernel_rfl) (by kernel_rfl) ?_
  refine At.call noF_stable 37 [.agg (cfgL g s k sz sl of gp lt ea d), .v (.int .i64 1)] (.bo (fldB g s k sz sl of gp lt ea 1)) (by kernel_rfl) (by kernel_rfl) (by kernel_rfl) (fun _ _ w _ _ => field_1 (g) (s) (k) (sz) (sl) (of) (gp) (lt) (ea) (d) w) ?_
  refine At.to noF_stable noF_fewer 20 400 [1, 3, 11] 1 ⟨.code (sub B12 [1, 0, 1, 4, 4, 1, 0, 4, 1]), [.block 1, .seq (sub B12 [1, 0, 1, 4, 4, 1, 1]), .rounds (sub B12 [1, 0, 1, 4, 4]) 19, .block 0, .seq (sub B12 [1, 1])], [(1, .lp 0 0), (3, .v (.int .i64 1)), (11, .bo !fldB g s k sz sl of gp lt ea 1)], [((cfgL g s k sz sl of gp lt ea d), 24)]⟩ (by kernel_rfl) (by kernel_rfl) ?_
  rcases Bool.eq_false_or_eq_true (!fldB g s k sz sl of gp lt ea 1) with b0 | b0
  · refine At.res 11 (!fldB g s k sz sl of gp lt ea 1) true (by kernel_rfl) b0 ?_
    refine At.to noF_stable noF_fewer 20 400 [2] 0 ⟨.exit .ret, [], [(2, .v (.int .i64 1))], []⟩ (by kernel_rfl) (by kernel_rfl) ?_
    refine At.ret (by kernel_rfl) (.v (.int .i64 1)) (by kernel_rfl) ?_
    intro ρ w9 hw9 _
    exact ⟨congrArg (fun n => Ending.returned (.int .i64 n)) (by simp only [wrongR, *, cond_true, cond_false]), hw9.below⟩
  · refine At.res 11 (!fldB g s k sz sl of gp lt ea 1) false (by kernel_rfl) b0 ?_
    refine At.to noF_stable noF_fewer 20 400 [1, 3, 8, 9] 1 ⟨pops B12 [1, 0, 1, 4, 4, 1, 0, 4, 0] 2, [.seq (sub B12 [1, 0, 1, 4, 4, 1, 0, 4, 1]), .block 1, .seq (sub B12 [1, 0, 1, 4, 4, 1, 1]), .rounds (sub B12 [1, 0, 1, 4, 4]) 18, .block 0, .seq (sub B12 [1, 1])], [(1, .lp 0 0), (3, .v (.int .i64 2)), (8, .agg (cfgL g s k sz sl of gp lt ea d)), (9, .v (.int .i64 2))], [((cfgL g s k sz sl of gp lt ea d), 24)]⟩ (by kernel_rfl) (by kernel_rfl) ?_
    refine At.call noF_stable 37 [.agg (cfgL g s k sz sl of gp lt ea d), .v (.int .i64 2)] (.bo (fldB g s k sz sl of gp lt ea 2)) (by kernel_rfl) (by kernel_rfl) (by kernel_rfl) (fun _ _ w _ _ => field_2 (g) (s) (k) (sz) (sl) (of) (gp) (lt) (ea) (d) w) ?_
    refine At.to noF_stable noF_fewer 20 400 [1, 3, 11] 1 ⟨.code (sub B12 [1, 0, 1, 4, 4, 1, 0, 4, 1]), [.block 1, .seq (sub B12 [1, 0, 1, 4, 4, 1, 1]), .rounds (sub B12 [1, 0, 1, 4, 4]) 18, .block 0, .seq (sub B12 [1, 1])], [(1, .lp 0 0), (3, .v (.int .i64 2)), (11, .bo !fldB g s k sz sl of gp lt ea 2)], [((cfgL g s k sz sl of gp lt ea d), 24)]⟩ (by kernel_rfl) (by kernel_rfl) ?_
    rcases Bool.eq_false_or_eq_true (!fldB g s k sz sl of gp lt ea 2) with b1 | b1
    · refine At.res 11 (!fldB g s k sz sl of gp lt ea 2) true (by kernel_rfl) b1 ?_
      refine At.to noF_stable noF_fewer 20 400 [2] 0 ⟨.exit .ret, [], [(2, .v (.int .i64 2))], []⟩ (by kernel_rfl) (by kernel_rfl) ?_
      refine At.ret (by kernel_rfl) (.v (.int .i64 2)) (by kernel_rfl) ?_
      intro ρ w9 hw9 _
      exact ⟨congrArg (fun n => Ending.returned (.int .i64 n)) (by simp only [wrongR, *, cond_true, cond_false]), hw9.below⟩
    · refine At.res 11 (!fldB g s k sz sl of gp lt ea 2) false (by kernel_rfl) b1 ?_
      refine At.to noF_stable noF_fewer 20 400 [1, 3, 8, 9] 1 ⟨pops B12 [1, 0, 1, 4, 4, 1, 0, 4, 0] 2, [.seq (sub B12 [1, 0, 1, 4, 4, 1, 0, 4, 1]), .block 1, .seq (sub B12 [1, 0, 1, 4, 4, 1, 1]), .rounds (sub B12 [1, 0, 1, 4, 4]) 17, .block 0, .seq (sub B12 [1, 1])], [(1, .lp 0 0), (3, .v (.int .i64 3)), (8, .agg (cfgL g s k sz sl of gp lt ea d)), (9, .v (.int .i64 3))], [((cfgL g s k sz sl of gp lt ea d), 24)]⟩ (by kernel_rfl) (by kernel_rfl) ?_
      refine At.call noF_stable 37 [.agg (cfgL g s k sz sl of gp lt ea d), .v (.int .i64 3)] (.bo (fldB g s k sz sl of gp lt ea 3)) (by kernel_rfl) (by kernel_rfl) (by kernel_rfl) (fun _ _ w _ _ => field_3 (g) (s) (k) (sz) (sl) (of) (gp) (lt) (ea) (d) w) ?_
      refine At.to noF_stable noF_fewer 20 400 [1, 3, 11] 1 ⟨.code (sub B12 [1, 0, 1, 4, 4, 1, 0, 4, 1]), [.block 1, .seq (sub B12 [1, 0, 1, 4, 4, 1, 1]), .rounds (sub B12 [1, 0, 1, 4, 4]) 17, .block 0, .seq (sub B12 [1, 1])], [(1, .lp 0 0), (3, .v (.int .i64 3)), (11, .bo !fldB g s k sz sl of gp lt ea 3)], [((cfgL g s k sz sl of gp lt ea d), 24)]⟩ (by kernel_rfl) (by kernel_rfl) ?_
      rcases Bool.eq_false_or_eq_true (!fldB g s k sz sl of gp lt ea 3) with b2 | b2
      · refine At.res 11 (!fldB g s k sz sl of gp lt ea 3) true (by kernel_rfl) b2 ?_
        refine At.to noF_stable noF_fewer 20 400 [2] 0 ⟨.exit .ret, [], [(2, .v (.int .i64 3))], []⟩ (by kernel_rfl) (by kernel_rfl) ?_
        refine At.ret (by kernel_rfl) (.v (.int .i64 3)) (by kernel_rfl) ?_
        intro ρ w9 hw9 _
        exact ⟨congrArg (fun n => Ending.returned (.int .i64 n)) (by simp only [wrongR, *, cond_true, cond_false]), hw9.below⟩
      · refine At.res 11 (!fldB g s k sz sl of gp lt ea 3) false (by kernel_rfl) b2 ?_
        refine At.to noF_stable noF_fewer 20 400 [1, 3, 8, 9] 1 ⟨pops B12 [1, 0, 1, 4, 4, 1, 0, 4, 0] 2, [.seq (sub B12 [1, 0, 1, 4, 4, 1, 0, 4, 1]), .block 1, .seq (sub B12 [1, 0, 1, 4, 4, 1, 1]), .rounds (sub B12 [1, 0, 1, 4, 4]) 16, .block 0, .seq (sub B12 [1, 1])], [(1, .lp 0 0), (3, .v (.int .i64 4)), (8, .agg (cfgL g s k sz sl of gp lt ea d)), (9, .v (.int .i64 4))], [((cfgL g s k sz sl of gp lt ea d), 24)]⟩ (by kernel_rfl) (by kernel_rfl) ?_
        refine At.call noF_stable 37 [.agg (cfgL g s k sz sl of gp lt ea d), .v (.int .i64 4)] (.bo (fldB g s k sz sl of gp lt ea 4)) (by kernel_rfl) (by kernel_rfl) (by kernel_rfl) (fun _ _ w _ _ => field_4 (g) (s) (k) (sz) (sl) (of) (gp) (lt) (ea) (d) w) ?_
        refine At.to noF_stable noF_fewer 20 400 [1, 3, 11] 1 ⟨.code (sub B12 [1, 0, 1, 4, 4, 1, 0, 4, 1]), [.block 1, .seq (sub B12 [1, 0, 1, 4, 4, 1, 1]), .rounds (sub B12 [1, 0, 1, 4, 4]) 16, .block 0, .seq (sub B12 [1, 1])], [(1, .lp 0 0), (3, .v (.int .i64 4)), (11, .bo !fldB g s k sz sl of gp lt ea 4)], [((cfgL g s k sz sl of gp lt ea d), 24)]⟩ (by kernel_rfl) (by kernel_rfl) ?_
        rcases Bool.eq_false_or_eq_true (!fldB g s k sz sl of gp lt ea 4) with b3 | b3
        · refine At.res 11 (!fldB g s k sz sl of gp lt ea 4) true (by kernel_rfl) b3 ?_
          refine At.to noF_stable noF_fewer 20 400 [2] 0 ⟨.exit .ret, [], [(2, .v (.int .i64 4))], []⟩ (by kernel_rfl) (by kernel_rfl) ?_
          refine At.ret (by kernel_rfl) (.v (.int .i64 4)) (by kernel_rfl) ?_
          intro ρ w9 hw9 _
          exact ⟨congrArg (fun n => Ending.returned (.int .i64 n)) (by simp only [wrongR, *, cond_true, cond_false]), hw9.below⟩
        · refine At.res 11 (!fldB g s k sz sl of gp lt ea 4) false (by kernel_rfl) b3 ?_
          refine At.to noF_stable noF_fewer 20 400 [1, 3, 8, 9] 1 ⟨pops B12 [1, 0, 1, 4, 4, 1, 0, 4, 0] 2, [.seq (sub B12 [1, 0, 1, 4, 4, 1, 0, 4, 1]), .block 1, .seq (sub B12 [1, 0, 1, 4, 4, 1, 1]), .rounds (sub B12 [1, 0, 1, 4, 4]) 15, .block 0, .seq (sub B12 [1, 1])], [(1, .lp 0 0), (3, .v (.int .i64 5)), (8, .agg (cfgL g s k sz sl of gp lt ea d)), (9, .v (.int .i64 5))], [((cfgL g s k sz sl of gp lt ea d), 24)]⟩ (by kernel_rfl) (by kernel_rfl) ?_
          refine At.call noF_stable 37 [.agg (cfgL g s k sz sl of gp lt ea d), .v (.int .i64 5)] (.bo (fldB g s k sz sl of gp lt ea 5)) (by kernel_rfl) (by kernel_rfl) (by kernel_rfl) (fun _ _ w _ _ => field_5 (g) (s) (k) (sz) (sl) (of) (gp) (lt) (ea) (d) w) ?_
          refine At.to noF_stable noF_fewer 20 400 [1, 3, 11] 1 ⟨.code (sub B12 [1, 0, 1, 4, 4, 1, 0, 4, 1]), [.block 1, .seq (sub B12 [1, 0, 1, 4, 4, 1, 1]), .rounds (sub B12 [1, 0, 1, 4, 4]) 15, .block 0, .seq (sub B12 [1, 1])], [(1, .lp 0 0), (3, .v (.int .i64 5)), (11, .bo !fldB g s k sz sl of gp lt ea 5)], [((cfgL g s k sz sl of gp lt ea d), 24)]⟩ (by kernel_rfl) (by kernel_rfl) ?_
          rcases Bool.eq_false_or_eq_true (!fldB g s k sz sl of gp lt ea 5) with b4 | b4
          · refine At.res 11 (!fldB g s k sz sl of gp lt ea 5) true (by kernel_rfl) b4 ?_
            refine At.to noF_stable noF_fewer 20 400 [2] 0 ⟨.exit .ret, [], [(2, .v (.int .i64 5))], []⟩ (by kernel_rfl) (by kernel_rfl) ?_
            refine At.ret (by kernel_rfl) (.v (.int .i64 5)) (by kernel_rfl) ?_
            intro ρ w9 hw9 _
            exact ⟨congrArg (fun n => Ending.returned (.int .i64 n)) (by simp only [wrongR, *, cond_true, cond_false]), hw9.below⟩
          · refine At.res 11 (!fldB g s k sz sl of gp lt ea 5) false (by kernel_rfl) b4 ?_
            refine At.to noF_stable noF_fewer 20 400 [1, 3, 8, 9] 1 ⟨pops B12 [1, 0, 1, 4, 4, 1, 0, 4, 0] 2, [.seq (sub B12 [1, 0, 1, 4, 4, 1, 0, 4, 1]), .block 1, .seq (sub B12 [1, 0, 1, 4, 4, 1, 1]), .rounds (sub B12 [1, 0, 1, 4, 4]) 14, .block 0, .seq (sub B12 [1, 1])], [(1, .lp 0 0), (3, .v (.int .i64 6)), (8, .agg (cfgL g s k sz sl of gp lt ea d)), (9, .v (.int .i64 6))], [((cfgL g s k sz sl of gp lt ea d), 24)]⟩ (by kernel_rfl) (by kernel_rfl) ?_
            refine At.call noF_stable 37 [.agg (cfgL g s k sz sl of gp lt ea d), .v (.int .i64 6)] (.bo (fldB g s k sz sl of gp lt ea 6)) (by kernel_rfl) (by kernel_rfl) (by kernel_rfl) (fun _ _ w _ _ => field_6 (g) (s) (k) (sz) (sl) (of) (gp) (lt) (ea) (d) w) ?_
            refine At.to noF_stable noF_fewer 20 400 [1, 3, 11] 1 ⟨.code (sub B12 [1, 0, 1, 4, 4, 1, 0, 4, 1]), [.block 1, .seq (sub B12 [1, 0, 1, 4, 4, 1, 1]), .rounds (sub B12 [1, 0, 1, 4, 4]) 14, .block 0, .seq (sub B12 [1, 1])], [(1, .lp 0 0), (3, .v (.int .i64 6)), (11, .bo !fldB g s k sz sl of gp lt ea 6)], [((cfgL g s k sz sl of gp lt ea d), 24)]⟩ (by kernel_rfl) (by kernel_rfl) ?_
            rcases Bool.eq_false_or_eq_true (!fldB g s k sz sl of gp lt ea 6) with b5 | b5
            · refine At.res 11 (!fldB g s k sz sl of gp lt ea 6) true (by kernel_rfl) b5 ?_
              refine At.to noF_stable noF_fewer 20 400 [2] 0 ⟨.exit .ret, [], [(2, .v (.int .i64 6))], []⟩ (by kernel_rfl) (by kernel_rfl) ?_
              refine At.ret (by kernel_rfl) (.v (.int .i64 6)) (by kernel_rfl) ?_
              intro ρ w9 hw9 _
              exact ⟨congrArg (fun n => Ending.returned (.int .i64 n)) (by simp only [wrongR, *, cond_true, cond_false]), hw9.below⟩
            · refine At.res 11 (!fldB g s k sz sl of gp lt ea 6) false (by kernel_rfl) b5 ?_
              refine At.to noF_stable noF_fewer 20 400 [1, 3, 8, 9] 1 ⟨pops B12 [1, 0, 1, 4, 4, 1, 0, 4, 0] 2, [.seq (sub B12 [1, 0, 1, 4, 4, 1, 0, 4, 1]), .block 1, .seq (sub B12 [1, 0, 1, 4, 4, 1, 1]), .rounds (sub B12 [1, 0, 1, 4, 4]) 13, .block 0, .seq (sub B12 [1, 1])], [(1, .lp 0 0), (3, .v (.int .i64 7)), (8, .agg (cfgL g s k sz sl of gp lt ea d)), (9, .v (.int .i64 7))], [((cfgL g s k sz sl of gp lt ea d), 24)]⟩ (by kernel_rfl) (by kernel_rfl) ?_
              refine At.call noF_stable 37 [.agg (cfgL g s k sz sl of gp lt ea d), .v (.int .i64 7)] (.bo (fldB g s k sz sl of gp lt ea 7)) (by kernel_rfl) (by kernel_rfl) (by kernel_rfl) (fun _ _ w _ _ => field_7 (g) (s) (k) (sz) (sl) (of) (gp) (lt) (ea) (d) w) ?_
              refine At.to noF_stable noF_fewer 20 400 [1, 3, 11] 1 ⟨.code (sub B12 [1, 0, 1, 4, 4, 1, 0, 4, 1]), [.block 1, .seq (sub B12 [1, 0, 1, 4, 4, 1, 1]), .rounds (sub B12 [1, 0, 1, 4, 4]) 13, .block 0, .seq (sub B12 [1, 1])], [(1, .lp 0 0), (3, .v (.int .i64 7)), (11, .bo !fldB g s k sz sl of gp lt ea 7)], [((cfgL g s k sz sl of gp lt ea d), 24)]⟩ (by kernel_rfl) (by kernel_rfl) ?_
              rcases Bool.eq_false_or_eq_true (!fldB g s k sz sl of gp lt ea 7) with b6 | b6
              · refine At.res 11 (!fldB g s k sz sl of gp lt ea 7) true (by kernel_rfl) b6 ?_
                refine At.to noF_stable noF_fewer 20 400 [2] 0 ⟨.exit .ret, [], [(2, .v (.int .i64 7))], []⟩ (by kernel_rfl) (by kernel_rfl) ?_
                refine At.ret (by kernel_rfl) (.v (.int .i64 7)) (by kernel_rfl) ?_
                intro ρ w9 hw9 _
                exact ⟨congrArg (fun n => Ending.returned (.int .i64 n)) (by simp only [wrongR, *, cond_true, cond_false]), hw9.below⟩
              · refine At.res 11 (!fldB g s k sz sl of gp lt ea 7) false (by kernel_rfl) b6 ?_
                refine At.to noF_stable noF_fewer 20 400 [1, 3, 8, 9] 1 ⟨pops B12 [1, 0, 1, 4, 4, 1, 0, 4, 0] 2, [.seq (sub B12 [1, 0, 1, 4, 4, 1, 0, 4, 1]), .block 1, .seq (sub B12 [1, 0, 1, 4, 4, 1, 1]), .rounds (sub B12 [1, 0, 1, 4, 4]) 12, .block 0, .seq (sub B12 [1, 1])], [(1, .lp 0 0), (3, .v (.int .i64 8)), (8, .agg (cfgL g s k sz sl of gp lt ea d)), (9, .v (.int .i64 8))], [((cfgL g s k sz sl of gp lt ea d), 24)]⟩ (by kernel_rfl) (by kernel_rfl) ?_
                refine At.call noF_stable 37 [.agg (cfgL g s k sz sl of gp lt ea d), .v (.int .i64 8)] (.bo (fldB g s k sz sl of gp lt ea 8)) (by kernel_rfl) (by kernel_rfl) (by kernel_rfl) (fun _ _ w _ _ => field_8 (g) (s) (k) (sz) (sl) (of) (gp) (lt) (ea) (d) w) ?_
                refine At.to noF_stable noF_fewer 20 400 [1, 3, 11] 1 ⟨.code (sub B12 [1, 0, 1, 4, 4, 1, 0, 4, 1]), [.block 1, .seq (sub B12 [1, 0, 1, 4, 4, 1, 1]), .rounds (sub B12 [1, 0, 1, 4, 4]) 12, .block 0, .seq (sub B12 [1, 1])], [(1, .lp 0 0), (3, .v (.int .i64 8)), (11, .bo !fldB g s k sz sl of gp lt ea 8)], [((cfgL g s k sz sl of gp lt ea d), 24)]⟩ (by kernel_rfl) (by kernel_rfl) ?_
                rcases Bool.eq_false_or_eq_true (!fldB g s k sz sl of gp lt ea 8) with b7 | b7
                · refine At.res 11 (!fldB g s k sz sl of gp lt ea 8) true (by kernel_rfl) b7 ?_
                  refine At.to noF_stable noF_fewer 20 400 [2] 0 ⟨.exit .ret, [], [(2, .v (.int .i64 8))], []⟩ (by kernel_rfl) (by kernel_rfl) ?_
                  refine At.ret (by kernel_rfl) (.v (.int .i64 8)) (by kernel_rfl) ?_
                  intro ρ w9 hw9 _
                  exact ⟨congrArg (fun n => Ending.returned (.int .i64 n)) (by simp only [wrongR, *, cond_true, cond_false]), hw9.below⟩
                · refine At.res 11 (!fldB g s k sz sl of gp lt ea 8) false (by kernel_rfl) b7 ?_
                  refine At.to noF_stable noF_fewer 20 400 [1, 3, 8, 9] 1 ⟨pops B12 [1, 0, 1, 4, 4, 1, 0, 4, 0] 2, [.seq (sub B12 [1, 0, 1, 4, 4, 1, 0, 4, 1]), .block 1, .seq (sub B12 [1, 0, 1, 4, 4, 1, 1]), .rounds (sub B12 [1, 0, 1, 4, 4]) 11, .block 0, .seq (sub B12 [1, 1])], [(1, .lp 0 0), (3, .v (.int .i64 9)), (8, .agg (cfgL g s k sz sl of gp lt ea d)), (9, .v (.int .i64 9))], [((cfgL g s k sz sl of gp lt ea d), 24)]⟩ (by kernel_rfl) (by kernel_rfl) ?_
                  refine At.call noF_stable 37 [.agg (cfgL g s k sz sl of gp lt ea d), .v (.int .i64 9)] (.bo (fldB g s k sz sl of gp lt ea 9)) (by kernel_rfl) (by kernel_rfl) (by kernel_rfl) (fun _ _ w _ _ => field_9 (g) (s) (k) (sz) (sl) (of) (gp) (lt) (ea) (d) w) ?_
                  refine At.to noF_stable noF_fewer 20 400 [1, 3, 11] 1 ⟨.code (sub B12 [1, 0, 1, 4, 4, 1, 0, 4, 1]), [.block 1, .seq (sub B12 [1, 0, 1, 4, 4, 1, 1]), .rounds (sub B12 [1, 0, 1, 4, 4]) 11, .block 0, .seq (sub B12 [1, 1])], [(1, .lp 0 0), (3, .v (.int .i64 9)), (11, .bo !fldB g s k sz sl of gp lt ea 9)], [((cfgL g s k sz sl of gp lt ea d), 24)]⟩ (by kernel_rfl) (by kernel_rfl) ?_
                  rcases Bool.eq_false_or_eq_true (!fldB g s k sz sl of gp lt ea 9) with b8 | b8
                  · refine At.res 11 (!fldB g s k sz sl of gp lt ea 9) true (by kernel_rfl) b8 ?_
                    refine At.to noF_stable noF_fewer 20 400 [2] 0 ⟨.exit .ret, [], [(2, .v (.int .i64 9))], []⟩ (by kernel_rfl) (by kernel_rfl) ?_
                    refine At.ret (by kernel_rfl) (.v (.int .i64 9)) (by kernel_rfl) ?_
                    intro ρ w9 hw9 _
                    exact ⟨congrArg (fun n => Ending.returned (.int .i64 n)) (by simp only [wrongR, *, cond_true, cond_false]), hw9.below⟩
                  · refine At.res 11 (!fldB g s k sz sl of gp lt ea 9) false (by kernel_rfl) b8 ?_
                    refine At.to noF_stable noF_fewer 20 400 [2] 0 ⟨.exit .ret, [], [(2, .v (.int .i64 0))], []⟩ (by kernel_rfl) (by kernel_rfl) ?_
                    refine At.ret (by kernel_rfl) (.v (.int .i64 0)) (by kernel_rfl) ?_
                    intro ρ w9 hw9 _
                    exact ⟨congrArg (fun n => Ending.returned (.int .i64 n)) (by simp only [wrongR, *, cond_true, cond_false]), hw9.below⟩

end Go.Proofs.YtiehnigbcfkcdaaGreatDoor
