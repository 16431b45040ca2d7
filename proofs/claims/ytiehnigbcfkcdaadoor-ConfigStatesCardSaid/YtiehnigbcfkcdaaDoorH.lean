import Derived.Test.YtiehnigbcfkcdaaDoorG
set_option linter.unusedSimpArgs false
set_option linter.unusedVariables false
namespace Go.Proofs.YtiehnigbcfkcdaaDoor
open Go.RowKit Go.Sx
noncomputable def B3 : Code := (Tryd.f3.body).getD .skip
set_option maxHeartbeats 4000000 in
set_option maxRecDepth 100000 in
theorem checks_walk (g s k sz sl of gp lt ea : Int) (d : Bool) (w : World) (htab : Lib.TabIs Tryd.prog w "strings.asciiSpace" .u8 Lib.asciiSpaceTab) : Calls Tryd.prog 3 #[.agg #[.int .i64 g, .int .i64 s, .int .i64 k, .int .i64 sz, .int .i64 sl, .int .i64 of, .int .i64 gp, .int .i64 lt, .int .i64 ea, .bool d]] w fun e w' => e = .returned (.bool true) ∧ Below w.heap.size w w' := by
  obtain ⟨n, hn⟩ : ∃ n, wrongR g s k sz sl of gp lt ea = n := ⟨_, rfl⟩
  have hw : wrongF g s k sz sl of gp lt ea = n := by rw [wrong_eq, hn]
  by_cases h0 : n = 0
  · subst h0
    have hj : jobE 0 = 0 := rfl
    refine enter (fn := Tryd.f3) (c := B3) [.agg (cfgL g s k sz sl of gp lt ea d)] Tryd.func3 rfl rfl ?_
    refine At.to (noF_stable) (noF_fewer) 20 300 [1, 8] 1 ⟨pops B3 [1, 0] 1, [.seq (sub B3 [1, 1])], [(1, .lp 0 0), (8, .agg (cfgL g s k sz sl of gp lt ea d))], [((cfgL g s k sz sl of gp lt ea d), 24)]⟩ (by kernel_rfl) (by kernel_rfl) ?_
    refine At.call noF_stable 9 [.agg (cfgL g s k sz sl of gp lt ea d)] (.tup [.v (.int .i64 0), .v (.int .i64 0)]) (by kernel_rfl) (by kernel_rfl) (by kernel_rfl) (fun _ _ w1 hi _ => (wrong_any g s k sz sl of gp lt ea d w1).mono fun e w' h => ⟨h.1.trans (by rw [hw, hj]; rfl), h.2⟩) ?_
    refine At.to (noF_stable) (noF_fewer) 20 300 [1, 3, 4, 12] 1 ⟨pops B3 [1, 1, 0] 1, [.seq (sub B3 [1, 1, 1])], [(1, .lp 0 0), (3, .v (.int .i64 0)), (4, .v (.int .i64 0)), (12, .agg (cfgL g s k sz sl of gp lt ea d))], [((cfgL g s k sz sl of gp lt ea d), 24)]⟩ (by kernel_rfl) (by kernel_rfl) ?_
    refine At.call noF_stable 10 [.agg (cfgL g s k sz sl of gp lt ea d)] (.v (.int .i64 0)) (by kernel_rfl) (by kernel_rfl) (by kernel_rfl) (fun _ _ w1 hi _ => (rwrong_any g s k sz sl of gp lt ea d w1).mono fun e w' h => ⟨h.1.trans (by rw [hn]; rfl), h.2⟩) ?_
    refine At.to (noF_stable) (noF_fewer) 20 300 [1, 6, 19, 20] 1 ⟨pops B3 [1, 1, 1, 1, 1, 0] 5, [.seq (sub B3 [1, 1, 1, 1, 1, 1])], [(1, .lp 0 0), (6, .v (.int .i64 0)), (19, .v (.bool true)), (20, .v (.int .i64 0))], [((cfgL g s k sz sl of gp lt ea d), 24)]⟩ (by kernel_rfl) (by kernel_rfl) ?_
    refine At.call (noF_stable) 11 [.v (.int .i64 0)] (.io .i64 0) (by kernel_rfl) (by kernel_rfl) (by kernel_rfl) (fun _ _ w _ _ => num_any (0) w) ?_
    refine At.to (noF_stable) (noF_fewer) 20 300 [1, 6, 25] 1 ⟨pops B3 [1, 1, 1, 1, 1, 0] 10, [.seq (sub B3 [1, 1, 1, 1, 1, 1])], [(1, .lp 0 0), (6, .v (.int .i64 0)), (25, .bo true)], [((cfgL g s k sz sl of gp lt ea d), 24)]⟩ (by kernel_rfl) (by kernel_rfl) ?_
    refine At.res 25 (true) true (by kernel_rfl) (by first | assumption | (simp only [*]; done) | (simp [*]; done)) ?_
    refine At.to (noF_stable) (noF_fewer) 20 300 [6, 25, 26] 0 ⟨pops B3 [1, 1, 1, 1, 1, 0] 11, [.seq (sub B3 [1, 1, 1, 1, 1, 1])], [(6, .v (.int .i64 0)), (25, .v (.bool true)), (26, .agg (cfgL g s k sz sl of gp lt ea d))], []⟩ (by kernel_rfl) (by kernel_rfl) ?_
    refine At.call noF_stable 12 [.agg (cfgL g s k sz sl of gp lt ea d)] (.v (.int .i64 0)) (by kernel_rfl) (by kernel_rfl) (by kernel_rfl) (fun _ _ w1 hi _ => (check_any g s k sz sl of gp lt ea d w1).mono fun e w' h => ⟨h.1.trans (by rw [hw, hj]; rfl), h.2⟩) ?_
    refine At.to (noF_stable) (noF_fewer) 20 300 [6, 25, 27] 0 ⟨pops B3 [1, 1, 1, 1, 1, 0] 12, [.seq (sub B3 [1, 1, 1, 1, 1, 1])], [(6, .v (.int .i64 0)), (25, .v (.bool true)), (27, .v (.int .i64 0))], []⟩ (by kernel_rfl) (by kernel_rfl) ?_
    refine At.call (noF_stable) 11 [.v (.int .i64 0)] (.io .i64 0) (by kernel_rfl) (by kernel_rfl) (by kernel_rfl) (fun _ _ w _ _ => num_any (0) w) ?_
    refine At.to (noF_stable) (noF_fewer) 20 300 [32] 0 ⟨pops B3 [1, 1, 1, 1, 1, 0] 17, [.seq (sub B3 [1, 1, 1, 1, 1, 1])], [(32, .bo true)], []⟩ (by kernel_rfl) (by kernel_rfl) ?_
    refine At.res 32 (true) true (by kernel_rfl) (by first | assumption | (simp only [*]; done) | (simp [*]; done)) ?_
    refine At.to (noF_stable) (noF_fewer) 20 300 [32] 0 ⟨pops B3 [1, 1, 1, 1, 1, 0] 17, [.seq (sub B3 [1, 1, 1, 1, 1, 1])], [(32, .v (.bool true))], []⟩ (by kernel_rfl) (by kernel_rfl) ?_
    refine At.call noF_stable 13 [] (.v (.bool true)) (by kernel_rfl) (by kernel_rfl) (by kernel_rfl) (fun _ _ w1 hi _ => works_true w1 (tab_below htab hi.mem.below rfl)) ?_
    refine At.to (noF_stable) (noF_fewer) 20 300 [2] 0 ⟨.exit .ret, [], [(2, .v (.bool true))], []⟩ (by kernel_rfl) (by kernel_rfl) ?_
    refine At.ret (by kernel_rfl) (.v (.bool true)) (by kernel_rfl) ?_
    intro ρ w9 hm hf
    exact ⟨rfl, hm.below⟩
  · have hj : jobE n = 4 := if_neg h0
    have hb : (n != 0) = true := by simp [h0]
    have hb2 : (n == n) = true := by simp
    refine enter (fn := Tryd.f3) (c := B3) [.agg (cfgL g s k sz sl of gp lt ea d)] Tryd.func3 rfl rfl ?_
    refine At.to (noF_stable) (noF_fewer) 20 300 [1, 8] 1 ⟨pops B3 [1, 0] 1, [.seq (sub B3 [1, 1])], [(1, .lp 0 0), (8, .agg (cfgL g s k sz sl of gp lt ea d))], [((cfgL g s k sz sl of gp lt ea d), 24)]⟩ (by kernel_rfl) (by kernel_rfl) ?_
    refine At.call noF_stable 9 [.agg (cfgL g s k sz sl of gp lt ea d)] (.tup [.io .i64 n, .v (.int .i64 4)]) (by kernel_rfl) (by kernel_rfl) (by kernel_rfl) (fun _ _ w1 hi _ => (wrong_any g s k sz sl of gp lt ea d w1).mono fun e w' h => ⟨h.1.trans (by rw [hw, hj]; rfl), h.2⟩) ?_
    refine At.to (noF_stable) (noF_fewer) 20 300 [1, 3, 4, 12] 1 ⟨pops B3 [1, 1, 0] 1, [.seq (sub B3 [1, 1, 1])], [(1, .lp 0 0), (3, .io .i64 n), (4, .v (.int .i64 4)), (12, .agg (cfgL g s k sz sl of gp lt ea d))], [((cfgL g s k sz sl of gp lt ea d), 24)]⟩ (by kernel_rfl) (by kernel_rfl) ?_
    refine At.call noF_stable 10 [.agg (cfgL g s k sz sl of gp lt ea d)] (.io .i64 n) (by kernel_rfl) (by kernel_rfl) (by kernel_rfl) (fun _ _ w1 hi _ => (rwrong_any g s k sz sl of gp lt ea d w1).mono fun e w' h => ⟨h.1.trans (by rw [hn]; rfl), h.2⟩) ?_
    refine At.to (noF_stable) (noF_fewer) 20 300 [1, 3, 4, 5, 6, 15] 1 ⟨.code (sub B3 [1, 1, 1, 1, 0, 1]), [.seq (sub B3 [1, 1, 1, 1, 1])], [(1, .lp 0 0), (3, .io .i64 n), (4, .v (.int .i64 4)), (5, .io .i64 n), (6, .v (.int .i64 0)), (15, .bo (n != 0))], [((cfgL g s k sz sl of gp lt ea d), 24)]⟩ (by kernel_rfl) (by kernel_rfl) ?_
    refine At.res 15 (n != 0) true (by kernel_rfl) hb ?_
    refine At.to (noF_stable) (noF_fewer) 20 300 [1, 4, 6, 19] 1 ⟨pops B3 [1, 1, 1, 1, 1, 0] 4, [.seq (sub B3 [1, 1, 1, 1, 1, 1])], [(1, .lp 0 0), (4, .v (.int .i64 4)), (6, .v (.int .i64 4)), (19, .bo (n == n))], [((cfgL g s k sz sl of gp lt ea d), 24)]⟩ (by kernel_rfl) (by kernel_rfl) ?_
    refine At.res 19 (n == n) true (by kernel_rfl) hb2 ?_
    refine At.to (noF_stable) (noF_fewer) 20 300 [1, 6, 19, 20] 1 ⟨pops B3 [1, 1, 1, 1, 1, 0] 5, [.seq (sub B3 [1, 1, 1, 1, 1, 1])], [(1, .lp 0 0), (6, .v (.int .i64 4)), (19, .v (.bool true)), (20, .v (.int .i64 4))], [((cfgL g s k sz sl of gp lt ea d), 24)]⟩ (by kernel_rfl) (by kernel_rfl) ?_
    refine At.call (noF_stable) 11 [.v (.int .i64 4)] (.io .i64 4) (by kernel_rfl) (by kernel_rfl) (by kernel_rfl) (fun _ _ w _ _ => num_any (4) w) ?_
    refine At.to (noF_stable) (noF_fewer) 20 300 [1, 6, 25] 1 ⟨pops B3 [1, 1, 1, 1, 1, 0] 10, [.seq (sub B3 [1, 1, 1, 1, 1, 1])], [(1, .lp 0 0), (6, .v (.int .i64 4)), (25, .bo true)], [((cfgL g s k sz sl of gp lt ea d), 24)]⟩ (by kernel_rfl) (by kernel_rfl) ?_
    refine At.res 25 (true) true (by kernel_rfl) (by first | assumption | (simp only [*]; done) | (simp [*]; done)) ?_
    refine At.to (noF_stable) (noF_fewer) 20 300 [6, 25, 26] 0 ⟨pops B3 [1, 1, 1, 1, 1, 0] 11, [.seq (sub B3 [1, 1, 1, 1, 1, 1])], [(6, .v (.int .i64 4)), (25, .v (.bool true)), (26, .agg (cfgL g s k sz sl of gp lt ea d))], []⟩ (by kernel_rfl) (by kernel_rfl) ?_
    refine At.call noF_stable 12 [.agg (cfgL g s k sz sl of gp lt ea d)] (.v (.int .i64 4)) (by kernel_rfl) (by kernel_rfl) (by kernel_rfl) (fun _ _ w1 hi _ => (check_any g s k sz sl of gp lt ea d w1).mono fun e w' h => ⟨h.1.trans (by rw [hw, hj]; rfl), h.2⟩) ?_
    refine At.to (noF_stable) (noF_fewer) 20 300 [6, 25, 27] 0 ⟨pops B3 [1, 1, 1, 1, 1, 0] 12, [.seq (sub B3 [1, 1, 1, 1, 1, 1])], [(6, .v (.int .i64 4)), (25, .v (.bool true)), (27, .v (.int .i64 4))], []⟩ (by kernel_rfl) (by kernel_rfl) ?_
    refine At.call (noF_stable) 11 [.v (.int .i64 4)] (.io .i64 4) (by kernel_rfl) (by kernel_rfl) (by kernel_rfl) (fun _ _ w _ _ => num_any (4) w) ?_
    refine At.to (noF_stable) (noF_fewer) 20 300 [32] 0 ⟨pops B3 [1, 1, 1, 1, 1, 0] 17, [.seq (sub B3 [1, 1, 1, 1, 1, 1])], [(32, .bo true)], []⟩ (by kernel_rfl) (by kernel_rfl) ?_
    refine At.res 32 (true) true (by kernel_rfl) (by first | assumption | (simp only [*]; done) | (simp [*]; done)) ?_
    refine At.to (noF_stable) (noF_fewer) 20 300 [32] 0 ⟨pops B3 [1, 1, 1, 1, 1, 0] 17, [.seq (sub B3 [1, 1, 1, 1, 1, 1])], [(32, .v (.bool true))], []⟩ (by kernel_rfl) (by kernel_rfl) ?_
    refine At.call noF_stable 13 [] (.v (.bool true)) (by kernel_rfl) (by kernel_rfl) (by kernel_rfl) (fun _ _ w1 hi _ => works_true w1 (tab_below htab hi.mem.below rfl)) ?_
    refine At.to (noF_stable) (noF_fewer) 20 300 [2] 0 ⟨.exit .ret, [], [(2, .v (.bool true))], []⟩ (by kernel_rfl) (by kernel_rfl) ?_
    refine At.ret (by kernel_rfl) (.v (.bool true)) (by kernel_rfl) ?_
    intro ρ w9 hm hf
    exact ⟨rfl, hm.below⟩

end Go.Proofs.YtiehnigbcfkcdaaDoor
