import Derived.Test.YtiehnigbcfkcdaaDoorH
import Derived.Test.YtiehnigbcfkcdaaDoorSxW
set_option linter.unusedSimpArgs false
set_option linter.unusedVariables false
namespace Go.Proofs.YtiehnigbcfkcdaaDoor
open Go.RowKit Go.Sx

/-- Is it a time? -/
def timeB (t : Int) : Bool := decide (-4611686018427387904 ≤ t) && decide (t ≤ 4611686018427387904)
def it1 (key : ByteArray) (t src : Int) : Bool := decide ((key.size : Int) ≤ 256) && (timeB t && (src == 0))
def it2 (s : Int) (key : ByteArray) (t v src : Int) : Bool := decide (src ≥ 0) && (decide (src < s) && (timeB t && ((key.toList == (ByteArray.mk #[]).toList) && (v == 0))))
def it3 (key : ByteArray) (t v src : Int) : Bool := (key.toList == (ByteArray.mk #[]).toList) && ((t == 0) && ((v == 0) && (src == 0)))
def itN : Bool := false
theorem size0 (key : ByteArray) (h : (key.toList == (ByteArray.mk #[]).toList) = true) : key.size = 0 := by
  have h' := eq_of_beq h
  rw [ByteArray.toList_eq, ByteArray.toList_eq] at h'
  have := congrArg List.length h'
  simpa using this
theorem wrong_s {g s k sz sl of gp lt ea : Int} (h : wrongF g s k sz sl of gp lt ea = 0) : 1 ≤ s ∧ s ≤ 64 := by
  unfold wrongF at h
  cases h1 : (decide (1 ≤ g) && decide (g ≤ 32768)) with
  | false => rw [h1] at h; simp at h
  | true =>
    rw [h1] at h
    cases h2 : (decide (1 ≤ s) && decide (s ≤ 64)) with
    | false => rw [h2] at h; simp at h
    | true => simpa using h2

noncomputable def B41 : Code := (Tryd.f41.body).getD .skip
set_option maxHeartbeats 4000000 in
set_option maxRecDepth 100000 in
theorem istime_any (t : Int) (w : World) : Calls Tryd.prog 41 #[.int .i64 t] w fun e w' => e = .returned (.bool (timeB t)) ∧ Below w.heap.size w w' := by
  refine enter (fn := Tryd.f41) (c := B41) [.io .i64 t] Tryd.func41 rfl rfl ?_
  refine At.to noF_stable noF_fewer 20 400 [3] 0 ⟨pops B41 [1, 0] 1, [.seq (sub B41 [1, 1])], [(3, .io .i64 t)], []⟩ (by kernel_rfl) (by kernel_rfl) ?_
  refine At.call noF_stable 28 [.io .i64 t, .v (.int .i64 (-4611686018427387904)), .v (.int .i64 4611686018427387904)] (.bo (decide (-4611686018427387904 ≤ t) && decide (t ≤ 4611686018427387904))) (by kernel_rfl) (by kernel_rfl) (by kernel_rfl) (fun _ _ w _ _ => within_any (t) (-4611686018427387904) (4611686018427387904) w) ?_
  refine At.to noF_stable noF_fewer 20 400 [2] 0 ⟨.exit .ret, [], [(2, .bo (decide (-4611686018427387904 ≤ t) && decide (t ≤ 4611686018427387904)))], []⟩ (by kernel_rfl) (by kernel_rfl) ?_
  refine At.ret (by kernel_rfl) (.bo (decide (-4611686018427387904 ≤ t) && decide (t ≤ 4611686018427387904))) (by kernel_rfl) ?_
  intro ρ w9 hw9 _
  exact ⟨rfl, hw9.below⟩

noncomputable def B42 : Code := (Tryd.f42.body).getD .skip
set_option maxHeartbeats 4000000 in
set_option maxRecDepth 100000 in
theorem time_any (t : Int) (w : World) : Calls Tryd.prog 42 #[.int .i64 t] w fun e w' => e = .returned (.bool (timeB t)) ∧ Below w.heap.size w w' := by
  refine enter (fn := Tryd.f42) (c := B42) [.io .i64 t] Tryd.func42 rfl rfl ?_
  refine At.to noF_stable noF_fewer 20 400 [3] 0 ⟨pops B42 [1, 0] 1, [.seq (sub B42 [1, 1])], [(3, .io .i64 t)], []⟩ (by kernel_rfl) (by kernel_rfl) ?_
  refine At.call noF_stable 45 [.io .i64 t, .v (.int .i64 (-4611686018427387904)), .v (.int .i64 4611686018427387904)] (.bo (decide (-4611686018427387904 ≤ t) && decide (t ≤ 4611686018427387904))) (by kernel_rfl) (by kernel_rfl) (by kernel_rfl) (fun _ _ w _ _ => rwithin_any (t) (-4611686018427387904) (4611686018427387904) w) ?_
  refine At.to noF_stable noF_fewer 20 400 [2] 0 ⟨.exit .ret, [], [(2, .bo (decide (-4611686018427387904 ≤ t) && decide (t ≤ 4611686018427387904)))], []⟩ (by kernel_rfl) (by kernel_rfl) ?_
  refine At.ret (by kernel_rfl) (.bo (decide (-4611686018427387904 ≤ t) && decide (t ≤ 4611686018427387904))) (by kernel_rfl) ?_
  intro ρ w9 hw9 _
  exact ⟨rfl, hw9.below⟩

noncomputable def B18 : Code := (Tryd.f18.body).getD .skip
set_option maxHeartbeats 4000000 in
set_option maxRecDepth 100000 in
theorem item_1 (g s k sz sl of gp lt ea : Int) (d : Bool) (key : ByteArray) (t v src : Int) (w : World) (h0 : wrongF g s k sz sl of gp lt ea = 0) : Calls Tryd.prog 18 #[.agg #[.int .i64 g, .int .i64 s, .int .i64 k, .int .i64 sz, .int .i64 sl, .int .i64 of, .int .i64 gp, .int .i64 lt, .int .i64 ea, .bool d], .agg #[.int .i64 1, .string key, .int .i64 t, .int .i64 v, .int .i64 src]] w fun e w' => e = .returned (.int .i64 (bif it1 key t src then 0 else 5)) ∧ Below w.heap.size w w' := by
  have hs := wrong_s h0
  refine enter (fn := Tryd.f18) (c := B18) [.agg (cfgL g s k sz sl of gp lt ea d), .agg [.v (.int .i64 1), .so key, .io .i64 t, .io .i64 v, .io .i64 src]] Tryd.func18 rfl rfl ?_
  refine At.to (noF_stable) (noF_fewer) 20 300 [2, 3, 7] 2 ⟨pops B18 [1, 0, 0] 1, [.seq (sub B18 [1, 0, 1]), .seq (sub B18 [1, 1])], [(2, .lp 0 0), (3, .lp 1 0), (7, .agg (cfgL g s k sz sl of gp lt ea d))], [((cfgL g s k sz sl of gp lt ea d), 24), ([.v (.int .i64 1), .so key, .io .i64 t, .io .i64 v, .io .i64 src], 44)]⟩ (by kernel_rfl) (by kernel_rfl) ?_
  refine At.call noF_stable 12 [.agg (cfgL g s k sz sl of gp lt ea d)] (.v (.int .i64 0)) (by kernel_rfl) (by kernel_rfl) (by kernel_rfl) (fun _ _ w1 hi _ => (check_any g s k sz sl of gp lt ea d w1).mono fun e w' h => ⟨h.1.trans (by rw [h0]; rfl), h.2⟩) ?_
  refine At.to (noF_stable) (noF_fewer) 20 300 [2, 3, 6] 3 ⟨.any (opsOf (sub B18 [1, 1, 1, 0, 1, 4, 1, 2])) 12 [], [.block 0, .seq (sub B18 [1, 1, 1, 1])], [(2, .lp 0 0), (3, .lp 1 0), (6, .lp 2 0)], [((cfgL g s k sz sl of gp lt ea d), 24), ([.v (.int .i64 1), .so key, .io .i64 t, .io .i64 v, .io .i64 src], 44), ([.v (.int .i64 1), .v (.string (ByteArray.mk #[])), .v (.int .i64 0), .v (.int .i64 0), .v (.int .i64 0)], 44)]⟩ (by kernel_rfl) (by kernel_rfl) ?_
  refine At.anyOrder noF_stable (j := 0) (fun _ _ _ _ _ => trivial) rfl 20 15 [2, 3, 6] 3 [(2, .lp 0 0), (3, .lp 1 0), (6, .lp 2 0)] ([((cfgL g s k sz sl of gp lt ea d), 24), ([.v (.int .i64 1), .so key, .io .i64 t, .io .i64 v, .io .i64 src], 44), ([.v (.int .i64 1), .so key, .io .i64 t, .io .i64 v, .v (.int .i64 0)], 44)]) (by kernel_rfl) (by kernel_rfl) ?_
  refine At.to (noF_stable) (noF_fewer) 20 300 [2, 3, 41] 2 ⟨pops B18 [1, 1, 1, 1, 0, 0] 4, [.seq (sub B18 [1, 1, 1, 1, 0, 1]), .seq (sub B18 [1, 1, 1, 1, 1])], [(2, .lp 0 0), (3, .lp 1 0), (41, .bo !(1 == 1 && (key.toList == key.toList && (t == t && (v == v && (src == 0 && true))))))], [((cfgL g s k sz sl of gp lt ea d), 24), ([.v (.int .i64 1), .so key, .io .i64 t, .io .i64 v, .io .i64 src], 44)]⟩ (by kernel_rfl) (by kernel_rfl) ?_
  rcases Bool.eq_false_or_eq_true (!(1 == 1 && (key.toList == key.toList && (t == t && (v == v && (src == 0 && true)))))) with b0 | b0
  · refine At.res 41 (!(1 == 1 && (key.toList == key.toList && (t == t && (v == v && (src == 0 && true)))))) true (by kernel_rfl) b0 ?_
    refine At.to (noF_stable) (noF_fewer) 20 300 [4] 0 ⟨.exit .ret, [], [(4, .v (.int .i64 5))], []⟩ (by kernel_rfl) (by kernel_rfl) ?_
    refine At.ret (by kernel_rfl) (.v (.int .i64 5)) (by kernel_rfl) ?_
    have hq : it1 key t src = false := by
      have hsrc : (src == 0) = false := by simpa only [BEq.rfl, Bool.true_and, Bool.and_true, Bool.not_eq_true'] using b0
      unfold it1
      rw [hsrc]
      simp
    intro ρ w9 hw9 _
    exact ⟨by rw [hq]; rfl, hw9.below⟩
  · refine At.res 41 (!(1 == 1 && (key.toList == key.toList && (t == t && (v == v && (src == 0 && true)))))) false (by kernel_rfl) b0 ?_
    refine At.to (noF_stable) (noF_fewer) 20 300 [2, 3, 47] 2 ⟨pops B18 [1, 1, 1, 1, 0, 0] 10, [.seq (sub B18 [1, 1, 1, 1, 0, 1]), .seq (sub B18 [1, 1, 1, 1, 1])], [(2, .lp 0 0), (3, .lp 1 0), (47, .bo (decide ((↑key.size : Int) > 256)))], [((cfgL g s k sz sl of gp lt ea d), 24), ([.v (.int .i64 1), .so key, .io .i64 t, .io .i64 v, .io .i64 src], 44)]⟩ (by kernel_rfl) (by kernel_rfl) ?_
    rcases Bool.eq_false_or_eq_true (decide ((↑key.size : Int) > 256)) with b1 | b1
    · refine At.res 47 (decide ((↑key.size : Int) > 256)) true (by kernel_rfl) b1 ?_
      refine At.to (noF_stable) (noF_fewer) 20 300 [4] 0 ⟨.exit .ret, [], [(4, .v (.int .i64 5))], []⟩ (by kernel_rfl) (by kernel_rfl) ?_
      refine At.ret (by kernel_rfl) (.v (.int .i64 5)) (by kernel_rfl) ?_
      have hq : it1 key t src = false := by
        have hbig : decide ((key.size : Int) ≤ 256) = false := decide_eq_false (by have := of_decide_eq_true b1; omega)
        unfold it1
        rw [hbig]
        rfl
      intro ρ w9 hw9 _
      exact ⟨by rw [hq]; rfl, hw9.below⟩
    · refine At.res 47 (decide ((↑key.size : Int) > 256)) false (by kernel_rfl) b1 ?_
      refine At.to (noF_stable) (noF_fewer) 20 300 [2, 3, 47, 49] 2 ⟨pops B18 [1, 1, 1, 1, 0, 0] 12, [.seq (sub B18 [1, 1, 1, 1, 0, 1]), .seq (sub B18 [1, 1, 1, 1, 1])], [(2, .lp 0 0), (3, .lp 1 0), (47, .v (.bool false)), (49, .io .i64 t)], [((cfgL g s k sz sl of gp lt ea d), 24), ([.v (.int .i64 1), .so key, .io .i64 t, .io .i64 v, .io .i64 src], 44)]⟩ (by kernel_rfl) (by kernel_rfl) ?_
      refine At.call (noF_stable) 41 [.io .i64 t] (.bo (timeB t)) (by kernel_rfl) (by kernel_rfl) (by kernel_rfl) (fun _ _ w _ _ => istime_any (t) w) ?_
      refine At.to (noF_stable) (noF_fewer) 20 300 [2, 3, 53] 2 ⟨pops B18 [1, 1, 1, 1, 0, 0] 16, [.seq (sub B18 [1, 1, 1, 1, 0, 1]), .seq (sub B18 [1, 1, 1, 1, 1])], [(2, .lp 0 0), (3, .lp 1 0), (53, .bo !timeB t)], [((cfgL g s k sz sl of gp lt ea d), 24), ([.v (.int .i64 1), .so key, .io .i64 t, .io .i64 v, .io .i64 src], 44)]⟩ (by kernel_rfl) (by kernel_rfl) ?_
      rcases Bool.eq_false_or_eq_true (!timeB t) with b2 | b2
      · refine At.res 53 (!timeB t) true (by kernel_rfl) b2 ?_
        refine At.to (noF_stable) (noF_fewer) 20 300 [4] 0 ⟨.exit .ret, [], [(4, .v (.int .i64 5))], []⟩ (by kernel_rfl) (by kernel_rfl) ?_
        refine At.ret (by kernel_rfl) (.v (.int .i64 5)) (by kernel_rfl) ?_
        have hq : it1 key t src = false := by
          have ht : timeB t = false := by simpa using b2
          unfold it1
          rw [ht]
          simp
        intro ρ w9 hw9 _
        exact ⟨by rw [hq]; rfl, hw9.below⟩
      · refine At.res 53 (!timeB t) false (by kernel_rfl) b2 ?_
        refine At.to (noF_stable) (noF_fewer) 20 300 [53, 55, 58] 0 ⟨pops B18 [1, 1, 1, 1, 0, 0] 21, [.seq (sub B18 [1, 1, 1, 1, 0, 1]), .seq (sub B18 [1, 1, 1, 1, 1])], [(53, .v (.bool false)), (55, .io .i64 src), (58, .io .i64 (IntKind.i64.wrap (s - 1)))], []⟩ (by kernel_rfl) (by kernel_rfl) ?_
        refine At.call (noF_stable) 28 [.io .i64 src, .v (.int .i64 0), .io .i64 (IntKind.i64.wrap (s - 1))] (.bo (decide (0 ≤ src) && decide (src ≤ IntKind.i64.wrap (s - 1)))) (by kernel_rfl) (by kernel_rfl) (by kernel_rfl) (fun _ _ w _ _ => within_any (src) (0) (IntKind.i64.wrap (s - 1)) w) ?_
        refine At.to (noF_stable) (noF_fewer) 20 300 [61] 0 ⟨.code (sub B18 [1, 1, 1, 1, 0, 1]), [.seq (sub B18 [1, 1, 1, 1, 1])], [(61, .bo !(decide (0 ≤ src) && decide (src ≤ IntKind.i64.wrap (s - 1))))], []⟩ (by kernel_rfl) (by kernel_rfl) ?_
        rcases Bool.eq_false_or_eq_true (!(decide (0 ≤ src) && decide (src ≤ IntKind.i64.wrap (s - 1)))) with b3 | b3
        · refine At.res 61 (!(decide (0 ≤ src) && decide (src ≤ IntKind.i64.wrap (s - 1)))) true (by kernel_rfl) b3 ?_
          refine At.to (noF_stable) (noF_fewer) 20 300 [4] 0 ⟨.exit .ret, [], [(4, .v (.int .i64 5))], []⟩ (by kernel_rfl) (by kernel_rfl) ?_
          refine At.ret (by kernel_rfl) (.v (.int .i64 5)) (by kernel_rfl) ?_
          have hq : it1 key t src = false := by
            have hsrc : (src == 0) = true := by simpa only [BEq.rfl, Bool.true_and, Bool.and_true, Bool.not_eq_false'] using b0
  
            have h1 : src = 0 := by simpa using hsrc
            subst h1
            rw [wrap63 (by omega) (by omega)] at b3
            have h2 : decide ((0 : Int) ≤ 0) = true := rfl
            have h3 : decide (0 ≤ s - 1) = true := decide_eq_true (by omega)
            rw [h2, h3] at b3
            cases b3
          intro ρ w9 hw9 _
          exact ⟨by rw [hq]; rfl, hw9.below⟩
        · refine At.res 61 (!(decide (0 ≤ src) && decide (src ≤ IntKind.i64.wrap (s - 1)))) false (by kernel_rfl) b3 ?_
          refine At.to (noF_stable) (noF_fewer) 20 300 [4] 0 ⟨.exit .ret, [], [(4, .v (.int .i64 0))], []⟩ (by kernel_rfl) (by kernel_rfl) ?_
          refine At.ret (by kernel_rfl) (.v (.int .i64 0)) (by kernel_rfl) ?_
          have hq : it1 key t src = true := by
            have hsrc : (src == 0) = true := by simpa only [BEq.rfl, Bool.true_and, Bool.and_true, Bool.not_eq_false'] using b0
            have hsml : decide ((key.size : Int) ≤ 256) = true := decide_eq_true (by have := of_decide_eq_false b1; omega)
  
            have ht : timeB t = true := by simpa using b2
            unfold it1
            rw [hsrc, hsml, ht]
            rfl
          intro ρ w9 hw9 _
          exact ⟨by rw [hq]; rfl, hw9.below⟩

set_option maxHeartbeats 4000000 in
set_option maxRecDepth 100000 in
theorem item_2 (g s k sz sl of gp lt ea : Int) (d : Bool) (key : ByteArray) (t v src : Int) (w : World) (h0 : wrongF g s k sz sl of gp lt ea = 0) : Calls Tryd.prog 18 #[.agg #[.int .i64 g, .int .i64 s, .int .i64 k, .int .i64 sz, .int .i64 sl, .int .i64 of, .int .i64 gp, .int .i64 lt, .int .i64 ea, .bool d], .agg #[.int .i64 2, .string key, .int .i64 t, .int .i64 v, .int .i64 src]] w fun e w' => e = .returned (.int .i64 (bif it2 s key t v src then 0 else 5)) ∧ Below w.heap.size w w' := by
  have hs := wrong_s h0
  refine enter (fn := Tryd.f18) (c := B18) [.agg (cfgL g s k sz sl of gp lt ea d), .agg [.v (.int .i64 2), .so key, .io .i64 t, .io .i64 v, .io .i64 src]] Tryd.func18 rfl rfl ?_
  refine At.to (noF_stable) (noF_fewer) 20 300 [2, 3, 7] 2 ⟨pops B18 [1, 0, 0] 1, [.seq (sub B18 [1, 0, 1]), .seq (sub B18 [1, 1])], [(2, .lp 0 0), (3, .lp 1 0), (7, .agg (cfgL g s k sz sl of gp lt ea d))], [((cfgL g s k sz sl of gp lt ea d), 24), ([.v (.int .i64 2), .so key, .io .i64 t, .io .i64 v, .io .i64 src], 44)]⟩ (by kernel_rfl) (by kernel_rfl) ?_
  refine At.call noF_stable 12 [.agg (cfgL g s k sz sl of gp lt ea d)] (.v (.int .i64 0)) (by kernel_rfl) (by kernel_rfl) (by kernel_rfl) (fun _ _ w1 hi _ => (check_any g s k sz sl of gp lt ea d w1).mono fun e w' h => ⟨h.1.trans (by rw [h0]; rfl), h.2⟩) ?_
  refine At.to (noF_stable) (noF_fewer) 20 300 [2, 3, 6] 3 ⟨.any (opsOf (sub B18 [1, 1, 1, 0, 1, 4, 1, 3, 1, 2])) 8 [], [.block 0, .seq (sub B18 [1, 1, 1, 1])], [(2, .lp 0 0), (3, .lp 1 0), (6, .lp 2 0)], [((cfgL g s k sz sl of gp lt ea d), 24), ([.v (.int .i64 2), .so key, .io .i64 t, .io .i64 v, .io .i64 src], 44), ([.v (.int .i64 2), .v (.string (ByteArray.mk #[])), .v (.int .i64 0), .v (.int .i64 0), .v (.int .i64 0)], 44)]⟩ (by kernel_rfl) (by kernel_rfl) ?_
  refine At.anyOrder noF_stable (j := 0) (fun _ _ _ _ _ => trivial) rfl 20 3 [2, 3, 6] 3 [(2, .lp 0 0), (3, .lp 1 0), (6, .lp 2 0)] ([((cfgL g s k sz sl of gp lt ea d), 24), ([.v (.int .i64 2), .so key, .io .i64 t, .io .i64 v, .io .i64 src], 44), ([.v (.int .i64 2), .v (.string (ByteArray.mk #[])), .io .i64 t, .v (.int .i64 0), .io .i64 src], 44)]) (by kernel_rfl) (by kernel_rfl) ?_
  refine At.to (noF_stable) (noF_fewer) 20 300 [2, 3, 41] 2 ⟨pops B18 [1, 1, 1, 1, 0, 0] 4, [.seq (sub B18 [1, 1, 1, 1, 0, 1]), .seq (sub B18 [1, 1, 1, 1, 1])], [(2, .lp 0 0), (3, .lp 1 0), (41, .bo !(2 == 2 && (key.toList == (ByteArray.mk #[]).toList && (t == t && (v == 0 && (src == src && true))))))], [((cfgL g s k sz sl of gp lt ea d), 24), ([.v (.int .i64 2), .so key, .io .i64 t, .io .i64 v, .io .i64 src], 44)]⟩ (by kernel_rfl) (by kernel_rfl) ?_
  rcases Bool.eq_false_or_eq_true (!(2 == 2 && (key.toList == (ByteArray.mk #[]).toList && (t == t && (v == 0 && (src == src && true)))))) with b0 | b0
  · refine At.res 41 (!(2 == 2 && (key.toList == (ByteArray.mk #[]).toList && (t == t && (v == 0 && (src == src && true)))))) true (by kernel_rfl) b0 ?_
    refine At.to (noF_stable) (noF_fewer) 20 300 [4] 0 ⟨.exit .ret, [], [(4, .v (.int .i64 5))], []⟩ (by kernel_rfl) (by kernel_rfl) ?_
    refine At.ret (by kernel_rfl) (.v (.int .i64 5)) (by kernel_rfl) ?_
    have hq : it2 s key t v src = false := by
      have hev : ((key.toList == (ByteArray.mk #[]).toList) && (v == 0)) = false := by simpa only [BEq.rfl, Bool.true_and, Bool.and_true, Bool.not_eq_true'] using b0
      unfold it2
      rw [hev]
      simp
    intro ρ w9 hw9 _
    exact ⟨by rw [hq]; rfl, hw9.below⟩
  · refine At.res 41 (!(2 == 2 && (key.toList == (ByteArray.mk #[]).toList && (t == t && (v == 0 && (src == src && true)))))) false (by kernel_rfl) b0 ?_
    refine At.to (noF_stable) (noF_fewer) 20 300 [2, 3, 47] 2 ⟨pops B18 [1, 1, 1, 1, 0, 0] 10, [.seq (sub B18 [1, 1, 1, 1, 0, 1]), .seq (sub B18 [1, 1, 1, 1, 1])], [(2, .lp 0 0), (3, .lp 1 0), (47, .bo (decide ((↑key.size : Int) > 256)))], [((cfgL g s k sz sl of gp lt ea d), 24), ([.v (.int .i64 2), .so key, .io .i64 t, .io .i64 v, .io .i64 src], 44)]⟩ (by kernel_rfl) (by kernel_rfl) ?_
    rcases Bool.eq_false_or_eq_true (decide ((↑key.size : Int) > 256)) with b1 | b1
    · refine At.res 47 (decide ((↑key.size : Int) > 256)) true (by kernel_rfl) b1 ?_
      refine At.to (noF_stable) (noF_fewer) 20 300 [4] 0 ⟨.exit .ret, [], [(4, .v (.int .i64 5))], []⟩ (by kernel_rfl) (by kernel_rfl) ?_
      refine At.ret (by kernel_rfl) (.v (.int .i64 5)) (by kernel_rfl) ?_
      have hq : it2 s key t v src = false := by
        have hev : ((key.toList == (ByteArray.mk #[]).toList) && (v == 0)) = true := by simpa only [BEq.rfl, Bool.true_and, Bool.and_true, Bool.not_eq_false'] using b0
        simp only [Bool.and_eq_true] at hev
  
        have hz := size0 key hev.1
        rw [hz] at b1
        cases b1
      intro ρ w9 hw9 _
      exact ⟨by rw [hq]; rfl, hw9.below⟩
    · refine At.res 47 (decide ((↑key.size : Int) > 256)) false (by kernel_rfl) b1 ?_
      refine At.to (noF_stable) (noF_fewer) 20 300 [2, 3, 47, 49] 2 ⟨pops B18 [1, 1, 1, 1, 0, 0] 12, [.seq (sub B18 [1, 1, 1, 1, 0, 1]), .seq (sub B18 [1, 1, 1, 1, 1])], [(2, .lp 0 0), (3, .lp 1 0), (47, .v (.bool false)), (49, .io .i64 t)], [((cfgL g s k sz sl of gp lt ea d), 24), ([.v (.int .i64 2), .so key, .io .i64 t, .io .i64 v, .io .i64 src], 44)]⟩ (by kernel_rfl) (by kernel_rfl) ?_
      refine At.call (noF_stable) 41 [.io .i64 t] (.bo (timeB t)) (by kernel_rfl) (by kernel_rfl) (by kernel_rfl) (fun _ _ w _ _ => istime_any (t) w) ?_
      refine At.to (noF_stable) (noF_fewer) 20 300 [2, 3, 53] 2 ⟨pops B18 [1, 1, 1, 1, 0, 0] 16, [.seq (sub B18 [1, 1, 1, 1, 0, 1]), .seq (sub B18 [1, 1, 1, 1, 1])], [(2, .lp 0 0), (3, .lp 1 0), (53, .bo !timeB t)], [((cfgL g s k sz sl of gp lt ea d), 24), ([.v (.int .i64 2), .so key, .io .i64 t, .io .i64 v, .io .i64 src], 44)]⟩ (by kernel_rfl) (by kernel_rfl) ?_
      rcases Bool.eq_false_or_eq_true (!timeB t) with b2 | b2
      · refine At.res 53 (!timeB t) true (by kernel_rfl) b2 ?_
        refine At.to (noF_stable) (noF_fewer) 20 300 [4] 0 ⟨.exit .ret, [], [(4, .v (.int .i64 5))], []⟩ (by kernel_rfl) (by kernel_rfl) ?_
        refine At.ret (by kernel_rfl) (.v (.int .i64 5)) (by kernel_rfl) ?_
        have hq : it2 s key t v src = false := by
          have ht : timeB t = false := by simpa using b2
          unfold it2
          rw [ht]
          simp
        intro ρ w9 hw9 _
        exact ⟨by rw [hq]; rfl, hw9.below⟩
      · refine At.res 53 (!timeB t) false (by kernel_rfl) b2 ?_
        refine At.to (noF_stable) (noF_fewer) 20 300 [53, 55, 58] 0 ⟨pops B18 [1, 1, 1, 1, 0, 0] 21, [.seq (sub B18 [1, 1, 1, 1, 0, 1]), .seq (sub B18 [1, 1, 1, 1, 1])], [(53, .v (.bool false)), (55, .io .i64 src), (58, .io .i64 (IntKind.i64.wrap (s - 1)))], []⟩ (by kernel_rfl) (by kernel_rfl) ?_
        refine At.call (noF_stable) 28 [.io .i64 src, .v (.int .i64 0), .io .i64 (IntKind.i64.wrap (s - 1))] (.bo (decide (0 ≤ src) && decide (src ≤ IntKind.i64.wrap (s - 1)))) (by kernel_rfl) (by kernel_rfl) (by kernel_rfl) (fun _ _ w _ _ => within_any (src) (0) (IntKind.i64.wrap (s - 1)) w) ?_
        refine At.to (noF_stable) (noF_fewer) 20 300 [61] 0 ⟨.code (sub B18 [1, 1, 1, 1, 0, 1]), [.seq (sub B18 [1, 1, 1, 1, 1])], [(61, .bo !(decide (0 ≤ src) && decide (src ≤ IntKind.i64.wrap (s - 1))))], []⟩ (by kernel_rfl) (by kernel_rfl) ?_
        rcases Bool.eq_false_or_eq_true (!(decide (0 ≤ src) && decide (src ≤ IntKind.i64.wrap (s - 1)))) with b3 | b3
        · refine At.res 61 (!(decide (0 ≤ src) && decide (src ≤ IntKind.i64.wrap (s - 1)))) true (by kernel_rfl) b3 ?_
          refine At.to (noF_stable) (noF_fewer) 20 300 [4] 0 ⟨.exit .ret, [], [(4, .v (.int .i64 5))], []⟩ (by kernel_rfl) (by kernel_rfl) ?_
          refine At.ret (by kernel_rfl) (.v (.int .i64 5)) (by kernel_rfl) ?_
          have hq : it2 s key t v src = false := by
            rw [wrap63 (by omega) (by omega)] at b3
            unfold it2
            by_cases h1 : 0 ≤ src
            · have h2 : ¬ src < s := by
                intro h2
                rw [decide_eq_true h1, decide_eq_true (show src ≤ s - 1 by omega)] at b3
                cases b3
              rw [decide_eq_false h2]
              simp
            · rw [decide_eq_false (show ¬ src ≥ 0 from h1)]
              rfl
          intro ρ w9 hw9 _
          exact ⟨by rw [hq]; rfl, hw9.below⟩
        · refine At.res 61 (!(decide (0 ≤ src) && decide (src ≤ IntKind.i64.wrap (s - 1)))) false (by kernel_rfl) b3 ?_
          refine At.to (noF_stable) (noF_fewer) 20 300 [4] 0 ⟨.exit .ret, [], [(4, .v (.int .i64 0))], []⟩ (by kernel_rfl) (by kernel_rfl) ?_
          refine At.ret (by kernel_rfl) (.v (.int .i64 0)) (by kernel_rfl) ?_
          have hq : it2 s key t v src = true := by
            have hev : ((key.toList == (ByteArray.mk #[]).toList) && (v == 0)) = true := by simpa only [BEq.rfl, Bool.true_and, Bool.and_true, Bool.not_eq_false'] using b0
            simp only [Bool.and_eq_true] at hev
  
            have ht : timeB t = true := by simpa using b2
            rw [wrap63 (by omega) (by omega)] at b3
            have h1 : 0 ≤ src ∧ src ≤ s - 1 := by simpa using b3
            unfold it2
            rw [hev.1, hev.2, ht, decide_eq_true (show src ≥ 0 by omega), decide_eq_true (show src < s by omega)]
            rfl
          intro ρ w9 hw9 _
          exact ⟨by rw [hq]; rfl, hw9.below⟩

set_option maxHeartbeats 4000000 in
set_option maxRecDepth 100000 in
theorem item_3 (g s k sz sl of gp lt ea : Int) (d : Bool) (key : ByteArray) (t v src : Int) (w : World) (h0 : wrongF g s k sz sl of gp lt ea = 0) : Calls Tryd.prog 18 #[.agg #[.int .i64 g, .int .i64 s, .int .i64 k, .int .i64 sz, .int .i64 sl, .int .i64 of, .int .i64 gp, .int .i64 lt, .int .i64 ea, .bool d], .agg #[.int .i64 3, .string key, .int .i64 t, .int .i64 v, .int .i64 src]] w fun e w' => e = .returned (.int .i64 (bif it3 key t v src then 0 else 5)) ∧ Below w.heap.size w w' := by
  have hs := wrong_s h0
  refine enter (fn := Tryd.f18) (c := B18) [.agg (cfgL g s k sz sl of gp lt ea d), .agg [.v (.int .i64 3), .so key, .io .i64 t, .io .i64 v, .io .i64 src]] Tryd.func18 rfl rfl ?_
  refine At.to (noF_stable) (noF_fewer) 20 300 [2, 3, 7] 2 ⟨pops B18 [1, 0, 0] 1, [.seq (sub B18 [1, 0, 1]), .seq (sub B18 [1, 1])], [(2, .lp 0 0), (3, .lp 1 0), (7, .agg (cfgL g s k sz sl of gp lt ea d))], [((cfgL g s k sz sl of gp lt ea d), 24), ([.v (.int .i64 3), .so key, .io .i64 t, .io .i64 v, .io .i64 src], 44)]⟩ (by kernel_rfl) (by kernel_rfl) ?_
  refine At.call noF_stable 12 [.agg (cfgL g s k sz sl of gp lt ea d)] (.v (.int .i64 0)) (by kernel_rfl) (by kernel_rfl) (by kernel_rfl) (fun _ _ w1 hi _ => (check_any g s k sz sl of gp lt ea d w1).mono fun e w' h => ⟨h.1.trans (by rw [h0]; rfl), h.2⟩) ?_
  refine At.to (noF_stable) (noF_fewer) 20 300 [2, 3, 41] 2 ⟨pops B18 [1, 1, 1, 1, 0, 0] 4, [.seq (sub B18 [1, 1, 1, 1, 0, 1]), .seq (sub B18 [1, 1, 1, 1, 1])], [(2, .lp 0 0), (3, .lp 1 0), (41, .bo !(3 == 3 && (key.toList == (ByteArray.mk #[]).toList && (t == 0 && (v == 0 && (src == 0 && true))))))], [((cfgL g s k sz sl of gp lt ea d), 24), ([.v (.int .i64 3), .so key, .io .i64 t, .io .i64 v, .io .i64 src], 44)]⟩ (by kernel_rfl) (by kernel_rfl) ?_
  rcases Bool.eq_false_or_eq_true (!(3 == 3 && (key.toList == (ByteArray.mk #[]).toList && (t == 0 && (v == 0 && (src == 0 && true)))))) with b0 | b0
  · refine At.res 41 (!(3 == 3 && (key.toList == (ByteArray.mk #[]).toList && (t == 0 && (v == 0 && (src == 0 && true)))))) true (by kernel_rfl) b0 ?_
    refine At.to (noF_stable) (noF_fewer) 20 300 [4] 0 ⟨.exit .ret, [], [(4, .v (.int .i64 5))], []⟩ (by kernel_rfl) (by kernel_rfl) ?_
    refine At.ret (by kernel_rfl) (.v (.int .i64 5)) (by kernel_rfl) ?_
    have hq : it3 key t v src = false := by
      simpa only [it3, BEq.rfl, Bool.true_and, Bool.and_true, Bool.not_eq_true'] using b0
    intro ρ w9 hw9 _
    exact ⟨by rw [hq]; rfl, hw9.below⟩
  · refine At.res 41 (!(3 == 3 && (key.toList == (ByteArray.mk #[]).toList && (t == 0 && (v == 0 && (src == 0 && true)))))) false (by kernel_rfl) b0 ?_
    refine At.to (noF_stable) (noF_fewer) 20 300 [2, 3, 47] 2 ⟨pops B18 [1, 1, 1, 1, 0, 0] 10, [.seq (sub B18 [1, 1, 1, 1, 0, 1]), .seq (sub B18 [1, 1, 1, 1, 1])], [(2, .lp 0 0), (3, .lp 1 0), (47, .bo (decide ((↑key.size : Int) > 256)))], [((cfgL g s k sz sl of gp lt ea d), 24), ([.v (.int .i64 3), .so key, .io .i64 t, .io .i64 v, .io .i64 src], 44)]⟩ (by kernel_rfl) (by kernel_rfl) ?_
    rcases Bool.eq_false_or_eq_true (decide ((↑key.size : Int) > 256)) with b1 | b1
    · refine At.res 47 (decide ((↑key.size : Int) > 256)) true (by kernel_rfl) b1 ?_
      refine At.to (noF_stable) (noF_fewer) 20 300 [4] 0 ⟨.exit .ret, [], [(4, .v (.int .i64 5))], []⟩ (by kernel_rfl) (by kernel_rfl) ?_
      refine At.ret (by kernel_rfl) (.v (.int .i64 5)) (by kernel_rfl) ?_
      have hq : it3 key t v src = false := by
        have h3 : it3 key t v src = true := by simpa only [it3, BEq.rfl, Bool.true_and, Bool.and_true, Bool.not_eq_false'] using b0
        have h4 := h3
        simp only [it3, Bool.and_eq_true] at h4
  
        have hz := size0 key h4.1
        rw [hz] at b1
        cases b1
      intro ρ w9 hw9 _
      exact ⟨by rw [hq]; rfl, hw9.below⟩
    · refine At.res 47 (decide ((↑key.size : Int) > 256)) false (by kernel_rfl) b1 ?_
      refine At.to (noF_stable) (noF_fewer) 20 300 [2, 3, 47, 49] 2 ⟨pops B18 [1, 1, 1, 1, 0, 0] 12, [.seq (sub B18 [1, 1, 1, 1, 0, 1]), .seq (sub B18 [1, 1, 1, 1, 1])], [(2, .lp 0 0), (3, .lp 1 0), (47, .v (.bool false)), (49, .io .i64 t)], [((cfgL g s k sz sl of gp lt ea d), 24), ([.v (.int .i64 3), .so key, .io .i64 t, .io .i64 v, .io .i64 src], 44)]⟩ (by kernel_rfl) (by kernel_rfl) ?_
      refine At.call (noF_stable) 41 [.io .i64 t] (.bo (timeB t)) (by kernel_rfl) (by kernel_rfl) (by kernel_rfl) (fun _ _ w _ _ => istime_any (t) w) ?_
      refine At.to (noF_stable) (noF_fewer) 20 300 [2, 3, 53] 2 ⟨pops B18 [1, 1, 1, 1, 0, 0] 16, [.seq (sub B18 [1, 1, 1, 1, 0, 1]), .seq (sub B18 [1, 1, 1, 1, 1])], [(2, .lp 0 0), (3, .lp 1 0), (53, .bo !timeB t)], [((cfgL g s k sz sl of gp lt ea d), 24), ([.v (.int .i64 3), .so key, .io .i64 t, .io .i64 v, .io .i64 src], 44)]⟩ (by kernel_rfl) (by kernel_rfl) ?_
      rcases Bool.eq_false_or_eq_true (!timeB t) with b2 | b2
      · refine At.res 53 (!timeB t) true (by kernel_rfl) b2 ?_
        refine At.to (noF_stable) (noF_fewer) 20 300 [4] 0 ⟨.exit .ret, [], [(4, .v (.int .i64 5))], []⟩ (by kernel_rfl) (by kernel_rfl) ?_
        refine At.ret (by kernel_rfl) (.v (.int .i64 5)) (by kernel_rfl) ?_
        have hq : it3 key t v src = false := by
          have h3 : it3 key t v src = true := by simpa only [it3, BEq.rfl, Bool.true_and, Bool.and_true, Bool.not_eq_false'] using b0
          have h4 := h3
          simp only [it3, Bool.and_eq_true] at h4
  
          have ht : t = 0 := by simpa using h4.2.1
          subst ht
          exact absurd b2 (by decide)
        intro ρ w9 hw9 _
        exact ⟨by rw [hq]; rfl, hw9.below⟩
      · refine At.res 53 (!timeB t) false (by kernel_rfl) b2 ?_
        refine At.to (noF_stable) (noF_fewer) 20 300 [53, 55, 58] 0 ⟨pops B18 [1, 1, 1, 1, 0, 0] 21, [.seq (sub B18 [1, 1, 1, 1, 0, 1]), .seq (sub B18 [1, 1, 1, 1, 1])], [(53, .v (.bool false)), (55, .io .i64 src), (58, .io .i64 (IntKind.i64.wrap (s - 1)))], []⟩ (by kernel_rfl) (by kernel_rfl) ?_
        refine At.call (noF_stable) 28 [.io .i64 src, .v (.int .i64 0), .io .i64 (IntKind.i64.wrap (s - 1))] (.bo (decide (0 ≤ src) && decide (src ≤ IntKind.i64.wrap (s - 1)))) (by kernel_rfl) (by kernel_rfl) (by kernel_rfl) (fun _ _ w _ _ => within_any (src) (0) (IntKind.i64.wrap (s - 1)) w) ?_
        refine At.to (noF_stable) (noF_fewer) 20 300 [61] 0 ⟨.code (sub B18 [1, 1, 1, 1, 0, 1]), [.seq (sub B18 [1, 1, 1, 1, 1])], [(61, .bo !(decide (0 ≤ src) && decide (src ≤ IntKind.i64.wrap (s - 1))))], []⟩ (by kernel_rfl) (by kernel_rfl) ?_
        rcases Bool.eq_false_or_eq_true (!(decide (0 ≤ src) && decide (src ≤ IntKind.i64.wrap (s - 1)))) with b3 | b3
        · refine At.res 61 (!(decide (0 ≤ src) && decide (src ≤ IntKind.i64.wrap (s - 1)))) true (by kernel_rfl) b3 ?_
          refine At.to (noF_stable) (noF_fewer) 20 300 [4] 0 ⟨.exit .ret, [], [(4, .v (.int .i64 5))], []⟩ (by kernel_rfl) (by kernel_rfl) ?_
          refine At.ret (by kernel_rfl) (.v (.int .i64 5)) (by kernel_rfl) ?_
          have hq : it3 key t v src = false := by
            have h3 : it3 key t v src = true := by simpa only [it3, BEq.rfl, Bool.true_and, Bool.and_true, Bool.not_eq_false'] using b0
            have h4 := h3
            simp only [it3, Bool.and_eq_true] at h4
  
            have hsrc := h4.2.2.2
            have h1 : src = 0 := by simpa using hsrc
            subst h1
            rw [wrap63 (by omega) (by omega)] at b3
            have h2 : decide ((0 : Int) ≤ 0) = true := rfl
            have h3 : decide (0 ≤ s - 1) = true := decide_eq_true (by omega)
            rw [h2, h3] at b3
            cases b3
          intro ρ w9 hw9 _
          exact ⟨by rw [hq]; rfl, hw9.below⟩
        · refine At.res 61 (!(decide (0 ≤ src) && decide (src ≤ IntKind.i64.wrap (s - 1)))) false (by kernel_rfl) b3 ?_
          refine At.to (noF_stable) (noF_fewer) 20 300 [4] 0 ⟨.exit .ret, [], [(4, .v (.int .i64 0))], []⟩ (by kernel_rfl) (by kernel_rfl) ?_
          refine At.ret (by kernel_rfl) (.v (.int .i64 0)) (by kernel_rfl) ?_
          have hq : it3 key t v src = true := by
            have h3 : it3 key t v src = true := by simpa only [it3, BEq.rfl, Bool.true_and, Bool.and_true, Bool.not_eq_false'] using b0
            have h4 := h3
            simp only [it3, Bool.and_eq_true] at h4
  
            exact h3
          intro ρ w9 hw9 _
          exact ⟨by rw [hq]; rfl, hw9.below⟩

set_option maxHeartbeats 4000000 in
set_option maxRecDepth 100000 in
theorem item_n (g s k sz sl of gp lt ea : Int) (d : Bool) (kd : Int) (key : ByteArray) (t v src : Int) (w : World) (h0 : wrongF g s k sz sl of gp lt ea = 0) (k1 : (kd == 1) = false) (k2 : (kd == 2) = false) (k3 : (kd == 3) = false) : Calls Tryd.prog 18 #[.agg #[.int .i64 g, .int .i64 s, .int .i64 k, .int .i64 sz, .int .i64 sl, .int .i64 of, .int .i64 gp, .int .i64 lt, .int .i64 ea, .bool d], .agg #[.int .i64 kd, .string key, .int .i64 t, .int .i64 v, .int .i64 src]] w fun e w' => e = .returned (.int .i64 (bif itN then 0 else 5)) ∧ Below w.heap.size w w' := by
  have hs := wrong_s h0
  refine enter (fn := Tryd.f18) (c := B18) [.agg (cfgL g s k sz sl of gp lt ea d), .agg [.io .i64 kd, .so key, .io .i64 t, .io .i64 v, .io .i64 src]] Tryd.func18 rfl rfl ?_
  refine At.to (noF_stable) (noF_fewer) 20 300 [2, 3, 7] 2 ⟨pops B18 [1, 0, 0] 1, [.seq (sub B18 [1, 0, 1]), .seq (sub B18 [1, 1])], [(2, .lp 0 0), (3, .lp 1 0), (7, .agg (cfgL g s k sz sl of gp lt ea d))], [((cfgL g s k sz sl of gp lt ea d), 24), ([.io .i64 kd, .so key, .io .i64 t, .io .i64 v, .io .i64 src], 44)]⟩ (by kernel_rfl) (by kernel_rfl) ?_
  refine At.call noF_stable 12 [.agg (cfgL g s k sz sl of gp lt ea d)] (.v (.int .i64 0)) (by kernel_rfl) (by kernel_rfl) (by kernel_rfl) (fun _ _ w1 hi _ => (check_any g s k sz sl of gp lt ea d w1).mono fun e w' h => ⟨h.1.trans (by rw [h0]; rfl), h.2⟩) ?_
  refine At.to (noF_stable) (noF_fewer) 20 300 [2, 3, 6, 16, 17] 3 ⟨.code (sub B18 [1, 1, 1, 0, 1, 4, 1]), [.block 0, .seq (sub B18 [1, 1, 1, 1])], [(2, .lp 0 0), (3, .lp 1 0), (6, .lp 2 0), (16, .io .i64 kd), (17, .bo (kd == 1))], [((cfgL g s k sz sl of gp lt ea d), 24), ([.io .i64 kd, .so key, .io .i64 t, .io .i64 v, .io .i64 src], 44), ([.io .i64 kd, .v (.string (ByteArray.mk #[])), .v (.int .i64 0), .v (.int .i64 0), .v (.int .i64 0)], 44)]⟩ (by kernel_rfl) (by kernel_rfl) ?_
  refine At.res 17 (kd == 1) false (by kernel_rfl) k1 ?_
  refine At.to (noF_stable) (noF_fewer) 20 300 [2, 3, 6, 16, 28] 3 ⟨.code (sub B18 [1, 1, 1, 0, 1, 4, 1, 3, 1]), [.block 0, .seq (sub B18 [1, 1, 1, 1])], [(2, .lp 0 0), (3, .lp 1 0), (6, .lp 2 0), (16, .io .i64 kd), (28, .bo (kd == 2))], [((cfgL g s k sz sl of gp lt ea d), 24), ([.io .i64 kd, .so key, .io .i64 t, .io .i64 v, .io .i64 src], 44), ([.io .i64 kd, .v (.string (ByteArray.mk #[])), .v (.int .i64 0), .v (.int .i64 0), .v (.int .i64 0)], 44)]⟩ (by kernel_rfl) (by kernel_rfl) ?_
  refine At.res 28 (kd == 2) false (by kernel_rfl) k2 ?_
  refine At.to (noF_stable) (noF_fewer) 20 300 [2, 3, 6, 36] 3 ⟨.code (sub B18 [1, 1, 1, 0, 1, 4, 1, 3, 1, 3, 1]), [.block 0, .seq (sub B18 [1, 1, 1, 1])], [(2, .lp 0 0), (3, .lp 1 0), (6, .lp 2 0), (36, .bo (kd == 3))], [((cfgL g s k sz sl of gp lt ea d), 24), ([.io .i64 kd, .so key, .io .i64 t, .io .i64 v, .io .i64 src], 44), ([.io .i64 kd, .v (.string (ByteArray.mk #[])), .v (.int .i64 0), .v (.int .i64 0), .v (.int .i64 0)], 44)]⟩ (by kernel_rfl) (by kernel_rfl) ?_
  refine At.res 36 (kd == 3) false (by kernel_rfl) k3 ?_
  refine At.to (noF_stable) (noF_fewer) 20 300 [4] 0 ⟨.exit .ret, [], [(4, .v (.int .i64 5))], []⟩ (by kernel_rfl) (by kernel_rfl) ?_
  refine At.ret (by kernel_rfl) (.v (.int .i64 5)) (by kernel_rfl) ?_
  have hq : itN = false := by
    rfl
  intro ρ w9 hw9 _
  exact ⟨by rw [hq]; rfl, hw9.below⟩

noncomputable def B19 : Code := (Tryd.f19.body).getD .skip
set_option maxHeartbeats 4000000 in
set_option maxRecDepth 100000 in
theorem ritem_1 (g s k sz sl of gp lt ea : Int) (d : Bool) (key : ByteArray) (t v src : Int) (w : World) (h0 : wrongF g s k sz sl of gp lt ea = 0) : Calls Tryd.prog 19 #[.agg #[.int .i64 g, .int .i64 s, .int .i64 k, .int .i64 sz, .int .i64 sl, .int .i64 of, .int .i64 gp, .int .i64 lt, .int .i64 ea, .bool d], .agg #[.int .i64 1, .string key, .int .i64 t, .int .i64 v, .int .i64 src]] w fun e w' => e = .returned (.int .i64 (bif it1 key t src then 0 else 5)) ∧ Below w.heap.size w w' := by
  have hs := wrong_s h0
  refine enter (fn := Tryd.f19) (c := B19) [.agg (cfgL g s k sz sl of gp lt ea d), .agg [.v (.int .i64 1), .so key, .io .i64 t, .io .i64 v, .io .i64 src]] Tryd.func19 rfl rfl ?_
  refine At.to (noF_stable) (noF_fewer) 20 300 [2, 3, 6] 2 ⟨pops B19 [1, 0, 0] 1, [.seq (sub B19 [1, 0, 1]), .seq (sub B19 [1, 1])], [(2, .lp 0 0), (3, .lp 1 0), (6, .agg (cfgL g s k sz sl of gp lt ea d))], [((cfgL g s k sz sl of gp lt ea d), 24), ([.v (.int .i64 1), .so key, .io .i64 t, .io .i64 v, .io .i64 src], 44)]⟩ (by kernel_rfl) (by kernel_rfl) ?_
  refine At.call noF_stable 10 [.agg (cfgL g s k sz sl of gp lt ea d)] (.v (.int .i64 0)) (by kernel_rfl) (by kernel_rfl) (by kernel_rfl) (fun _ _ w1 hi _ => (rwrong_any g s k sz sl of gp lt ea d w1).mono fun e w' h => ⟨h.1.trans (by rw [← wrong_eq, h0]; rfl), h.2⟩) ?_
  refine At.to (noF_stable) (noF_fewer) 20 300 [3, 17] 2 ⟨pops B19 [1, 1, 1, 0, 1, 4, 1, 2] 5, [.block 0, .seq (sub B19 [1, 1, 1, 1])], [(3, .lp 1 0), (17, .bo (decide ((↑key.size : Int) ≤ 256)))], [((cfgL g s k sz sl of gp lt ea d), 24), ([.v (.int .i64 1), .so key, .io .i64 t, .io .i64 v, .io .i64 src], 44)]⟩ (by kernel_rfl) (by kernel_rfl) ?_
  rcases Bool.eq_false_or_eq_true (decide ((↑key.size : Int) ≤ 256)) with b0 | b0
  · refine At.res 17 (decide ((↑key.size : Int) ≤ 256)) true (by kernel_rfl) b0 ?_
    refine At.to (noF_stable) (noF_fewer) 20 300 [3, 17, 19] 2 ⟨pops B19 [1, 1, 1, 0, 1, 4, 1, 2] 7, [.block 0, .seq (sub B19 [1, 1, 1, 1])], [(3, .lp 1 0), (17, .v (.bool true)), (19, .io .i64 t)], [((cfgL g s k sz sl of gp lt ea d), 24), ([.v (.int .i64 1), .so key, .io .i64 t, .io .i64 v, .io .i64 src], 44)]⟩ (by kernel_rfl) (by kernel_rfl) ?_
    refine At.call (noF_stable) 42 [.io .i64 t] (.bo (timeB t)) (by kernel_rfl) (by kernel_rfl) (by kernel_rfl) (fun _ _ w _ _ => time_any (t) w) ?_
    refine At.to (noF_stable) (noF_fewer) 20 300 [3, 22] 2 ⟨pops B19 [1, 1, 1, 0, 1, 4, 1, 2] 10, [.block 0, .seq (sub B19 [1, 1, 1, 1])], [(3, .lp 1 0), (22, .bo (timeB t))], [((cfgL g s k sz sl of gp lt ea d), 24), ([.v (.int .i64 1), .so key, .io .i64 t, .io .i64 v, .io .i64 src], 44)]⟩ (by kernel_rfl) (by kernel_rfl) ?_
    rcases Bool.eq_false_or_eq_true (timeB t) with b1 | b1
    · refine At.res 22 (timeB t) true (by kernel_rfl) b1 ?_
      refine At.to (noF_stable) (noF_fewer) 20 300 [60] 0 ⟨.code (sub B19 [1, 1, 1, 1, 0, 1]), [.seq (sub B19 [1, 1, 1, 1, 1])], [(60, .bo !src == 0)], []⟩ (by kernel_rfl) (by kernel_rfl) ?_
      rcases Bool.eq_false_or_eq_true (!src == 0) with b2 | b2
      · refine At.res 60 (!src == 0) true (by kernel_rfl) b2 ?_
        refine At.to (noF_stable) (noF_fewer) 20 300 [4] 0 ⟨.exit .ret, [], [(4, .v (.int .i64 5))], []⟩ (by kernel_rfl) (by kernel_rfl) ?_
        refine At.ret (by kernel_rfl) (.v (.int .i64 5)) (by kernel_rfl) ?_
        have hq : it1 key t src = false := by
          have h2 : (src == 0) = false := by simpa using b2
          unfold it1
          rw [b0, b1, h2]
          rfl
        intro ρ w9 hw9 _
        exact ⟨by rw [hq]; rfl, hw9.below⟩
      · refine At.res 60 (!src == 0) false (by kernel_rfl) b2 ?_
        refine At.to (noF_stable) (noF_fewer) 20 300 [4] 0 ⟨.exit .ret, [], [(4, .v (.int .i64 0))], []⟩ (by kernel_rfl) (by kernel_rfl) ?_
        refine At.ret (by kernel_rfl) (.v (.int .i64 0)) (by kernel_rfl) ?_
        have hq : it1 key t src = true := by
          have h2 : (src == 0) = true := by simpa using b2
          unfold it1
          rw [b0, b1, h2]
          rfl
        intro ρ w9 hw9 _
        exact ⟨by rw [hq]; rfl, hw9.below⟩
    · refine At.res 22 (timeB t) false (by kernel_rfl) b1 ?_
      refine At.to (noF_stable) (noF_fewer) 20 300 [4] 0 ⟨.exit .ret, [], [(4, .v (.int .i64 5))], []⟩ (by kernel_rfl) (by kernel_rfl) ?_
      refine At.ret (by kernel_rfl) (.v (.int .i64 5)) (by kernel_rfl) ?_
      have hq : it1 key t src = false := by
        unfold it1
        rw [b0, b1]
        rfl
      intro ρ w9 hw9 _
      exact ⟨by rw [hq]; rfl, hw9.below⟩
  · refine At.res 17 (decide ((↑key.size : Int) ≤ 256)) false (by kernel_rfl) b0 ?_
    refine At.to (noF_stable) (noF_fewer) 20 300 [4] 0 ⟨.exit .ret, [], [(4, .v (.int .i64 5))], []⟩ (by kernel_rfl) (by kernel_rfl) ?_
    refine At.ret (by kernel_rfl) (.v (.int .i64 5)) (by kernel_rfl) ?_
    have hq : it1 key t src = false := by
      unfold it1
      rw [b0]
      rfl
    intro ρ w9 hw9 _
    exact ⟨by rw [hq]; rfl, hw9.below⟩

set_option maxHeartbeats 4000000 in
set_option maxRecDepth 100000 in
theorem ritem_2 (g s k sz sl of gp lt ea : Int) (d : Bool) (key : ByteArray) (t v src : Int) (w : World) (h0 : wrongF g s k sz sl of gp lt ea = 0) : Calls Tryd.prog 19 #[.agg #[.int .i64 g, .int .i64 s, .int .i64 k, .int .i64 sz, .int .i64 sl, .int .i64 of, .int .i64 gp, .int .i64 lt, .int .i64 ea, .bool d], .agg #[.int .i64 2, .string key, .int .i64 t, .int .i64 v, .int .i64 src]] w fun e w' => e = .returned (.int .i64 (bif it2 s key t v src then 0 else 5)) ∧ Below w.heap.size w w' := by
  have hs := wrong_s h0
  refine enter (fn := Tryd.f19) (c := B19) [.agg (cfgL g s k sz sl of gp lt ea d), .agg [.v (.int .i64 2), .so key, .io .i64 t, .io .i64 v, .io .i64 src]] Tryd.func19 rfl rfl ?_
  refine At.to (noF_stable) (noF_fewer) 20 300 [2, 3, 6] 2 ⟨pops B19 [1, 0, 0] 1, [.seq (sub B19 [1, 0, 1]), .seq (sub B19 [1, 1])], [(2, .lp 0 0), (3, .lp 1 0), (6, .agg (cfgL g s k sz sl of gp lt ea d))], [((cfgL g s k sz sl of gp lt ea d), 24), ([.v (.int .i64 2), .so key, .io .i64 t, .io .i64 v, .io .i64 src], 44)]⟩ (by kernel_rfl) (by kernel_rfl) ?_
  refine At.call noF_stable 10 [.agg (cfgL g s k sz sl of gp lt ea d)] (.v (.int .i64 0)) (by kernel_rfl) (by kernel_rfl) (by kernel_rfl) (fun _ _ w1 hi _ => (rwrong_any g s k sz sl of gp lt ea d w1).mono fun e w' h => ⟨h.1.trans (by rw [← wrong_eq, h0]; rfl), h.2⟩) ?_
  refine At.to (noF_stable) (noF_fewer) 20 300 [2, 3, 32] 2 ⟨pops B19 [1, 1, 1, 0, 1, 4, 1, 3, 1, 2] 4, [.block 0, .seq (sub B19 [1, 1, 1, 1])], [(2, .lp 0 0), (3, .lp 1 0), (32, .bo (decide (src ≥ 0)))], [((cfgL g s k sz sl of gp lt ea d), 24), ([.v (.int .i64 2), .so key, .io .i64 t, .io .i64 v, .io .i64 src], 44)]⟩ (by kernel_rfl) (by kernel_rfl) ?_
  rcases Bool.eq_false_or_eq_true (decide (src ≥ 0)) with b0 | b0
  · refine At.res 32 (decide (src ≥ 0)) true (by kernel_rfl) b0 ?_
    refine At.to (noF_stable) (noF_fewer) 20 300 [3, 39] 2 ⟨pops B19 [1, 1, 1, 0, 1, 4, 1, 3, 1, 2] 11, [.block 0, .seq (sub B19 [1, 1, 1, 1])], [(3, .lp 1 0), (39, .bo (decide (src < s)))], [((cfgL g s k sz sl of gp lt ea d), 24), ([.v (.int .i64 2), .so key, .io .i64 t, .io .i64 v, .io .i64 src], 44)]⟩ (by kernel_rfl) (by kernel_rfl) ?_
    rcases Bool.eq_false_or_eq_true (decide (src < s)) with b1 | b1
    · refine At.res 39 (decide (src < s)) true (by kernel_rfl) b1 ?_
      refine At.to (noF_stable) (noF_fewer) 20 300 [3, 39, 41] 2 ⟨pops B19 [1, 1, 1, 0, 1, 4, 1, 3, 1, 2] 13, [.block 0, .seq (sub B19 [1, 1, 1, 1])], [(3, .lp 1 0), (39, .v (.bool true)), (41, .io .i64 t)], [((cfgL g s k sz sl of gp lt ea d), 24), ([.v (.int .i64 2), .so key, .io .i64 t, .io .i64 v, .io .i64 src], 44)]⟩ (by kernel_rfl) (by kernel_rfl) ?_
      refine At.call (noF_stable) 42 [.io .i64 t] (.bo (timeB t)) (by kernel_rfl) (by kernel_rfl) (by kernel_rfl) (fun _ _ w _ _ => time_any (t) w) ?_
      refine At.to (noF_stable) (noF_fewer) 20 300 [3, 44] 2 ⟨pops B19 [1, 1, 1, 0, 1, 4, 1, 3, 1, 2] 16, [.block 0, .seq (sub B19 [1, 1, 1, 1])], [(3, .lp 1 0), (44, .bo (timeB t))], [((cfgL g s k sz sl of gp lt ea d), 24), ([.v (.int .i64 2), .so key, .io .i64 t, .io .i64 v, .io .i64 src], 44)]⟩ (by kernel_rfl) (by kernel_rfl) ?_
      rcases Bool.eq_false_or_eq_true (timeB t) with b2 | b2
      · refine At.res 44 (timeB t) true (by kernel_rfl) b2 ?_
        refine At.to (noF_stable) (noF_fewer) 20 300 [3, 49] 2 ⟨pops B19 [1, 1, 1, 0, 1, 4, 1, 3, 1, 2] 21, [.block 0, .seq (sub B19 [1, 1, 1, 1])], [(3, .lp 1 0), (49, .bo (key.toList == (ByteArray.mk #[]).toList))], [((cfgL g s k sz sl of gp lt ea d), 24), ([.v (.int .i64 2), .so key, .io .i64 t, .io .i64 v, .io .i64 src], 44)]⟩ (by kernel_rfl) (by kernel_rfl) ?_
        rcases Bool.eq_false_or_eq_true (key.toList == (ByteArray.mk #[]).toList) with b3 | b3
        · refine At.res 49 (key.toList == (ByteArray.mk #[]).toList) true (by kernel_rfl) b3 ?_
          refine At.to (noF_stable) (noF_fewer) 20 300 [60] 0 ⟨.code (sub B19 [1, 1, 1, 1, 0, 1]), [.seq (sub B19 [1, 1, 1, 1, 1])], [(60, .bo !v == 0)], []⟩ (by kernel_rfl) (by kernel_rfl) ?_
          rcases Bool.eq_false_or_eq_true (!v == 0) with b4 | b4
          · refine At.res 60 (!v == 0) true (by kernel_rfl) b4 ?_
            refine At.to (noF_stable) (noF_fewer) 20 300 [4] 0 ⟨.exit .ret, [], [(4, .v (.int .i64 5))], []⟩ (by kernel_rfl) (by kernel_rfl) ?_
            refine At.ret (by kernel_rfl) (.v (.int .i64 5)) (by kernel_rfl) ?_
            have hq : it2 s key t v src = false := by
              have h4 : (v == 0) = false := by simpa using b4
              unfold it2
              rw [b0, b1, b2, b3, h4]
              rfl
            intro ρ w9 hw9 _
            exact ⟨by rw [hq]; rfl, hw9.below⟩
          · refine At.res 60 (!v == 0) false (by kernel_rfl) b4 ?_
            refine At.to (noF_stable) (noF_fewer) 20 300 [4] 0 ⟨.exit .ret, [], [(4, .v (.int .i64 0))], []⟩ (by kernel_rfl) (by kernel_rfl) ?_
            refine At.ret (by kernel_rfl) (.v (.int .i64 0)) (by kernel_rfl) ?_
            have hq : it2 s key t v src = true := by
              have h4 : (v == 0) = true := by simpa using b4
              unfold it2
              rw [b0, b1, b2, b3, h4]
              rfl
            intro ρ w9 hw9 _
            exact ⟨by rw [hq]; rfl, hw9.below⟩
        · refine At.res 49 (key.toList == (ByteArray.mk #[]).toList) false (by kernel_rfl) b3 ?_
          refine At.to (noF_stable) (noF_fewer) 20 300 [4] 0 ⟨.exit .ret, [], [(4, .v (.int .i64 5))], []⟩ (by kernel_rfl) (by kernel_rfl) ?_
          refine At.ret (by kernel_rfl) (.v (.int .i64 5)) (by kernel_rfl) ?_
          have hq : it2 s key t v src = false := by
            unfold it2
            rw [b0, b1, b2, b3]
            rfl
          intro ρ w9 hw9 _
          exact ⟨by rw [hq]; rfl, hw9.below⟩
      · refine At.res 44 (timeB t) false (by kernel_rfl) b2 ?_
        refine At.to (noF_stable) (noF_fewer) 20 300 [4] 0 ⟨.exit .ret, [], [(4, .v (.int .i64 5))], []⟩ (by kernel_rfl) (by kernel_rfl) ?_
        refine At.ret (by kernel_rfl) (.v (.int .i64 5)) (by kernel_rfl) ?_
        have hq : it2 s key t v src = false := by
          unfold it2
          rw [b0, b1, b2]
          rfl
        intro ρ w9 hw9 _
        exact ⟨by rw [hq]; rfl, hw9.below⟩
    · refine At.res 39 (decide (src < s)) false (by kernel_rfl) b1 ?_
      refine At.to (noF_stable) (noF_fewer) 20 300 [4] 0 ⟨.exit .ret, [], [(4, .v (.int .i64 5))], []⟩ (by kernel_rfl) (by kernel_rfl) ?_
      refine At.ret (by kernel_rfl) (.v (.int .i64 5)) (by kernel_rfl) ?_
      have hq : it2 s key t v src = false := by
        unfold it2
        rw [b0, b1]
        rfl
      intro ρ w9 hw9 _
      exact ⟨by rw [hq]; rfl, hw9.below⟩
  · refine At.res 32 (decide (src ≥ 0)) false (by kernel_rfl) b0 ?_
    refine At.to (noF_stable) (noF_fewer) 20 300 [4] 0 ⟨.exit .ret, [], [(4, .v (.int .i64 5))], []⟩ (by kernel_rfl) (by kernel_rfl) ?_
    refine At.ret (by kernel_rfl) (.v (.int .i64 5)) (by kernel_rfl) ?_
    have hq : it2 s key t v src = false := by
      unfold it2
      rw [b0]
      rfl
    intro ρ w9 hw9 _
    exact ⟨by rw [hq]; rfl, hw9.below⟩

set_option maxHeartbeats 4000000 in
set_option maxRecDepth 100000 in
theorem ritem_3 (g s k sz sl of gp lt ea : Int) (d : Bool) (key : ByteArray) (t v src : Int) (w : World) (h0 : wrongF g s k sz sl of gp lt ea = 0) : Calls Tryd.prog 19 #[.agg #[.int .i64 g, .int .i64 s, .int .i64 k, .int .i64 sz, .int .i64 sl, .int .i64 of, .int .i64 gp, .int .i64 lt, .int .i64 ea, .bool d], .agg #[.int .i64 3, .string key, .int .i64 t, .int .i64 v, .int .i64 src]] w fun e w' => e = .returned (.int .i64 (bif it3 key t v src then 0 else 5)) ∧ Below w.heap.size w w' := by
  have hs := wrong_s h0
  refine enter (fn := Tryd.f19) (c := B19) [.agg (cfgL g s k sz sl of gp lt ea d), .agg [.v (.int .i64 3), .so key, .io .i64 t, .io .i64 v, .io .i64 src]] Tryd.func19 rfl rfl ?_
  refine At.to (noF_stable) (noF_fewer) 20 300 [2, 3, 6] 2 ⟨pops B19 [1, 0, 0] 1, [.seq (sub B19 [1, 0, 1]), .seq (sub B19 [1, 1])], [(2, .lp 0 0), (3, .lp 1 0), (6, .agg (cfgL g s k sz sl of gp lt ea d))], [((cfgL g s k sz sl of gp lt ea d), 24), ([.v (.int .i64 3), .so key, .io .i64 t, .io .i64 v, .io .i64 src], 44)]⟩ (by kernel_rfl) (by kernel_rfl) ?_
  refine At.call noF_stable 10 [.agg (cfgL g s k sz sl of gp lt ea d)] (.v (.int .i64 0)) (by kernel_rfl) (by kernel_rfl) (by kernel_rfl) (fun _ _ w1 hi _ => (rwrong_any g s k sz sl of gp lt ea d w1).mono fun e w' h => ⟨h.1.trans (by rw [← wrong_eq, h0]; rfl), h.2⟩) ?_
  refine At.to (noF_stable) (noF_fewer) 20 300 [60] 0 ⟨.code (sub B19 [1, 1, 1, 1, 0, 1]), [.seq (sub B19 [1, 1, 1, 1, 1])], [(60, .bo !(3 == 3 && (key.toList == (ByteArray.mk #[]).toList && (t == 0 && (v == 0 && (src == 0 && true))))))], []⟩ (by kernel_rfl) (by kernel_rfl) ?_
  rcases Bool.eq_false_or_eq_true (!(3 == 3 && (key.toList == (ByteArray.mk #[]).toList && (t == 0 && (v == 0 && (src == 0 && true)))))) with b0 | b0
  · refine At.res 60 (!(3 == 3 && (key.toList == (ByteArray.mk #[]).toList && (t == 0 && (v == 0 && (src == 0 && true)))))) true (by kernel_rfl) b0 ?_
    refine At.to (noF_stable) (noF_fewer) 20 300 [4] 0 ⟨.exit .ret, [], [(4, .v (.int .i64 5))], []⟩ (by kernel_rfl) (by kernel_rfl) ?_
    refine At.ret (by kernel_rfl) (.v (.int .i64 5)) (by kernel_rfl) ?_
    have hq : it3 key t v src = false := by
      simpa only [it3, BEq.rfl, Bool.true_and, Bool.and_true, Bool.not_eq_true'] using b0
    intro ρ w9 hw9 _
    exact ⟨by rw [hq]; rfl, hw9.below⟩
  · refine At.res 60 (!(3 == 3 && (key.toList == (ByteArray.mk #[]).toList && (t == 0 && (v == 0 && (src == 0 && true)))))) false (by kernel_rfl) b0 ?_
    refine At.to (noF_stable) (noF_fewer) 20 300 [4] 0 ⟨.exit .ret, [], [(4, .v (.int .i64 0))], []⟩ (by kernel_rfl) (by kernel_rfl) ?_
    refine At.ret (by kernel_rfl) (.v (.int .i64 0)) (by kernel_rfl) ?_
    have hq : it3 key t v src = true := by
      have h3 : it3 key t v src = true := by simpa only [it3, BEq.rfl, Bool.true_and, Bool.and_true, Bool.not_eq_false'] using b0
      have h4 := h3
      simp only [it3, Bool.and_eq_true] at h4
      exact h3
    intro ρ w9 hw9 _
    exact ⟨by rw [hq]; rfl, hw9.below⟩

set_option maxHeartbeats 4000000 in
set_option maxRecDepth 100000 in
theorem ritem_n (g s k sz sl of gp lt ea : Int) (d : Bool) (kd : Int) (key : ByteArray) (t v src : Int) (w : World) (h0 : wrongF g s k sz sl of gp lt ea = 0) (k1 : (kd == 1) = false) (k2 : (kd == 2) = false) (k3 : (kd == 3) = false) : Calls Tryd.prog 19 #[.agg #[.int .i64 g, .int .i64 s, .int .i64 k, .int .i64 sz, .int .i64 sl, .int .i64 of, .int .i64 gp, .int .i64 lt, .int .i64 ea, .bool d], .agg #[.int .i64 kd, .string key, .int .i64 t, .int .i64 v, .int .i64 src]] w fun e w' => e = .returned (.int .i64 (bif itN then 0 else 5)) ∧ Below w.heap.size w w' := by
  have hs := wrong_s h0
  refine enter (fn := Tryd.f19) (c := B19) [.agg (cfgL g s k sz sl of gp lt ea d), .agg [.io .i64 kd, .so key, .io .i64 t, .io .i64 v, .io .i64 src]] Tryd.func19 rfl rfl ?_
  refine At.to (noF_stable) (noF_fewer) 20 300 [2, 3, 6] 2 ⟨pops B19 [1, 0, 0] 1, [.seq (sub B19 [1, 0, 1]), .seq (sub B19 [1, 1])], [(2, .lp 0 0), (3, .lp 1 0), (6, .agg (cfgL g s k sz sl of gp lt ea d))], [((cfgL g s k sz sl of gp lt ea d), 24), ([.io .i64 kd, .so key, .io .i64 t, .io .i64 v, .io .i64 src], 44)]⟩ (by kernel_rfl) (by kernel_rfl) ?_
  refine At.call noF_stable 10 [.agg (cfgL g s k sz sl of gp lt ea d)] (.v (.int .i64 0)) (by kernel_rfl) (by kernel_rfl) (by kernel_rfl) (fun _ _ w1 hi _ => (rwrong_any g s k sz sl of gp lt ea d w1).mono fun e w' h => ⟨h.1.trans (by rw [← wrong_eq, h0]; rfl), h.2⟩) ?_
  refine At.to (noF_stable) (noF_fewer) 20 300 [2, 3, 5, 10, 11] 2 ⟨.code (sub B19 [1, 1, 1, 0, 1, 4, 1]), [.block 0, .seq (sub B19 [1, 1, 1, 1])], [(2, .lp 0 0), (3, .lp 1 0), (5, .v (.bool false)), (10, .io .i64 kd), (11, .bo (kd == 1))], [((cfgL g s k sz sl of gp lt ea d), 24), ([.io .i64 kd, .so key, .io .i64 t, .io .i64 v, .io .i64 src], 44)]⟩ (by kernel_rfl) (by kernel_rfl) ?_
  refine At.res 11 (kd == 1) false (by kernel_rfl) k1 ?_
  refine At.to (noF_stable) (noF_fewer) 20 300 [2, 3, 5, 10, 27] 2 ⟨.code (sub B19 [1, 1, 1, 0, 1, 4, 1, 3, 1]), [.block 0, .seq (sub B19 [1, 1, 1, 1])], [(2, .lp 0 0), (3, .lp 1 0), (5, .v (.bool false)), (10, .io .i64 kd), (27, .bo (kd == 2))], [((cfgL g s k sz sl of gp lt ea d), 24), ([.io .i64 kd, .so key, .io .i64 t, .io .i64 v, .io .i64 src], 44)]⟩ (by kernel_rfl) (by kernel_rfl) ?_
  refine At.res 27 (kd == 2) false (by kernel_rfl) k2 ?_
  refine At.to (noF_stable) (noF_fewer) 20 300 [3, 5, 54] 2 ⟨.code (sub B19 [1, 1, 1, 0, 1, 4, 1, 3, 1, 3, 1]), [.block 0, .seq (sub B19 [1, 1, 1, 1])], [(3, .lp 1 0), (5, .v (.bool false)), (54, .bo (kd == 3))], [((cfgL g s k sz sl of gp lt ea d), 24), ([.io .i64 kd, .so key, .io .i64 t, .io .i64 v, .io .i64 src], 44)]⟩ (by kernel_rfl) (by kernel_rfl) ?_
  refine At.res 54 (kd == 3) false (by kernel_rfl) k3 ?_
  refine At.to (noF_stable) (noF_fewer) 20 300 [4] 0 ⟨.exit .ret, [], [(4, .v (.int .i64 5))], []⟩ (by kernel_rfl) (by kernel_rfl) ?_
  refine At.ret (by kernel_rfl) (.v (.int .i64 5)) (by kernel_rfl) ?_
  have hq : itN = false := by
    rfl
  intro ρ w9 hw9 _
  exact ⟨by rw [hq]; rfl, hw9.below⟩

end Go.Proofs.YtiehnigbcfkcdaaDoor
