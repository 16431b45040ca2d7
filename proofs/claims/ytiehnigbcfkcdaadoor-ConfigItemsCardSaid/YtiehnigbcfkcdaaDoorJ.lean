import Derived.Test.YtiehnigbcfkcdaaDoorI
set_option linter.unusedSimpArgs false
set_option linter.unusedVariables false
namespace Go.Proofs.YtiehnigbcfkcdaaDoor
open Go.RowKit Go.Sx


set_option maxHeartbeats 4000000 in
set_option maxRecDepth 100000 in
theorem item_w (g s k sz sl of gp lt ea : Int) (d : Bool) (kd : Int) (key : ByteArray) (t v src : Int) (w : World) (h0 : wrongF g s k sz sl of gp lt ea ≠ 0) : Calls Tryd.prog 18 #[.agg #[.int .i64 g, .int .i64 s, .int .i64 k, .int .i64 sz, .int .i64 sl, .int .i64 of, .int .i64 gp, .int .i64 lt, .int .i64 ea, .bool d], .agg #[.int .i64 kd, .string key, .int .i64 t, .int .i64 v, .int .i64 src]] w fun e w' => e = .returned (.int .i64 4) ∧ Below w.heap.size w w' := by
  obtain ⟨n, hn⟩ : ∃ n, wrongF g s k sz sl of gp lt ea = n := ⟨_, rfl⟩
  rw [hn] at h0
  have hb : (n != 0) = true := by simp [h0]
  have hj : jobE n = 4 := if_neg h0
  refine enter (fn := Tryd.f18) (c := B18) [.agg (cfgL g s k sz sl of gp lt ea d), .agg [.io .i64 kd, .so key, .io .i64 t, .io .i64 v, .io .i64 src]] Tryd.func18 rfl rfl ?_
  refine At.to (noF_stable) (noF_fewer) 20 300 [2, 3, 7] 2 ⟨pops B18 [1, 0, 0] 1, [.seq (sub B18 [1, 0, 1]), .seq (sub B18 [1, 1])], [(2, .lp 0 0), (3, .lp 1 0), (7, .agg (cfgL g s k sz sl of gp lt ea d))], [((cfgL g s k sz sl of gp lt ea d), 24), ([.io .i64 kd, .so key, .io .i64 t, .io .i64 v, .io .i64 src], 44)]⟩ (by kernel_rfl) (by kernel_rfl) ?_
  refine At.call noF_stable 12 [.agg (cfgL g s k sz sl of gp lt ea d)] (.v (.int .i64 4)) (by kernel_rfl) (by kernel_rfl) (by kernel_rfl) (fun _ _ w1 hi _ => (check_any g s k sz sl of gp lt ea d w1).mono fun e w' h => ⟨h.1.trans (by rw [hn, hj]; rfl), h.2⟩) ?_
  refine At.to (noF_stable) (noF_fewer) 20 300 [4] 0 ⟨.exit .ret, [], [(4, .v (.int .i64 4))], []⟩ (by kernel_rfl) (by kernel_rfl) ?_
  refine At.ret (by kernel_rfl) (.v (.int .i64 4)) (by kernel_rfl) ?_
  intro ρ w9 hw9 _
  exact ⟨rfl, hw9.below⟩

set_option maxHeartbeats 4000000 in
set_option maxRecDepth 100000 in
theorem ritem_w (g s k sz sl of gp lt ea : Int) (d : Bool) (kd : Int) (key : ByteArray) (t v src : Int) (w : World) (h0 : wrongF g s k sz sl of gp lt ea ≠ 0) : Calls Tryd.prog 19 #[.agg #[.int .i64 g, .int .i64 s, .int .i64 k, .int .i64 sz, .int .i64 sl, .int .i64 of, .int .i64 gp, .int .i64 lt, .int .i64 ea, .bool d], .agg #[.int .i64 kd, .string key, .int .i64 t, .int .i64 v, .int .i64 src]] w fun e w' => e = .returned (.int .i64 4) ∧ Below w.heap.size w w' := by
  obtain ⟨n, hn⟩ : ∃ n, wrongF g s k sz sl of gp lt ea = n := ⟨_, rfl⟩
  rw [hn] at h0
  have hb : (n != 0) = true := by simp [h0]
  have hj : jobE n = 4 := if_neg h0
  refine enter (fn := Tryd.f19) (c := B19) [.agg (cfgL g s k sz sl of gp lt ea d), .agg [.io .i64 kd, .so key, .io .i64 t, .io .i64 v, .io .i64 src]] Tryd.func19 rfl rfl ?_
  refine At.to (noF_stable) (noF_fewer) 20 300 [2, 3, 6] 2 ⟨pops B19 [1, 0, 0] 1, [.seq (sub B19 [1, 0, 1]), .seq (sub B19 [1, 1])], [(2, .lp 0 0), (3, .lp 1 0), (6, .agg (cfgL g s k sz sl of gp lt ea d))], [((cfgL g s k sz sl of gp lt ea d), 24), ([.io .i64 kd, .so key, .io .i64 t, .io .i64 v, .io .i64 src], 44)]⟩ (by kernel_rfl) (by kernel_rfl) ?_
  refine At.call noF_stable 10 [.agg (cfgL g s k sz sl of gp lt ea d)] (.io .i64 n) (by kernel_rfl) (by kernel_rfl) (by kernel_rfl) (fun _ _ w1 hi _ => (rwrong_any g s k sz sl of gp lt ea d w1).mono fun e w' h => ⟨h.1.trans (by rw [← wrong_eq, hn]; rfl), h.2⟩) ?_
  refine At.to (noF_stable) (noF_fewer) 20 300 [2, 3, 8] 2 ⟨.code (sub B19 [1, 0, 1]), [.seq (sub B19 [1, 1])], [(2, .lp 0 0), (3, .lp 1 0), (8, .bo (n != 0))], [((cfgL g s k sz sl of gp lt ea d), 24), ([.io .i64 kd, .so key, .io .i64 t, .io .i64 v, .io .i64 src], 44)]⟩ (by kernel_rfl) (by kernel_rfl) ?_
  refine At.res 8 (n != 0) true (by kernel_rfl) hb ?_
  refine At.to (noF_stable) (noF_fewer) 20 300 [4] 0 ⟨.exit .ret, [], [(4, .v (.int .i64 4))], []⟩ (by kernel_rfl) (by kernel_rfl) ?_
  refine At.ret (by kernel_rfl) (.v (.int .i64 4)) (by kernel_rfl) ?_
  intro ρ w9 hw9 _
  exact ⟨rfl, hw9.below⟩


def itB (s kd : Int) (key : ByteArray) (t v src : Int) : Bool := bif kd == 1 then it1 key t src else bif kd == 2 then it2 s key t v src else bif kd == 3 then it3 key t v src else itN
/-- The number of an item's error. -/
def itC (W s kd : Int) (key : ByteArray) (t v src : Int) : Int := bif W == 0 then (bif itB s kd key t v src then 0 else 5) else 4
theorem item_any (g s k sz sl of gp lt ea : Int) (d : Bool) (kd : Int) (key : ByteArray) (t v src : Int) (w : World) : Calls Tryd.prog 18 #[.agg #[.int .i64 g, .int .i64 s, .int .i64 k, .int .i64 sz, .int .i64 sl, .int .i64 of, .int .i64 gp, .int .i64 lt, .int .i64 ea, .bool d], .agg #[.int .i64 kd, .string key, .int .i64 t, .int .i64 v, .int .i64 src]] w fun e w' => e = .returned (.int .i64 (itC (wrongF g s k sz sl of gp lt ea) s kd key t v src)) ∧ Below w.heap.size w w' := by
  by_cases h0 : wrongF g s k sz sl of gp lt ea = 0
  · rw [h0]
    by_cases k1 : kd = 1
    · subst k1
      exact item_1 g s k sz sl of gp lt ea d key t v src w h0
    by_cases k2 : kd = 2
    · subst k2
      exact item_2 g s k sz sl of gp lt ea d key t v src w h0
    by_cases k3 : kd = 3
    · subst k3
      exact item_3 g s k sz sl of gp lt ea d key t v src w h0
    have e1 : (kd == 1) = false := by simp [k1]
    have e2 : (kd == 2) = false := by simp [k2]
    have e3 : (kd == 3) = false := by simp [k3]
    have e : itC 0 s kd key t v src = (bif itN then 0 else 5) := by
      unfold itC itB
      rw [e1, e2, e3]
      rfl
    rw [e]
    exact item_n g s k sz sl of gp lt ea d kd key t v src w h0 e1 e2 e3
  · have e : itC (wrongF g s k sz sl of gp lt ea) s kd key t v src = 4 := by
      unfold itC
      rw [show (wrongF g s k sz sl of gp lt ea == 0) = false by simp [h0]]
      rfl
    rw [e]
    exact item_w g s k sz sl of gp lt ea d kd key t v src w h0

theorem ritem_any (g s k sz sl of gp lt ea : Int) (d : Bool) (kd : Int) (key : ByteArray) (t v src : Int) (w : World) : Calls Tryd.prog 19 #[.agg #[.int .i64 g, .int .i64 s, .int .i64 k, .int .i64 sz, .int .i64 sl, .int .i64 of, .int .i64 gp, .int .i64 lt, .int .i64 ea, .bool d], .agg #[.int .i64 kd, .string key, .int .i64 t, .int .i64 v, .int .i64 src]] w fun e w' => e = .returned (.int .i64 (itC (wrongF g s k sz sl of gp lt ea) s kd key t v src)) ∧ Below w.heap.size w w' := by
  by_cases h0 : wrongF g s k sz sl of gp lt ea = 0
  · rw [h0]
    by_cases k1 : kd = 1
    · subst k1
      exact ritem_1 g s k sz sl of gp lt ea d key t v src w h0
    by_cases k2 : kd = 2
    · subst k2
      exact ritem_2 g s k sz sl of gp lt ea d key t v src w h0
    by_cases k3 : kd = 3
    · subst k3
      exact ritem_3 g s k sz sl of gp lt ea d key t v src w h0
    have e1 : (kd == 1) = false := by simp [k1]
    have e2 : (kd == 2) = false := by simp [k2]
    have e3 : (kd == 3) = false := by simp [k3]
    have e : itC 0 s kd key t v src = (bif itN then 0 else 5) := by
      unfold itC itB
      rw [e1, e2, e3]
      rfl
    rw [e]
    exact ritem_n g s k sz sl of gp lt ea d kd key t v src w h0 e1 e2 e3
  · have e : itC (wrongF g s k sz sl of gp lt ea) s kd key t v src = 4 := by
      unfold itC
      rw [show (wrongF g s k sz sl of gp lt ea == 0) = false by simp [h0]]
      rfl
    rw [e]
    exact ritem_w g s k sz sl of gp lt ea d kd key t v src w h0

noncomputable def B6 : Code := (Tryd.f6.body).getD .skip
set_option maxHeartbeats 4000000 in
set_option maxRecDepth 100000 in
theorem items_walk (g s k sz sl of gp lt ea : Int) (d : Bool) (kd : Int) (key : ByteArray) (t v src : Int) (w : World) (htab : Lib.TabIs Tryd.prog w "strings.asciiSpace" .u8 Lib.asciiSpaceTab) : Calls Tryd.prog 6 #[.agg #[.int .i64 g, .int .i64 s, .int .i64 k, .int .i64 sz, .int .i64 sl, .int .i64 of, .int .i64 gp, .int .i64 lt, .int .i64 ea, .bool d], .agg #[.int .i64 kd, .string key, .int .i64 t, .int .i64 v, .int .i64 src]] w fun e w' => e = .returned (.bool true) ∧ Below w.heap.size w w' := by
  obtain ⟨n, hn⟩ : ∃ n, itC (wrongF g s k sz sl of gp lt ea) s kd key t v src = n := ⟨_, rfl⟩
  have hb2 : (n == n) = true := by simp
  refine enter (fn := Tryd.f6) (c := B6) [.agg (cfgL g s k sz sl of gp lt ea d), .agg [.io .i64 kd, .so key, .io .i64 t, .io .i64 v, .io .i64 src]] Tryd.func6 rfl rfl ?_
  refine At.to (noF_stable) (noF_fewer) 20 300 [2, 3, 5, 6] 2 ⟨pqops B6 [1, 0] 2, [.seq (sub B6 [1, 1])], [(2, .lp 0 0), (3, .lp 1 0), (5, .agg (cfgL g s k sz sl of gp lt ea d)), (6, .agg [.io .i64 kd, .so key, .io .i64 t, .io .i64 v, .io .i64 src])], [((cfgL g s k sz sl of gp lt ea d), 24), ([.io .i64 kd, .so key, .io .i64 t, .io .i64 v, .io .i64 src], 44)]⟩ (by kernel_rfl) (by kernel_rfl) ?_
  refine At.call noF_stable 18 [.agg (cfgL g s k sz sl of gp lt ea d), .agg [.io .i64 kd, .so key, .io .i64 t, .io .i64 v, .io .i64 src]] (.io .i64 n) (by kernel_rfl) (by kernel_rfl) (by kernel_rfl) (fun _ _ w1 hi _ => (item_any g s k sz sl of gp lt ea d kd key t v src w1).mono fun e w' h => ⟨h.1.trans (by rw [hn]; rfl), h.2⟩) ?_
  refine At.to (noF_stable) (noF_fewer) 20 300 [2, 3, 7] 2 ⟨pqops B6 [1, 0] 3, [.seq (sub B6 [1, 1])], [(2, .lp 0 0), (3, .lp 1 0), (7, .io .i64 n)], [((cfgL g s k sz sl of gp lt ea d), 24), ([.io .i64 kd, .so key, .io .i64 t, .io .i64 v, .io .i64 src], 44)]⟩ (by kernel_rfl) (by kernel_rfl) ?_
  refine At.call (noF_stable) 11 [.io .i64 n] (.io .i64 n) (by kernel_rfl) (by kernel_rfl) (by kernel_rfl) (fun _ _ w _ _ => num_any (n) w) ?_
  refine At.to (noF_stable) (noF_fewer) 20 300 [8, 9, 10] 0 ⟨pqops B6 [1, 0] 6, [.seq (sub B6 [1, 1])], [(8, .io .i64 n), (9, .agg (cfgL g s k sz sl of gp lt ea d)), (10, .agg [.io .i64 kd, .so key, .io .i64 t, .io .i64 v, .io .i64 src])], []⟩ (by kernel_rfl) (by kernel_rfl) ?_
  refine At.call noF_stable 19 [.agg (cfgL g s k sz sl of gp lt ea d), .agg [.io .i64 kd, .so key, .io .i64 t, .io .i64 v, .io .i64 src]] (.io .i64 n) (by kernel_rfl) (by kernel_rfl) (by kernel_rfl) (fun _ _ w1 hi _ => (ritem_any g s k sz sl of gp lt ea d kd key t v src w1).mono fun e w' h => ⟨h.1.trans (by rw [hn]; rfl), h.2⟩) ?_
  refine At.to (noF_stable) (noF_fewer) 20 300 [13] 0 ⟨pqops B6 [1, 0] 9, [.seq (sub B6 [1, 1])], [(13, .bo (n == n))], []⟩ (by kernel_rfl) (by kernel_rfl) ?_
  refine At.res 13 (n == n) true (by kernel_rfl) hb2 ?_
  refine At.to (noF_stable) (noF_fewer) 20 300 [13] 0 ⟨pqops B6 [1, 0] 9, [.seq (sub B6 [1, 1])], [(13, .v (.bool true))], []⟩ (by kernel_rfl) (by kernel_rfl) ?_
  refine At.call noF_stable 13 [] (.v (.bool true)) (by kernel_rfl) (by kernel_rfl) (by kernel_rfl) (fun ρ _ w1 hi _ => works_true w1 (tab_below htab hi.mem.below rfl)) ?_
  refine At.to (noF_stable) (noF_fewer) 20 300 [4] 0 ⟨.exit .ret, [], [(4, .v (.bool true))], []⟩ (by kernel_rfl) (by kernel_rfl) ?_
  refine At.ret (by kernel_rfl) (.v (.bool true)) (by kernel_rfl) ?_
  intro ρ w9 hw9 _
  exact ⟨rfl, hw9.below⟩

end Go.Proofs.YtiehnigbcfkcdaaDoor
