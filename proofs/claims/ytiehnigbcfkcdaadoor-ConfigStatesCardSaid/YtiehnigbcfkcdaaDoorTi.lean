import Derived.Test.YtiehnigbcfkcdaaDoorH
import Derived.Test.YtiehnigbcfkcdaaDoorSxW
set_option linter.unusedSimpArgs false
set_option linter.unusedVariables false
namespace Go.Proofs.YtiehnigbcfkcdaaDoor
open Go.RowKit Go.Sx

/-- Is it a time? -/
def timeB (t : Int) : Bool := decide (-4611686018427387904 ≤ t) && decide (t ≤ 4611686018427387904)
theorem wrong_s {g s k sz sl of gp lt ea : Int} (h : wrongF g s k sz sl of gp lt ea = 0) : 1 ≤ s ∧ s ≤ 64 := by
  unfold wrongF at h
  cases h1 : (decide (1 ≤ g) && decide (g ≤ 32768)) with
  | false => rw [h1] at h; simp at h
  | true =>
    rw [h1] at h
    cases h2 : (decide (1 ≤ s) && decide (s ≤ 64)) with
    | false => rw [h2] at h; simp at h
    | true => simpa using h2

noncomputable def B41 : Code := (Tryd.f41.body).getD .skip
set_option maxHeartbeats 4000000 in
set_option maxRecDepth 100000 in
theorem istime_any (t : Int) (w : World) : Calls Tryd.prog 41 #[.int .i64 t] w fun e w' => e = .returned (.bool (timeB t)) ∧ Below w.heap.size w w' := by
  refine enter (fn := Tryd.f41) (c := B41) [.io .i64 t] Tryd.func41 rfl rfl ?_
  refine At.to noF_stable noF_fewer 20 400 [3] 0 ⟨pops B41 [1, 0] 1, [.seq (sub B41 [1, 1])], [(3, .io .i64 t)], []⟩ (by kernel_rfl) (by kernel_rfl) ?_
  refine At.call noF_stable 28 [.io .i64 t, .v (.int .i64 (-4611686018427387904)), .v (.int .i64 4611686018427387904)] (.bo (decide (-4611686018427387904 ≤ t) && decide (t ≤ 4611686018427387904))) (by kernel_rfl) (by kernel_rfl) (by kernel_rfl) (fun _ _ w _ _ => within_any (t) (-4611686018427387904) (4611686018427387904) w) ?_
  refine At.to noF_stable noF_fewer 20 400 [2] 0 ⟨.exit .ret, [], [(2, .bo (decide (-4611686018427387904 ≤ t) && decide (t ≤ 4611686018427387904)))], []⟩ (by kernel_rfl) (by kernel_rfl) ?_
  refine At.ret (by kernel_rfl) (.bo (decide (-4611686018427387904 ≤ t) && decide (t ≤ 4611686018427387904))) (by kernel_rfl) ?_
  intro ρ w9 hw9 _
  exact ⟨rfl, hw9.below⟩

noncomputable def B42 : Code := (Tryd.f42.body).getD .skip
set_option maxHeartbeats 4000000 in
set_option maxRecDepth 100000 in
theorem time_any (t : Int) (w : World) : Calls Tryd.prog 42 #[.int .i64 t] w fun e w' => e = .returned (.bool (timeB t)) ∧ Below w.heap.size w w' := by
  refine enter (fn := Tryd.f42) (c := B42) [.io .i64 t] Tryd.func42 rfl rfl ?_
  refine At.to noF_stable noF_fewer 20 400 [3] 0 ⟨pops B42 [1, 0] 1, [.seq (sub B42 [1, 1])], [(3, .io .i64 t)], []⟩ (by kernel_rfl) (by kernel_rfl) ?_
  refine At.call noF_stable 45 [.io .i64 t, .v (.int .i64 (-4611686018427387904)), .v (.int .i64 4611686018427387904)] (.bo (decide (-4611686018427387904 ≤ t) && decide (t ≤ 4611686018427387904))) (by kernel_rfl) (by kernel_rfl) (by kernel_rfl) (fun _ _ w _ _ => rwithin_any (t) (-4611686018427387904) (4611686018427387904) w) ?_
  refine At.to noF_stable noF_fewer 20 400 [2] 0 ⟨.exit .ret, [], [(2, .bo (decide (-4611686018427387904 ≤ t) && decide (t ≤ 4611686018427387904)))], []⟩ (by kernel_rfl) (by kernel_rfl) ?_
  refine At.ret (by kernel_rfl) (.bo (decide (-4611686018427387904 ≤ t) && decide (t ≤ 4611686018427387904))) (by kernel_rfl) ?_
  intro ρ w9 hw9 _
  exact ⟨rfl, hw9.below⟩

end Go.Proofs.YtiehnigbcfkcdaaDoor
