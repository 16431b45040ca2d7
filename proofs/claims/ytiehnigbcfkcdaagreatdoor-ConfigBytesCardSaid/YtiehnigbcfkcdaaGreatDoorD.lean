import Derived.Test.YtiehnigbcfkcdaaGreatDoorR
import Derived.Test.YtiehnigbcfkcdaaGreatDoorC
set_option linter.unusedSimpArgs false
set_option linter.unusedVariables false
namespace Go.Proofs.YtiehnigbcfkcdaaGreatDoor
open Go.RowKit Go.Sx

theorem src_below {B : Nat} {w w' : World} {a : Addr} {xs : List Value} (h : Src w a xs) (hb : Below B w w') (ha : a.block < B) : Src w' a xs := fun j u hj => by
  rw [cell_below hb (by unfold Addr.add; split <;> exact ha)]
  exact h j u hj

noncomputable def B42 : Code := (Tryz.f42.body).getD .skip
set_option maxHeartbeats 4000000 in
set_option maxRecDepth 100000 in
theorem newreader_any (a : Addr) (n c : Nat) (xs : List Value) (w : World) (ha : a.block < w.heap.size) (hsrc : Src w a xs) (hl : xs.length = n * 1) (h1 : ∀ u ∈ xs, u.oneCell' = true) (hn : n ≤ 140737488355328) :
    Calls Tryz.prog 42 #[.slice (some a) n c] w fun e w' => ∃ A' n' c' ρ, e = .returned ((SV.lp 0 0).den ρ) ∧ WInv w.heap.size w ρ [([.sl A' n' c', .v (.int .i64 0)], 103)] w' ∧ RowF w (fun _ => False) [] w.heap.size 5 1 A' n' c' xs ρ w' := by
  refine enterF (N := w.heap.size) (F := FrameR w (fun _ => False) []) (fn := Tryz.f42) (c := B42) [.sl (some a) n c] Tryz.func42 rfl rfl (Nat.le_refl _) (FrameR.start _ [] (by simp)) ?_
  refine At.toJ (FrameR.stable) FrameR.fewer 0 100 [3] 0 ⟨pops B42 [1, 0] 1, [.seq (sub B42 [1, 1])], [(3, .sl (some a) n c)], []⟩ (by kernel_rfl) (by kernel_rfl) ?_
  refine At.mkrow (base := w.heap.size) (e := 5) (size := 1) 53 [.sl (some a) n c] (fun _ => False) [] xs (by kernel_rfl) (by kernel_rfl) (by kernel_rfl) (by kernel_rfl) (by kernel_rfl) (fun ρ w h => h) (Nat.le_refl _) (fun ρ w1 hm hf => clone_any a n c xs w1 (Nat.lt_of_lt_of_le ha hm.below.size) (src_below hsrc hm.below ha) hl h1 hn) ?_
  intro A1 n1 c1
  refine At.toJ (RowF.stable) RowF.fewer 0 100 [2] 1 ⟨.exit .ret, [], [(2, .lp 0 0)], [([.sl A1 n1 c1, .v (.int .i64 0)], 103)]⟩ (by kernel_rfl) (by kernel_rfl) ?_
  refine At.ret (by kernel_rfl) (.lp 0 0) (by kernel_rfl) ?_
  intro ρ w9 hm hf
  exact ⟨_, _, _, ρ, rfl, hm, hf⟩

noncomputable def B23 : Code := (Tryz.f23.body).getD .skip
set_option maxHeartbeats 4000000 in
set_option maxRecDepth 100000 in
theorem of_any (g s k sz sl of gp lt ea d : Int) (w : World) : Calls Tryz.prog 23 #[.agg #[.int .i64 g, .int .i64 s, .int .i64 k, .int .i64 sz, .int .i64 sl, .int .i64 of, .int .i64 gp, .int .i64 lt, .int .i64 ea, .int .i64 d]] w fun e w' => e = .returned (.agg #[.int .i64 g, .int .i64 s, .int .i64 k, .int .i64 sz, .int .i64 sl, .int .i64 of, .int .i64 gp, .int .i64 lt, .int .i64 ea, .bool (d == 1)]) ∧ Below w.heap.size w w' := by
  refine enter (fn := Tryz.f23) (c := B23) [.agg [.io .i64 g, .io .i64 s, .io .i64 k, .io .i64 sz, .io .i64 sl, .io .i64 of, .io .i64 gp, .io .i64 lt, .io .i64 ea, .io .i64 d]] Tryz.func23 rfl rfl ?_
  refine At.to noF_stable noF_fewer 20 400 [2] 2 ⟨.exit .ret, [], [(2, .lp 1 0)], [([.io .i64 g, .io .i64 s, .io .i64 k, .io .i64 sz, .io .i64 sl, .io .i64 of, .io .i64 gp, .io .i64 lt, .io .i64 ea, .io .i64 d], 50), ([.io .i64 g, .io .i64 s, .io .i64 k, .io .i64 sz, .io .i64 sl, .io .i64 of, .io .i64 gp, .io .i64 lt, .io .i64 ea, .bo (d == 1)], 24)]⟩ (by kernel_rfl) (by kernel_rfl) ?_
  refine At.ret (by kernel_rfl) (.agg [.io .i64 g, .io .i64 s, .io .i64 k, .io .i64 sz, .io .i64 sl, .io .i64 of, .io .i64 gp, .io .i64 lt, .io .i64 ea, .bo (d == 1)]) (by kernel_rfl) ?_
  intro ρ w9 hw9 _
  exact ⟨rfl, hw9.below⟩

end Go.Proofs.YtiehnigbcfkcdaaGreatDoor
