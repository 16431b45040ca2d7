import Derived.Test.YtiehnigbcfkcdaaGreatDoorV
import Derived.Test.YtiehnigbcfkcdaaGreatDoorSxO
import Derived.Test.YtiehnigbcfkcdaaGreatDoorA
set_option linter.unusedSimpArgs false
set_option linter.unusedVariables false
namespace Go.Proofs.YtiehnigbcfkcdaaGreatDoor
open Go.RowKit Go.Sx
noncomputable def B53 : Code := (Tryz.f53.body).getD .skip
set_option maxHeartbeats 4000000 in
set_option maxRecDepth 100000 in
theorem clone_nil (w : World) : Calls Tryz.prog 53 #[.slice none 0 0] w fun e w' => e = .returned (.slice none 0 0) ∧ Below w.heap.size w w' := by
  refine enter (fn := Tryz.f53) (c := B53) [.sl none 0 0] Tryz.func53 rfl rfl ?_
  refine At.to noF_stable noF_fewer 20 400 [0, 4] 0 ⟨.code (sub B53 [1, 0, 1]), [.seq (sub B53 [1, 1])], [(0, .sl none 0 0), (4, .bo true)], []⟩ (by kernel_rfl) (by kernel_rfl) ?_
  refine At.res 4 (true) true (by kernel_rfl) (by first | assumption | (simp only [*]; done) | (simp [*]; done)) ?_
  refine At.to noF_stable noF_fewer 20 400 [2] 0 ⟨.exit .ret, [], [(2, .v (.slice none 0 0))], []⟩ (by kernel_rfl) (by kernel_rfl) ?_
  refine At.ret (by kernel_rfl) (.v (.slice none 0 0)) (by kernel_rfl) ?_
  intro ρ w9 hw9 _
  exact ⟨rfl, hw9.below⟩

set_option maxHeartbeats 4000000 in
set_option maxRecDepth 100000 in
theorem clone_any (a : Addr) (n c : Nat) (xs : List Value) (w : World) (ha : a.block < w.heap.size) (hsrc : Src w a xs) (hl : xs.length = n * 1) (h1 : ∀ u ∈ xs, u.oneCell' = true) (hn : n ≤ 140737488355328) :
    Calls Tryz.prog 53 #[.slice (some a) n c] w fun e w' => ∃ A' n' c', e = .returned (.slice A' n' c') ∧ RowF w (fun _ => False) [] w.heap.size 5 1 A' n' c' xs [] w' := by
  refine enter (fn := Tryz.f53) (c := B53) [.sl (some a) n c] Tryz.func53 rfl rfl ?_
  refine At.to (noF_stable) (noF_fewer) 0 100 [0, 4] 0 ⟨.code (sub B53 [1, 0, 1]), [.seq (sub B53 [1, 1])], [(0, .sl (some a) n c), (4, .bo false)], []⟩ (by kernel_rfl) (by kernel_rfl) ?_
  refine At.res 4 (false) false (by kernel_rfl) (by first | assumption | (simp only [*]; done) | (simp [*]; done)) ?_
  refine At.to (noF_stable) (noF_fewer) 0 100 [5, 6] 1 ⟨pops B53 [1, 1, 0] 2, [.seq (sub B53 [1, 0, 1, 2, 1])], [(5, .ls 0 0 0 0), (6, .sl (some a) n c)], [([], 5)]⟩ (by kernel_rfl) (by kernel_rfl) ?_
  refine At.appNew [] 5 1 1 a n c xs (by kernel_rfl) rfl ha hsrc hl h1 (by omega) (by simp only [maxLen]; omega) ?_
  intro A1 c1
  refine At.toJ (RowF.stable) RowF.fewer 0 100 [2] 0 ⟨.exit .ret, [], [(2, .sl A1 n c1)], []⟩ (by kernel_rfl) (by kernel_rfl) ?_
  refine At.ret (by kernel_rfl) (.sl A1 n c1) (by kernel_rfl) ?_
  intro ρ w9 hm hf
  exact ⟨_, _, _, rfl, RowF.fewer _ _ 0 (Nat.zero_le _) hf⟩


theorem clone_row (base : Nat) (A : Option Addr) (n c : Nat) (xs : List Value) (w : World) (hr : w.ownsRow base 5 1 (.slice A n c) n xs) (h1 : ∀ u ∈ xs, u.oneCell' = true) (hn : n ≤ 140737488355328) :
    Calls Tryz.prog 53 #[.slice A n c] w fun e w' => ∃ A' n' c', e = .returned (.slice A' n' c') ∧ RowF w (fun _ => False) [] w.heap.size 5 1 A' n' c' xs [] w' := by
  cases A with
  | some a =>
    obtain ⟨h2, h3⟩ := Src.own hr
    exact clone_any a n c xs w h3 h2 hr.1 h1 hn
  | none =>
    rcases hr.2 with ⟨h2, h3⟩ | ⟨g, cap, cur, hv, _⟩
    · subst h3
      injection h2 with _ _ hc
      subst hc
      have hx : xs = [] := by
        have := hr.1
        simpa using this
      subst hx
      refine (clone_nil w).mono ?_
      rintro e w' ⟨rfl, hb⟩
      exact ⟨none, 0, 0, rfl, ⟨⟨World.ownsRow_nil _ _ _ _, by simp⟩, hb.size⟩, ⟨Chg.ofBelow hb, by simp, by simp⟩, fun g hg => by simp [Value.ownBlock] at hg⟩
    · cases hv

noncomputable def B33 : Code := (Tryz.f33.body).getD .skip
set_option maxHeartbeats 4000000 in
set_option maxRecDepth 100000 in
theorem wbytes_any (base : Nat) (A : Option Addr) (n c : Nat) (xs : List Value) (p : Nat) (w : World) (hb : base ≤ w.heap.size) (hr : w.ownsRow base 5 1 (.slice A n c) n xs) (h1 : ∀ u ∈ xs, u.oneCell' = true) (hn : n ≤ 140737488355328) (hp : w.heap[p]? = some (.cells #[.slice A n c] 88)) (hbp : base ≤ p) (hnp : (Value.slice A n c).ownBlock ≠ some p) :
    Calls Tryz.prog 33 #[.pointer (some ⟨p, 0, none⟩)] w fun e w' => ∃ A' n' c', e = .returned (.slice A' n' c') ∧ RowF w (fun _ => False) [] w.heap.size 5 1 A' n' c' xs [] w' := by
  refine enterG (N := p) (F := FRow w (fun k => k ∈ [p]) [p] base 5 1 A n c xs) (fn := Tryz.f33) (c := B33) [.lp 0 0] [p] [([.sl A n c], 88)] Tryz.func33 rfl rfl (WInv.start1 (Nat.le_refl _) hp) ⟨FrameR.start _ [p] (by simp), hr, fun g hg hm => by simp at hm; exact hnp (hm ▸ hg)⟩ ?_
  refine At.toJ (FRow.stable) FRow.fewer 0 100 [8] 1 ⟨pops B33 [1, 1, 0] 4, [.seq (sub B33 [1, 0, 1, 2, 1])], [(8, .sl A n c)], [([.sl A n c], 88)]⟩ (by kernel_rfl) (by kernel_rfl) ?_
  refine At.mkrow (base := w.heap.size) (e := 5) (size := 1) 53 [.sl A n c] (fun k => k ∈ [p]) [p] xs (by kernel_rfl) (by kernel_rfl) (by kernel_rfl) (by kernel_rfl) (by kernel_rfl) (fun ρ w h => h.1) (Nat.le_refl _) (fun ρ w1 _ hf => clone_row base A n c xs w1 hf.2.1 h1 hn) ?_
  intro A1 n1 c1
  refine At.toJ (RowF.stable) RowF.fewer 0 100 [2] 1 ⟨.exit .ret, [], [(2, .sl A1 n1 c1)], [([.sl A n c], 88)]⟩ (by kernel_rfl) (by kernel_rfl) ?_
  refine At.ret (by kernel_rfl) (.sl A1 n1 c1) (by kernel_rfl) ?_
  intro ρ w9 hm hf
  obtain rfl := hf.here hm rfl
  refine ⟨_, _, _, rfl, ⟨⟨hf.1.1.1, by simp⟩, hf.1.2⟩, ⟨hf.2.1.1.drop fun k _ hk _ => ?_, by simp, by simp⟩, fun g hg => .inr (hf.1.1.1.lt g hg).1⟩
  simp at hk
  subst hk
  rw [hp]
  exact hm.cells 0 _ _ rfl

noncomputable def B30 : Code := (Tryz.f30.body).getD .skip
set_option maxHeartbeats 4000000 in
set_option maxRecDepth 100000 in
theorem newwriter (w : World) : Calls Tryz.prog 30 #[] w fun e w' => ∃ ρc, e = .returned ((SV.lp 0 0).den ρc) ∧ WInv w.heap.size w ρc [([.v (.slice none 0 0)], 88)] w' := by
  refine enter (fn := Tryz.f30) (c := B30) [] Tryz.func30 rfl rfl ?_
  refine At.to (noF_stable) (noF_fewer) 0 100 [0] 1 ⟨.exit .ret, [], [(0, .lp 0 0)], [([.v (.slice none 0 0)], 88)]⟩ (by kernel_rfl) (by kernel_rfl) ?_
  refine At.ret (by kernel_rfl) (.lp 0 0) (by kernel_rfl) ?_
  intro ρ w9 hm _
  exact ⟨ρ, rfl, hm⟩

noncomputable def B31 : Code := (Tryz.f31.body).getD .skip
set_option maxHeartbeats 4000000 in
set_option maxRecDepth 100000 in
theorem numbers_any (g s k sz sl of gp lt ea : Int) (d : Bool) (w : World) : Calls Tryz.prog 31 #[.agg #[.int .i64 g, .int .i64 s, .int .i64 k, .int .i64 sz, .int .i64 sl, .int .i64 of, .int .i64 gp, .int .i64 lt, .int .i64 ea, .bool d]] w fun e w' => e = .returned (.agg #[.int .i64 g, .int .i64 s, .int .i64 k, .int .i64 sz, .int .i64 sl, .int .i64 of, .int .i64 gp, .int .i64 lt, .int .i64 ea, .int .i64 (bif d then 1 else 0)]) ∧ Below w.heap.size w w' := by
  refine enter (fn := Tryz.f31) (c := B31) [.agg (cfgL g s k sz sl of gp lt ea d)] Tryz.func31 rfl rfl ?_
  refine At.to noF_stable noF_fewer 20 400 [2, 3, 24] 3 ⟨.code (sub B31 [1, 1, 0, 1]), [.seq (sub B31 [1, 1, 1])], [(2, .lp 1 0), (3, .lp 2 0), (24, .bo d)], [((cfgL g s k sz sl of gp lt ea d), 24), ([.v (.int .i64 0), .v (.int .i64 0), .v (.int .i64 0), .v (.int .i64 0), .v (.int .i64 0), .v (.int .i64 0), .v (.int .i64 0), .v (.int .i64 0), .v (.int .i64 0), .v (.int .i64 0)], 50), ([.io .i64 g, .io .i64 s, .io .i64 k, .io .i64 sz, .io .i64 sl, .io .i64 of, .io .i64 gp, .io .i64 lt, .io .i64 ea, .v (.int .i64 0)], 50)]⟩ (by kernel_rfl) (by kernel_rfl) ?_
  rcases Bool.eq_false_or_eq_true (d) with b0 | b0
  · refine At.res 24 (d) true (by kernel_rfl) b0 ?_
    refine At.to noF_stable noF_fewer 20 400 [2] 2 ⟨.exit .ret, [], [(2, .lp 1 0)], [((cfgL g s k sz sl of gp lt ea d), 24), ([.io .i64 g, .io .i64 s, .io .i64 k, .io .i64 sz, .io .i64 sl, .io .i64 of, .io .i64 gp, .io .i64 lt, .io .i64 ea, .v (.int .i64 1)], 50)]⟩ (by kernel_rfl) (by kernel_rfl) ?_
    refine At.ret (by kernel_rfl) (.agg [.io .i64 g, .io .i64 s, .io .i64 k, .io .i64 sz, .io .i64 sl, .io .i64 of, .io .i64 gp, .io .i64 lt, .io .i64 ea, .v (.int .i64 1)]) (by kernel_rfl) ?_
    intro ρ w9 hw9 _
    exact ⟨by simp only [*]; rfl, hw9.below⟩
  · refine At.res 24 (d) false (by kernel_rfl) b0 ?_
    refine At.to noF_stable noF_fewer 20 400 [2] 2 ⟨.exit .ret, [], [(2, .lp 1 0)], [((cfgL g s k sz sl of gp lt ea d), 24), ([.io .i64 g, .io .i64 s, .io .i64 k, .io .i64 sz, .io .i64 sl, .io .i64 of, .io .i64 gp, .io .i64 lt, .io .i64 ea, .v (.int .i64 0)], 50)]⟩ (by kernel_rfl) (by kernel_rfl) ?_
    refine At.ret (by kernel_rfl) (.agg [.io .i64 g, .io .i64 s, .io .i64 k, .io .i64 sz, .io .i64 sl, .io .i64 of, .io .i64 gp, .io .i64 lt, .io .i64 ea, .v (.int .i64 0)]) (by kernel_rfl) ?_
    intro ρ w9 hw9 _
    exact ⟨by simp only [*]; rfl, hw9.below⟩

end Go.Proofs.YtiehnigbcfkcdaaGreatDoor
