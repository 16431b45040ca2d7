import Derived.Test.YtkjnbafdmjakgaaDoorBI
set_option linter.unusedSimpArgs false
set_option linter.unusedVariables false
namespace Go.Proofs.YtkjnbafdmjakgaaDoor
open Go.RowKit Go.Sx

/-- The pane that is written over. -/
def gone : List SV := [.v (.string ⟨#[103, 111, 110, 101]⟩), .v (.int .i64 0), .v (.int .i64 0), .v (.int .i64 0), .v (.int .i64 0), .v (.int .i64 0), .v (.int .i64 0), .v (.int .i64 0), .v (.int .i64 0)]
def ownOf (A : Option Addr) (n c k : Nat) : Prop := (Value.slice A n c).ownBlock = some k
def frJ (A : Option Addr) (n c : Nat) : Nat × List Value → Fr
  | (i, _) => [(0, .sl A n c), (2, .io .i64 (i : Int))]
def locJ (_ : Nat × List Value) : Sx.Loc := []
def GJ (w : World) (base : Nat) (A : Option Addr) (n c : Nat) (x : Nat × List Value) (ρ : List Nat) (w1 : World) : Prop := RowF w (ownOf A n c) [] base 29 9 A n c x.2 ρ w1 ∧ x.1 ≤ n
def frJ2 : Option Addr × Nat × Nat × Nat × List Value → Fr
  | (A', n', c', i, _) => [(0, .sl A' n' c'), (3, .io .i64 (i : Int))]
def locJ2 (_ : Option Addr × Nat × Nat × Nat × List Value) : Sx.Loc := []
def GJ2 (w : World) (base : Nat) (A : Option Addr) (n c : Nat) : Option Addr × Nat × Nat × Nat × List Value → List Nat → World → Prop
  | (A', n', c', i, zs), ρ, w1 => RowF w (ownOf A n c) [] base 29 9 A' n' c' zs ρ w1 ∧ (i ≤ 20 ∧ n' = n + i)

noncomputable def B13 : Code := (Tryd.f13.body).getD .skip
set_option maxHeartbeats 20000000 in
set_option maxRecDepth 100000 in
theorem spoilt_any {A : Option Addr} {n c base : Nat} {xs : List Value} (w : World) (h : w.ownsRow base 29 9 (.slice A n c) n xs) (hb : base ≤ w.heap.size) (hn : n ≤ 1048576) :
    Calls Tryd.prog 13 #[.slice A n c] w fun e w' => e = .returned (.tuple #[]) ∧ Chg (ownOf A n c) w w' := by
  refine enterF (N := base) (F := RowF w (ownOf A n c) [] base 29 9 A n c xs) (fn := Tryd.f13) (c := B13) [.sl A n c] Tryd.func13 rfl rfl hb ⟨⟨⟨h, by simp⟩, hb⟩, FrameR.start _ [] (by simp), fun g hg => .inl hg⟩ ?_
  refine At.toJ (RowF.stable) RowF.fewer 0 300 [0, 2] 0 ⟨.code (sub B13 [0, 1, 4]), [.block 0, .seq (sub B13 [1])], [(0, .sl A n c), (2, .v (.int .i64 0))], []⟩ (by kernel_rfl) (by kernel_rfl) ?_
  refine At.canon _ rfl ?_
  refine At.loop (σ := Nat × List Value) (sub B13 [0, 1, 4, 4]) (frJ A n c) locJ (GJ w base A n c) (fun x => n - x.1) (0, xs) (by kernel_rfl) (by unfold subFr; kernel_rfl) (by kernel_rfl) (fun _ _ _ _ h => ⟨h, Nat.zero_le _⟩) ?_
  rintro ⟨i, ys⟩
  refine At.pure fun h1 => ?_
  simp only at h1
  dsimp only
  refine At.toJ (RowF.stable) RowF.fewer 0 300 [0, 2, 7] 0 ⟨.code (sub B13 [0, 1, 4, 4, 0, 1]), [.seq (sub B13 [0, 1, 4, 4, 1]), .next (Sx.Next base w Tryd.f13.ntmps (frJ A n c) locJ (GJ w base A n c) (fun x => n - x.fst) (i, ys)), .block 0, .seq (sub B13 [1])], [(0, .sl A n c), (2, .io .i64 (↑i : Int)), (7, .bo (decide ((↑i : Int) < (↑n : Int))))], []⟩ (by kernel_rfl) (by kernel_rfl) ?_
  rcases Bool.eq_false_or_eq_true (decide ((↑i : Int) < (↑n : Int))) with b0 | b0
  · refine At.res 7 (decide ((↑i : Int) < (↑n : Int))) true (by kernel_rfl) b0 ?_
    refine At.toJ (RowF.stable) RowF.fewer 0 300 [0, 2, 10, 11, 12] 0 ⟨pops B13 [0, 1, 4, 4, 1, 0, 4] 3, [.block 1, .seq (sub B13 [0, 1, 4, 4, 1, 1]), .next (Sx.Next base w Tryd.f13.ntmps (frJ A n c) locJ (GJ w base A n c) (fun x => n - x.fst) (i, ys)), .block 0, .seq (sub B13 [1])], [(0, .sl A n c), (2, .io .i64 (↑i : Int)), (10, .sl A n c), (11, .io .i64 (↑i : Int)), (12, .agg [.v (.string (ByteArray.mk #[103, 111, 110, 101])), .v (.int .i64 0), .v (.int .i64 0), .v (.int .i64 0), .v (.int .i64 0), .v (.int .i64 0), .v (.int .i64 0), .v (.int .i64 0), .v (.int .i64 0)])], []⟩ (by kernel_rfl) (by kernel_rfl) ?_
    have hi : i < n := by have := of_decide_eq_true b0; omega
    clear b0
    refine At.mono (F' := fun ρ w1 => RowF w (ownOf A n c) [] base 29 9 A n c ys ρ w1 ∧ ∃ a, A = some a) (fun ρ w1 h => ⟨h, (row_is h.1.1 (by omega)).1⟩) (At.pure ?_)
    rintro ⟨a, rfl⟩
    refine At.idx a n 9 (i : Int) (by kernel_rfl) (by omega) (by omega) RowF.stable ?_
    refine At.stRowN (i * 9) (a.add ((i : Int).toNat * 9)) gone (by kernel_rfl) (by rw [Int.toNat_natCast]) (by show i * 9 + 9 ≤ n * 9; omega) (Nat.le_refl _) (fun zs => ?_)
    refine At.toJ (RowF.stable) RowF.fewer 0 300 [0, 2] 0 ⟨.exit .normal, [.next (Sx.Next base w Tryd.f13.ntmps (frJ (some a) n c) locJ (GJ w base (some a) n c) (fun x => n - x.fst) (i, ys)), .block 0, .seq (sub B13 [1])], [(0, .sl (some a) n c), (2, .io .i64 (IntKind.i64.wrap ((↑i : Int) + 1)))], []⟩ (by kernel_rfl) (by kernel_rfl) ?_
    have hw3 : IntKind.i64.wrap ((i : Int) + 1) = ((i + 1 : Nat) : Int) := by
      rw [wrap63 (by omega) (by omega)]
      omega
    rw [hw3]
    refine At.next (σ := Nat × List Value) (i + 1, zs) rfl rfl (by unfold subFr; kernel_rfl) (by kernel_rfl) ?_ ?_
    · intro ρ a' w' hi' hf
      exact ⟨hf, by simp only; omega⟩
    · simp only
      omega
  · refine At.res 7 (decide ((↑i : Int) < (↑n : Int))) false (by kernel_rfl) b0 ?_
    refine At.toJ (RowF.stable) RowF.fewer 0 300 [0, 3] 0 ⟨.code (sub B13 [1, 1, 4]), [.block 2], [(0, .sl A n c), (3, .v (.int .i64 0))], []⟩ (by kernel_rfl) (by kernel_rfl) ?_
    clear b0
    refine At.canon _ rfl ?_
    refine At.loop (σ := Option Addr × Nat × Nat × Nat × List Value) (sub B13 [1, 1, 4, 4]) frJ2 locJ2 (GJ2 w base A n c) (fun x => 20 - x.2.2.2.1) (A, n, c, 0, ys) (by kernel_rfl) (by unfold subFr; kernel_rfl) (by kernel_rfl) (fun _ _ _ _ h => ⟨h, Nat.zero_le _, rfl⟩) ?_
    rintro ⟨A', n', c', i, zs⟩
    refine At.pure fun ⟨h2, h3⟩ => ?_
    dsimp only
    refine At.toJ (RowF.stable) RowF.fewer 0 300 [0, 3, 15] 0 ⟨.code (sub B13 [1, 1, 4, 4, 0, 1]), [.seq (sub B13 [1, 1, 4, 4, 1]), .next (Sx.Next base w Tryd.f13.ntmps frJ2 locJ2 (GJ2 w base A n c) (fun x => 20 - x.snd.snd.snd.fst) (A', n', c', i, zs)), .block 2], [(0, .sl A' n' c'), (3, .io .i64 (↑i : Int)), (15, .bo (decide ((↑i : Int) < 20)))], []⟩ (by kernel_rfl) (by kernel_rfl) ?_
    rcases Bool.eq_false_or_eq_true (decide ((↑i : Int) < 20)) with b0 | b0
    · refine At.res 15 (decide ((↑i : Int) < 20)) true (by kernel_rfl) b0 ?_
      refine At.toJ (RowF.stable) RowF.fewer 0 300 [3, 18, 20] 1 ⟨pops B13 [1, 1, 4, 4, 1, 0, 4] 3, [.block 3, .seq (sub B13 [1, 1, 4, 4, 1, 1]), .next (Sx.Next base w Tryd.f13.ntmps frJ2 locJ2 (GJ2 w base A n c) (fun x => 20 - x.snd.snd.snd.fst) (A', n', c', i, zs)), .block 2], [(3, .io .i64 (↑i : Int)), (18, .sl A' n' c'), (20, .ls 0 0 1 1)], [([.v (.string (ByteArray.mk #[103, 111, 110, 101])), .v (.int .i64 0), .v (.int .i64 0), .v (.int .i64 0), .v (.int .i64 0), .v (.int .i64 0), .v (.int .i64 0), .v (.int .i64 0), .v (.int .i64 0)], 29)]⟩ (by kernel_rfl) (by kernel_rfl) ?_
      refine At.app (35) (29) (9) (80) (A') (n') (c') (1) ([.v (.string (ByteArray.mk #[103, 111, 110, 101])), .v (.int .i64 0), .v (.int .i64 0), .v (.int .i64 0), .v (.int .i64 0), .v (.int .i64 0), .v (.int .i64 0), .v (.int .i64 0), .v (.int .i64 0)]) _ _ _ _ ([.string (ByteArray.mk #[103, 111, 110, 101]), .int .i64 0, .int .i64 0, .int .i64 0, .int .i64 0, .int .i64 0, .int .i64 0, .int .i64 0, .int .i64 0]) (by kernel_rfl) (fun ρ => by kernel_rfl) (by first | omega | (simp only [Go.maxLen]; omega)) (by first | omega | (simp only [Go.maxLen]; omega)) (by first | omega | (simp only [Go.maxLen]; omega)) fun A1 c1 => ?_
      refine At.toJ (RowF.stable) RowF.fewer 0 300 [0, 3] 0 ⟨.exit .normal, [.next (Sx.Next base w Tryd.f13.ntmps frJ2 locJ2 (GJ2 w base A n c) (fun x => 20 - x.snd.snd.snd.fst) (A', n', c', i, zs)), .block 2], [(0, .sl A1 (n' + 1) c1), (3, .io .i64 (IntKind.i64.wrap ((↑i : Int) + 1)))], []⟩ (by kernel_rfl) (by kernel_rfl) ?_
      have hi20 : i < 20 := by have := of_decide_eq_true b0; omega
      have hw3 : IntKind.i64.wrap ((i : Int) + 1) = ((i + 1 : Nat) : Int) := by
        rw [wrap63 (by omega) (by omega)]
        omega
      rw [hw3]
      refine At.next (σ := Option Addr × Nat × Nat × Nat × List Value) (A1, n' + 1, c1, i + 1, zs ++ [.string ⟨#[103, 111, 110, 101]⟩, .int .i64 0, .int .i64 0, .int .i64 0, .int .i64 0, .int .i64 0, .int .i64 0, .int .i64 0, .int .i64 0]) rfl rfl (by unfold subFr; kernel_rfl) (by kernel_rfl) ?_ ?_
      · intro ρ a' w' hi' hf
        exact ⟨hf, by omega, by omega⟩
      · show 20 - (i + 1) < 20 - i
        omega
    · refine At.res 15 (decide ((↑i : Int) < 20)) false (by kernel_rfl) b0 ?_
      refine At.toJ (RowF.stable) RowF.fewer 0 300 [0, 3] 0 ⟨.exit .normal, [], [(0, .sl A' n' c'), (3, .io .i64 (↑i : Int))], []⟩ (by kernel_rfl) (by kernel_rfl) ?_
      refine At.ret (by kernel_rfl) (.tup []) (by kernel_rfl) ?_
      intro ρ w9 hm' hf
      exact ⟨rfl, hf.2.1.1⟩

end Go.Proofs.YtkjnbafdmjakgaaDoor
