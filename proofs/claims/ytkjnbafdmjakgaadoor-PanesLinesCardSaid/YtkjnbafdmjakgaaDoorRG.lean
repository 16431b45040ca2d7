import Derived.Test.YtkjnbafdmjakgaaDoorNP
set_option linter.unusedSimpArgs false
set_option linter.unusedVariables false
namespace Go.Proofs.YtkjnbafdmjakgaaDoor
open Go.RowKit Go.Sx

theorem mid_of {s : List UInt8} {i j : Nat} : (mkB s).extract ((i : Nat) : Int).toNat ((some ((j : Nat) : Int)).getD (mkB s).size).toNat = mkB (mid s i j) := by
  rw [Option.getD_some, Int.toNat_natCast, Int.toNat_natCast]
  apply ByteArray.ext
  rw [ByteArray.data_extract]
  apply Array.ext'
  simp only [mkB, Array.toList_extract, List.extract_eq_take_drop]
  rfl
theorem readG_end {t : List UInt8} {i f : Nat} {ps : List Pn} (hi : i < t.length) (h : ∀ b ∈ mid t i t.length, b ≠ 10) : readG (f + 1) ps (t.drop i) = ([], ps.length, false) := by
  obtain ⟨y, hy⟩ : ∃ y, t[i]? = some y := ⟨_, List.getElem?_eq_getElem hi⟩
  have hc := cut_end (Nat.le_of_lt hi) h
  rw [drop_at hy] at hc ⊢
  simp only [readG, hc]
  cases parseK (mid t i t.length) <;> rfl
theorem readG_hit {t : List UInt8} {i j : Nat} {ps : List Pn} (hi : i ≤ j) (hz : t[j]? = some 10) (h : ∀ b ∈ mid t i j, b ≠ 10) : readG (t.length + 1) ps (t.drop i) = (match parseK (mid t i j) with
    | some p => readG (t.length + 1) (ps ++ [p]) (t.drop (j + 1))
    | none => ([], ps.length, false)) := by
  have hjl := (List.getElem?_eq_some_iff.1 hz).1
  obtain ⟨y, hy⟩ : ∃ y, t[i]? = some y := ⟨_, List.getElem?_eq_getElem (by omega)⟩
  have hc := cut_hit hi hz h
  rw [drop_at hy] at hc ⊢
  simp only [readG, hc]
  cases parseK (mid t i j) with
  | none => rfl
  | some p =>
    simp only [if_true]
    exact readG_fuel t.length (t.length + 1) (ps ++ [p]) (t.drop (j + 1)) (by rw [List.length_drop]; omega) (by rw [List.length_drop]; omega)
structure RQt where
  A : Option Addr
  n : Nat
  c : Nat
  ps : List Pn
  i : Nat
def frRQ (t : List UInt8) : RQt → Fr
  | ⟨A, n, c, _, i⟩ => [(0, .so (mkB t)), (5, .sl A n c), (6, .io .i64 (i : Int))]
def locRQ (_ : RQt) : Sx.Loc := []
def GRQ (w0 : World) (t : List UInt8) (R : List Pn × Nat × Bool) (x : RQt) (ρ : List Nat) (w : World) : Prop :=
  RowF w0 (fun _ => False) [] w0.heap.size 29 9 x.A x.n x.c (pv x.ps) ρ w ∧ (readG (t.length + 1) x.ps (t.drop x.i) = R ∧ x.n = x.ps.length ∧ x.n ≤ x.i ∧ x.i ≤ t.length)
def muRQ (t : List UInt8) (x : RQt) : Nat := t.length - x.i
def frRI (t : List UInt8) (A : Option Addr) (n c i : Nat) (j : Nat) : Fr := [(0, .so (mkB t)), (5, .sl A n c), (6, .io .i64 (i : Int)), (7, .io .i64 (j : Int))]
def locRI (_ : Nat) : Sx.Loc := []
def GRI (w0 : World) (t : List UInt8) (A : Option Addr) (n c : Nat) (ps : List Pn) (i j : Nat) (ρ : List Nat) (w : World) : Prop :=
  RowF w0 (fun _ => False) [] w0.heap.size 29 9 A n c (pv ps) ρ w ∧ (i ≤ j ∧ j ≤ t.length ∧ ∀ b ∈ mid t i j, b ≠ 10)

noncomputable def B11 : Code := (Tryd.f11.body).getD .skip
set_option maxHeartbeats 20000000 in
set_option maxRecDepth 100000 in
theorem rread_any (t : List UInt8) (hs : t.length ≤ 1048576) (w : World) :
    Calls Tryd.prog 11 #[.string (mkB t)] w fun e w' => ∃ A' n' c', e = .returned (.tuple #[.slice A' n' c', .int .i64 ((readG (t.length + 1) [] t).2.1 : Int), .bool (readG (t.length + 1) [] t).2.2]) ∧
      RowF w (fun _ => False) [] w.heap.size 29 9 A' n' c' (pv (readG (t.length + 1) [] t).1) [] w' := by
  generalize hR : readG (t.length + 1) [] t = R
  refine enterF (N := w.heap.size) (F := RowF w (fun _ => False) [] w.heap.size 29 9 none 0 0 []) (fn := Tryd.f11) (c := B11) [.so (mkB t)] Tryd.func11 rfl rfl (Nat.le_refl _) ⟨⟨⟨World.ownsRow_nil _ _ _ _, by simp [Value.ownBlock]⟩, Nat.le_refl _⟩, FrameR.start _ [] (by simp), by simp [Value.ownBlock]⟩ ?_
  refine At.toJ (RowF.stable) RowF.fewer 0 300 [0, 5, 6] 0 ⟨.code (sub B11 [1, 1, 1, 0, 4]), [.block 0, .seq (sub B11 [1, 1, 1, 1])], [(0, .so (mkB t)), (5, .v (.slice none 0 0)), (6, .v (.int .i64 0))], []⟩ (by kernel_rfl) (by kernel_rfl) ?_
  refine At.canon _ rfl ?_
  refine At.slFr _ rfl ?_
  refine At.loop (σ := RQt) (sub B11 [1, 1, 1, 0, 4, 4]) (frRQ t) locRQ (GRQ w t R) (muRQ t) ⟨none, 0, 0, [], 0⟩ (by kernel_rfl) (by unfold subFr; kernel_rfl) (by kernel_rfl) (fun _ _ _ _ h => ⟨h, hR, rfl, Nat.le_refl _, Nat.zero_le _⟩) ?_
  clear hR
  rintro ⟨A, n, c, ps, i⟩
  refine At.pure fun ⟨h1, h2, h3, h4⟩ => ?_
  simp only at h1 h2 h3 h4
  refine At.toJ (RowF.stable) RowF.fewer 0 300 [0, 5, 6, 13] 0 ⟨.code (sub B11 [1, 1, 1, 0, 4, 4, 0, 1]), [.seq (sub B11 [1, 1, 1, 0, 4, 4, 1]), .next (Sx.Next w.heap.size w Tryd.f11.ntmps (frRQ t) locRQ (GRQ w t R) (muRQ t) (RQt.mk A n c ps i)), .block 0, .seq (sub B11 [1, 1, 1, 1])], [(0, .so (mkB t)), (5, .sl A n c), (6, .io .i64 (↑i : Int)), (13, .bo (decide ((↑i : Int) < (↑(mkB t).size : Int))))], []⟩ (by kernel_rfl) (by kernel_rfl) ?_
  rcases Bool.eq_false_or_eq_true (decide ((↑i : Int) < (↑(mkB t).size : Int))) with b0 | b0
  · refine At.res 13 (decide ((↑i : Int) < (↑(mkB t).size : Int))) true (by kernel_rfl) b0 ?_
    refine At.toJ (RowF.stable) RowF.fewer 0 300 [0, 5, 6, 7] 0 ⟨.code (sub B11 [1, 1, 1, 0, 4, 4, 1, 4, 1, 0, 4]), [.block 2, .seq (sub B11 [1, 1, 1, 0, 4, 4, 1, 4, 1, 1]), .block 1, .next (Sx.Next w.heap.size w Tryd.f11.ntmps (frRQ t) locRQ (GRQ w t R) (muRQ t) (RQt.mk A n c ps i)), .block 0, .seq (sub B11 [1, 1, 1, 1])], [(0, .so (mkB t)), (5, .sl A n c), (6, .io .i64 (↑i : Int)), (7, .io .i64 (↑i : Int))], []⟩ (by kernel_rfl) (by kernel_rfl) ?_
    have hi : i < t.length := by have := of_decide_eq_true b0; rw [mkB_size] at this; omega
    clear b0
    refine At.loop (σ := Nat) (sub B11 [1, 1, 1, 0, 4, 4, 1, 4, 1, 0, 4, 4]) (frRI t A n c i) locRI (GRI w t A n c ps i) (fun j => t.length - j) i (by kernel_rfl) (by unfold subFr; kernel_rfl) (by kernel_rfl) (fun _ _ _ _ h => ⟨h, Nat.le_refl _, h4, by rw [mid_nil]; simp⟩) ?_
    intro j
    refine At.pure fun ⟨h5, h6, h7⟩ => ?_
    refine At.toJ (RowF.stable) RowF.fewer 0 300 [0, 5, 6, 7, 19] 0 ⟨pops B11 [1, 1, 1, 0, 4, 4, 1, 4, 1, 0, 4, 4, 0, 0] 5, [.seq (sub B11 [1, 1, 1, 0, 4, 4, 1, 4, 1, 0, 4, 4, 0, 1]), .seq (sub B11 [1, 1, 1, 0, 4, 4, 1, 4, 1, 0, 4, 4, 1]), .next (Sx.Next w.heap.size w Tryd.f11.ntmps (frRI t A n c i) locRI (GRI w t A n c ps i) (fun j => t.length - j) j), .block 2, .seq (sub B11 [1, 1, 1, 0, 4, 4, 1, 4, 1, 1]), .block 1, .next (Sx.Next w.heap.size w Tryd.f11.ntmps (frRQ t) locRQ (GRQ w t R) (muRQ t) (RQt.mk A n c ps i)), .block 0, .seq (sub B11 [1, 1, 1, 1])], [(0, .so (mkB t)), (5, .sl A n c), (6, .io .i64 (↑i : Int)), (7, .io .i64 (↑j : Int)), (19, .bo (decide ((↑j : Int) < (↑(mkB t).size : Int))))], []⟩ (by kernel_rfl) (by kernel_rfl) ?_
    rcases Bool.eq_false_or_eq_true (decide ((↑j : Int) < (↑(mkB t).size : Int))) with b0 | b0
    · refine At.res 19 (decide ((↑j : Int) < (↑(mkB t).size : Int))) true (by kernel_rfl) b0 ?_
      refine At.toJ (RowF.stable) RowF.fewer 0 300 [0, 5, 6, 7, 19, 20, 21] 0 ⟨pops B11 [1, 1, 1, 0, 4, 4, 1, 4, 1, 0, 4, 4, 0, 0] 7, [.seq (sub B11 [1, 1, 1, 0, 4, 4, 1, 4, 1, 0, 4, 4, 0, 1]), .seq (sub B11 [1, 1, 1, 0, 4, 4, 1, 4, 1, 0, 4, 4, 1]), .next (Sx.Next w.heap.size w Tryd.f11.ntmps (frRI t A n c i) locRI (GRI w t A n c ps i) (fun j => t.length - j) j), .block 2, .seq (sub B11 [1, 1, 1, 0, 4, 4, 1, 4, 1, 1]), .block 1, .next (Sx.Next w.heap.size w Tryd.f11.ntmps (frRQ t) locRQ (GRQ w t R) (muRQ t) (RQt.mk A n c ps i)), .block 0, .seq (sub B11 [1, 1, 1, 1])], [(0, .so (mkB t)), (5, .sl A n c), (6, .io .i64 (↑i : Int)), (7, .io .i64 (↑j : Int)), (19, .v (.bool true)), (20, .so (mkB t)), (21, .io .i64 (↑j : Int))], []⟩ (by kernel_rfl) (by kernel_rfl) ?_
      have hj : j < t.length := by have := of_decide_eq_true b0; rw [mkB_size] at this; omega
      clear b0
      obtain ⟨y, hz⟩ : ∃ y, t[j]? = some y := ⟨_, List.getElem?_eq_getElem hj⟩
      have hy := y.toNat_lt
      refine At.six (mkB t) (j : Int) y (by kernel_rfl) (by omega) (by rw [Int.toNat_natCast]; exact hz) RowF.stable ?_
      refine At.toJ (RowF.stable) RowF.fewer 0 300 [0, 5, 6, 7, 24] 0 ⟨.code (sub B11 [1, 1, 1, 0, 4, 4, 1, 4, 1, 0, 4, 4, 0, 1]), [.seq (sub B11 [1, 1, 1, 0, 4, 4, 1, 4, 1, 0, 4, 4, 1]), .next (Sx.Next w.heap.size w Tryd.f11.ntmps (frRI t A n c i) locRI (GRI w t A n c ps i) (fun j => t.length - j) j), .block 2, .seq (sub B11 [1, 1, 1, 0, 4, 4, 1, 4, 1, 1]), .block 1, .next (Sx.Next w.heap.size w Tryd.f11.ntmps (frRQ t) locRQ (GRQ w t R) (muRQ t) (RQt.mk A n c ps i)), .block 0, .seq (sub B11 [1, 1, 1, 1])], [(0, .so (mkB t)), (5, .sl A n c), (6, .io .i64 (↑i : Int)), (7, .io .i64 (↑j : Int)), (24, .bo ((↑y.toNat : Int) != 10))], []⟩ (by kernel_rfl) (by kernel_rfl) ?_
      rcases Bool.eq_false_or_eq_true ((↑y.toNat : Int) != 10) with b0 | b0
      · refine At.res 24 ((↑y.toNat : Int) != 10) true (by kernel_rfl) b0 ?_
        refine At.toJ (RowF.stable) RowF.fewer 0 300 [0, 5, 6, 7] 0 ⟨.exit .normal, [.next (Sx.Next w.heap.size w Tryd.f11.ntmps (frRI t A n c i) locRI (GRI w t A n c ps i) (fun j => t.length - j) j), .block 2, .seq (sub B11 [1, 1, 1, 0, 4, 4, 1, 4, 1, 1]), .block 1, .next (Sx.Next w.heap.size w Tryd.f11.ntmps (frRQ t) locRQ (GRQ w t R) (muRQ t) (RQt.mk A n c ps i)), .block 0, .seq (sub B11 [1, 1, 1, 1])], [(0, .so (mkB t)), (5, .sl A n c), (6, .io .i64 (↑i : Int)), (7, .io .i64 (IntKind.i64.wrap ((↑j : Int) + 1)))], []⟩ (by kernel_rfl) (by kernel_rfl) ?_
        have n10 : y ≠ 10 := fun e => by subst e; exact absurd b0 (by decide)
        clear b0
        have hw3 : IntKind.i64.wrap ((j : Int) + 1) = ((j + 1 : Nat) : Int) := by
          rw [wrap63 (by omega) (by omega)]
          omega
        rw [hw3]
        refine At.next (σ := Nat) (j + 1) rfl rfl (by unfold subFr; kernel_rfl) (by kernel_rfl) ?_ ?_
        · intro ρ a' w' hi' hf
          refine ⟨hf, by omega, by omega, fun b hb => ?_⟩
          rw [mid_succ h5 hz] at hb
          rcases List.mem_append.1 hb with hb | hb
          · exact h7 b hb
          · rw [List.mem_singleton.1 hb]
            exact n10
        · show t.length - (j + 1) < t.length - j
          omega
      · refine At.res 24 ((↑y.toNat : Int) != 10) false (by kernel_rfl) b0 ?_
        refine At.toJ (RowF.stable) RowF.fewer 0 300 [0, 5, 7, 28, 29, 30] 0 ⟨pops B11 [1, 1, 1, 0, 4, 4, 1, 4, 1, 1, 0] 3, [.seq (sub B11 [1, 1, 1, 0, 4, 4, 1, 4, 1, 1, 1]), .block 1, .next (Sx.Next w.heap.size w Tryd.f11.ntmps (frRQ t) locRQ (GRQ w t R) (muRQ t) (RQt.mk A n c ps i)), .block 0, .seq (sub B11 [1, 1, 1, 1])], [(0, .so (mkB t)), (5, .sl A n c), (7, .io .i64 (↑j : Int)), (28, .so (mkB t)), (29, .io .i64 (↑i : Int)), (30, .io .i64 (↑j : Int))], []⟩ (by kernel_rfl) (by kernel_rfl) ?_
        have e10 : y = 10 := UInt8.toNat_inj.1 (by simp at b0; show y.toNat = 10; omega)
        subst e10
        clear b0
        rw [readG_hit h5 hz h7] at h1
        refine At.ssl (mkB t) (i : Int) (some ((j : Nat) : Int)) (by kernel_rfl) (by omega) (by rw [Option.getD_some]; omega) (by rw [Option.getD_some, mkB_size]; omega) RowF.stable ?_
        rw [mid_of]
        cases hpp : parseK (mid t i j) with
        | none =>
          rw [hpp] at h1
          simp only at h1
          refine At.call RowF.stable 9 [.so (mkB (mid t i j))] (.tup [.agg [.v (.string ⟨#[]⟩), .v (.int .i64 0), .v (.int .i64 0), .v (.int .i64 0), .v (.int .i64 0), .v (.int .i64 0), .v (.int .i64 0), .v (.int .i64 0), .v (.int .i64 0)], .v (.bool false)]) (by kernel_rfl) (by kernel_rfl) (by kernel_rfl) (fun _ _ w1 hi _ => (rparse_any (mid t i j) (by rw [mid_len h5 h6]; omega) w1).mono fun e w2 h => ⟨h.1.trans (by rw [parse_alike, hpp]; rfl), h.2⟩) ?_
          refine At.toJ (RowF.stable) RowF.fewer 0 300 [2, 3, 4] 0 ⟨.exit .ret, [], [(2, .v (.slice none 0 0)), (3, .io .i64 (↑n : Int)), (4, .v (.bool false))], []⟩ (by kernel_rfl) (by kernel_rfl) ?_
          refine At.ret (by kernel_rfl) (.tup [.v (.slice none 0 0), .io .i64 (↑n : Int), .v (.bool false)]) (by kernel_rfl) ?_
          intro ρ w9 hm' hf
          have hf0 := RowF.fewer _ _ 0 (Nat.zero_le _) hf
          rw [← h1]
          exact ⟨none, 0, 0, by rw [h2]; rfl, ⟨Row.nil _ _ _ _ _, hf0.1.2⟩, hf0.2.1, by simp [Value.ownBlock]⟩
        | some p =>
          rw [hpp] at h1
          simp only at h1
          refine At.call RowF.stable 9 [.so (mkB (mid t i j))] (.tup [.agg (paneL (mkB p.key) p.st p.en p.kd p.nt p.ct p.sm p.mn p.mx), .v (.bool true)]) (by kernel_rfl) (by kernel_rfl) (by kernel_rfl) (fun _ _ w1 hi _ => (rparse_any (mid t i j) (by rw [mid_len h5 h6]; omega) w1).mono fun e w2 h => ⟨h.1.trans (by rw [parse_alike, hpp]; rfl), h.2⟩) ?_
          refine At.toJ (RowF.stable) RowF.fewer 0 300 [0, 5, 7, 8, 42] 1 ⟨.code (sub B11 [1, 1, 1, 0, 4, 4, 1, 4, 1, 1, 1, 0, 1]), [.seq (sub B11 [1, 1, 1, 0, 4, 4, 1, 4, 1, 1, 1, 1]), .block 1, .next (Sx.Next w.heap.size w Tryd.f11.ntmps (frRQ t) locRQ (GRQ w t R) (muRQ t) (RQt.mk A n c ps i)), .block 0, .seq (sub B11 [1, 1, 1, 1])], [(0, .so (mkB t)), (5, .sl A n c), (7, .io .i64 (↑j : Int)), (8, .lp 0 0), (42, .bo ((↑j : Int) == (↑(mkB t).size : Int)))], [([.so (mkB p.key), .io .i64 p.st, .io .i64 p.en, .io .i64 p.kd, .io .i64 p.nt, .io .i64 p.ct, .io .i64 p.sm, .io .i64 p.mn, .io .i64 p.mx], 29)]⟩ (by kernel_rfl) (by kernel_rfl) ?_
          rcases Bool.eq_false_or_eq_true ((↑j : Int) == (↑(mkB t).size : Int)) with b0 | b0
          · refine At.res 42 ((↑j : Int) == (↑(mkB t).size : Int)) true (by kernel_rfl) b0 ?_
            refine At.toJ (RowF.stable) RowF.fewer 0 300 [2, 3, 4] 0 ⟨.exit .ret, [], [(2, .v (.slice none 0 0)), (3, .io .i64 (↑n : Int)), (4, .v (.bool false))], []⟩ (by kernel_rfl) (by kernel_rfl) ?_
            refine At.ret (by kernel_rfl) (.tup [.v (.slice none 0 0), .io .i64 (↑n : Int), .v (.bool false)]) (by kernel_rfl) ?_
            exfalso
            have hjl := (List.getElem?_eq_some_iff.1 hz).1
            rw [mkB_size] at b0
            simp at b0
            omega
          · refine At.res 42 ((↑j : Int) == (↑(mkB t).size : Int)) false (by kernel_rfl) b0 ?_
            refine At.toJ (RowF.stable) RowF.fewer 0 300 [0, 7, 45, 47] 2 ⟨pops B11 [1, 1, 1, 0, 4, 4, 1, 4, 1, 1, 1, 1, 0] 3, [.seq (sub B11 [1, 1, 1, 0, 4, 4, 1, 4, 1, 1, 1, 1, 1]), .block 1, .next (Sx.Next w.heap.size w Tryd.f11.ntmps (frRQ t) locRQ (GRQ w t R) (muRQ t) (RQt.mk A n c ps i)), .block 0, .seq (sub B11 [1, 1, 1, 1])], [(0, .so (mkB t)), (7, .io .i64 (↑j : Int)), (45, .sl A n c), (47, .ls 1 0 1 1)], [([.so (mkB p.key), .io .i64 p.st, .io .i64 p.en, .io .i64 p.kd, .io .i64 p.nt, .io .i64 p.ct, .io .i64 p.sm, .io .i64 p.mn, .io .i64 p.mx], 29), ([.so (mkB p.key), .io .i64 p.st, .io .i64 p.en, .io .i64 p.kd, .io .i64 p.nt, .io .i64 p.ct, .io .i64 p.sm, .io .i64 p.mn, .io .i64 p.mx], 29)]⟩ (by kernel_rfl) (by kernel_rfl) ?_
            refine At.app (35) (29) (9) (80) (A) (n) (c) (1) ([.so (mkB p.key), .io .i64 p.st, .io .i64 p.en, .io .i64 p.kd, .io .i64 p.nt, .io .i64 p.ct, .io .i64 p.sm, .io .i64 p.mn, .io .i64 p.mx]) _ _ _ _ ([.string (mkB p.key), .int .i64 p.st, .int .i64 p.en, .int .i64 p.kd, .int .i64 p.nt, .int .i64 p.ct, .int .i64 p.sm, .int .i64 p.mn, .int .i64 p.mx]) (by kernel_rfl) (fun ρ => by kernel_rfl) (by first | omega | (simp only [Go.maxLen]; omega)) (by first | omega | (simp only [Go.maxLen]; omega)) (by first | omega | (simp only [Go.maxLen]; omega)) fun A1 c1 => ?_
            refine At.toJ (RowF.stable) RowF.fewer 0 300 [0, 5, 6, 7] 0 ⟨.exit .normal, [.next (Sx.Next w.heap.size w Tryd.f11.ntmps (frRQ t) locRQ (GRQ w t R) (muRQ t) (RQt.mk A n c ps i)), .block 0, .seq (sub B11 [1, 1, 1, 1])], [(0, .so (mkB t)), (5, .sl A1 (n + 1) c1), (6, .io .i64 (IntKind.i64.wrap ((↑j : Int) + 1))), (7, .io .i64 (↑j : Int))], []⟩ (by kernel_rfl) (by kernel_rfl) ?_
            have hlj := drop_at hz
            have hw3 : IntKind.i64.wrap ((j : Int) + 1) = ((j + 1 : Nat) : Int) := by
              rw [wrap63 (by omega) (by omega)]
              omega
            rw [hw3]
            refine At.next (σ := RQt) ⟨A1, n + 1, c1, ps ++ [p], j + 1⟩ rfl rfl (by unfold subFr; kernel_rfl) (by kernel_rfl) ?_ ?_
            · intro ρ a' w' hi' hf
              exact ⟨by rw [pv_app]; exact hf, h1, by simp only [List.length_append, List.length_singleton]; omega, by simp only; omega, by simp only; omega⟩
            · simp only [muRQ]
              omega
    · refine At.res 19 (decide ((↑j : Int) < (↑(mkB t).size : Int))) false (by kernel_rfl) b0 ?_
      refine At.toJ (RowF.stable) RowF.fewer 0 300 [0, 5, 7, 28, 29, 30] 0 ⟨pops B11 [1, 1, 1, 0, 4, 4, 1, 4, 1, 1, 0] 3, [.seq (sub B11 [1, 1, 1, 0, 4, 4, 1, 4, 1, 1, 1]), .block 1, .next (Sx.Next w.heap.size w Tryd.f11.ntmps (frRQ t) locRQ (GRQ w t R) (muRQ t) (RQt.mk A n c ps i)), .block 0, .seq (sub B11 [1, 1, 1, 1])], [(0, .so (mkB t)), (5, .sl A n c), (7, .io .i64 (↑j : Int)), (28, .so (mkB t)), (29, .io .i64 (↑i : Int)), (30, .io .i64 (↑j : Int))], []⟩ (by kernel_rfl) (by kernel_rfl) ?_
      have hj : ¬ (j : Int) < ((mkB t).size : Int) := of_decide_eq_false b0
      rw [mkB_size] at hj
      have hjl : j = t.length := by omega
      clear b0
      rw [readG_end hi (by rw [← hjl]; exact h7)] at h1
      refine At.ssl (mkB t) (i : Int) (some ((j : Nat) : Int)) (by kernel_rfl) (by omega) (by rw [Option.getD_some]; omega) (by rw [Option.getD_some, mkB_size]; omega) RowF.stable ?_
      rw [mid_of]
      cases hpp : parseK (mid t i j) with
      | none =>
        refine At.call RowF.stable 9 [.so (mkB (mid t i j))] (.tup [.agg [.v (.string ⟨#[]⟩), .v (.int .i64 0), .v (.int .i64 0), .v (.int .i64 0), .v (.int .i64 0), .v (.int .i64 0), .v (.int .i64 0), .v (.int .i64 0), .v (.int .i64 0)], .v (.bool false)]) (by kernel_rfl) (by kernel_rfl) (by kernel_rfl) (fun _ _ w1 hi _ => (rparse_any (mid t i j) (by rw [mid_len h5 h6]; omega) w1).mono fun e w2 h => ⟨h.1.trans (by rw [parse_alike, hpp]; rfl), h.2⟩) ?_
        refine At.toJ (RowF.stable) RowF.fewer 0 300 [2, 3, 4] 0 ⟨.exit .ret, [], [(2, .v (.slice none 0 0)), (3, .io .i64 (↑n : Int)), (4, .v (.bool false))], []⟩ (by kernel_rfl) (by kernel_rfl) ?_
        refine At.ret (by kernel_rfl) (.tup [.v (.slice none 0 0), .io .i64 (↑n : Int), .v (.bool false)]) (by kernel_rfl) ?_
        intro ρ w9 hm' hf
        have hf0 := RowF.fewer _ _ 0 (Nat.zero_le _) hf
        rw [← h1]
        exact ⟨none, 0, 0, by rw [h2]; rfl, ⟨Row.nil _ _ _ _ _, hf0.1.2⟩, hf0.2.1, by simp [Value.ownBlock]⟩
      | some p =>
        refine At.call RowF.stable 9 [.so (mkB (mid t i j))] (.tup [.agg (paneL (mkB p.key) p.st p.en p.kd p.nt p.ct p.sm p.mn p.mx), .v (.bool true)]) (by kernel_rfl) (by kernel_rfl) (by kernel_rfl) (fun _ _ w1 hi _ => (rparse_any (mid t i j) (by rw [mid_len h5 h6]; omega) w1).mono fun e w2 h => ⟨h.1.trans (by rw [parse_alike, hpp]; rfl), h.2⟩) ?_
        refine At.toJ (RowF.stable) RowF.fewer 0 300 [0, 5, 7, 8, 42] 1 ⟨.code (sub B11 [1, 1, 1, 0, 4, 4, 1, 4, 1, 1, 1, 0, 1]), [.seq (sub B11 [1, 1, 1, 0, 4, 4, 1, 4, 1, 1, 1, 1]), .block 1, .next (Sx.Next w.heap.size w Tryd.f11.ntmps (frRQ t) locRQ (GRQ w t R) (muRQ t) (RQt.mk A n c ps i)), .block 0, .seq (sub B11 [1, 1, 1, 1])], [(0, .so (mkB t)), (5, .sl A n c), (7, .io .i64 (↑j : Int)), (8, .lp 0 0), (42, .bo ((↑j : Int) == (↑(mkB t).size : Int)))], [([.so (mkB p.key), .io .i64 p.st, .io .i64 p.en, .io .i64 p.kd, .io .i64 p.nt, .io .i64 p.ct, .io .i64 p.sm, .io .i64 p.mn, .io .i64 p.mx], 29)]⟩ (by kernel_rfl) (by kernel_rfl) ?_
        rcases Bool.eq_false_or_eq_true ((↑j : Int) == (↑(mkB t).size : Int)) with b0 | b0
        · refine At.res 42 ((↑j : Int) == (↑(mkB t).size : Int)) true (by kernel_rfl) b0 ?_
          refine At.toJ (RowF.stable) RowF.fewer 0 300 [2, 3, 4] 0 ⟨.exit .ret, [], [(2, .v (.slice none 0 0)), (3, .io .i64 (↑n : Int)), (4, .v (.bool false))], []⟩ (by kernel_rfl) (by kernel_rfl) ?_
          refine At.ret (by kernel_rfl) (.tup [.v (.slice none 0 0), .io .i64 (↑n : Int), .v (.bool false)]) (by kernel_rfl) ?_
          intro ρ w9 hm' hf
          have hf0 := RowF.fewer _ _ 0 (Nat.zero_le _) hf
          rw [← h1]
          exact ⟨none, 0, 0, by rw [h2]; rfl, ⟨Row.nil _ _ _ _ _, hf0.1.2⟩, hf0.2.1, by simp [Value.ownBlock]⟩
        · refine At.res 42 ((↑j : Int) == (↑(mkB t).size : Int)) false (by kernel_rfl) b0 ?_
          refine At.toJ (RowF.stable) RowF.fewer 0 300 [0, 7, 45, 47] 2 ⟨pops B11 [1, 1, 1, 0, 4, 4, 1, 4, 1, 1, 1, 1, 0] 3, [.seq (sub B11 [1, 1, 1, 0, 4, 4, 1, 4, 1, 1, 1, 1, 1]), .block 1, .next (Sx.Next w.heap.size w Tryd.f11.ntmps (frRQ t) locRQ (GRQ w t R) (muRQ t) (RQt.mk A n c ps i)), .block 0, .seq (sub B11 [1, 1, 1, 1])], [(0, .so (mkB t)), (7, .io .i64 (↑j : Int)), (45, .sl A n c), (47, .ls 1 0 1 1)], [([.so (mkB p.key), .io .i64 p.st, .io .i64 p.en, .io .i64 p.kd, .io .i64 p.nt, .io .i64 p.ct, .io .i64 p.sm, .io .i64 p.mn, .io .i64 p.mx], 29), ([.so (mkB p.key), .io .i64 p.st, .io .i64 p.en, .io .i64 p.kd, .io .i64 p.nt, .io .i64 p.ct, .io .i64 p.sm, .io .i64 p.mn, .io .i64 p.mx], 29)]⟩ (by kernel_rfl) (by kernel_rfl) ?_
          refine At.app (35) (29) (9) (80) (A) (n) (c) (1) ([.so (mkB p.key), .io .i64 p.st, .io .i64 p.en, .io .i64 p.kd, .io .i64 p.nt, .io .i64 p.ct, .io .i64 p.sm, .io .i64 p.mn, .io .i64 p.mx]) _ _ _ _ ([.string (mkB p.key), .int .i64 p.st, .int .i64 p.en, .int .i64 p.kd, .int .i64 p.nt, .int .i64 p.ct, .int .i64 p.sm, .int .i64 p.mn, .int .i64 p.mx]) (by kernel_rfl) (fun ρ => by kernel_rfl) (by first | omega | (simp only [Go.maxLen]; omega)) (by first | omega | (simp only [Go.maxLen]; omega)) (by first | omega | (simp only [Go.maxLen]; omega)) fun A1 c1 => ?_
          refine At.toJ (RowF.stable) RowF.fewer 0 300 [0, 5, 6, 7] 0 ⟨.exit .normal, [.next (Sx.Next w.heap.size w Tryd.f11.ntmps (frRQ t) locRQ (GRQ w t R) (muRQ t) (RQt.mk A n c ps i)), .block 0, .seq (sub B11 [1, 1, 1, 1])], [(0, .so (mkB t)), (5, .sl A1 (n + 1) c1), (6, .io .i64 (IntKind.i64.wrap ((↑j : Int) + 1))), (7, .io .i64 (↑j : Int))], []⟩ (by kernel_rfl) (by kernel_rfl) ?_
          exfalso
          rw [mkB_size] at b0
          simp at b0
          omega
  · refine At.res 13 (decide ((↑i : Int) < (↑(mkB t).size : Int))) false (by kernel_rfl) b0 ?_
    refine At.toJ (RowF.stable) RowF.fewer 0 300 [2, 3, 4] 0 ⟨.exit .ret, [], [(2, .sl A n c), (3, .io .i64 (↑n : Int)), (4, .v (.bool true))], []⟩ (by kernel_rfl) (by kernel_rfl) ?_
    refine At.ret (by kernel_rfl) (.tup [.sl A n c, .io .i64 (↑n : Int), .v (.bool true)]) (by kernel_rfl) ?_
    have hi : ¬ (i : Int) < ((mkB t).size : Int) := of_decide_eq_false b0
    rw [mkB_size] at hi
    have hd : t.drop i = [] := List.drop_eq_nil_of_le (by omega)
    rw [hd] at h1
    intro ρ w9 hm' hf
    rw [← h1, show readG (t.length + 1) ps [] = (ps, ps.length, true) from rfl]
    exact ⟨A, n, c, by rw [h2]; rfl, RowF.fewer _ _ 0 (Nat.zero_le _) hf⟩

end Go.Proofs.YtkjnbafdmjakgaaDoor
