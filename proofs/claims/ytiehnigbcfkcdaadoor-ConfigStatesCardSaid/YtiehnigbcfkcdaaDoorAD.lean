import Derived.Test.YtiehnigbcfkcdaaDoorAA
import Derived.Test.YtiehnigbcfkcdaaDoorAC
import Derived.Test.YtiehnigbcfkcdaaDoorH
set_option linter.unusedSimpArgs false
set_option linter.unusedVariables false
namespace Go.Proofs.YtiehnigbcfkcdaaDoor
open Go.RowKit Go.Sx

theorem ord_alike (k : Int) (l x : Wn) (pre : List Wn) (hx : x.st < x.en) (hl : l.st < l.en) (hm : l ∈ pre) (hi : k = 3 → ∀ y ∈ pre, y = l ∨ y.en ≤ l.st) : ordK k l x = (ordR l x && (bif k == 3 then pre.all (fun y => !lapB y x) else true)) := by
  have e2 : ordR l x = true ↔ l.st < x.st ∨ (l.st = x.st ∧ l.en < x.en) := by simp [ordR]
  by_cases hk : k = 3
  · subst hk
    have e1 : ordK 3 l x = true ↔ l.en ≤ x.st ∧ ¬ l.st > x.st ∧ ¬ (l.st = x.st ∧ l.en ≥ x.en) := by
      simp only [ordK, BEq.rfl, Bool.true_and, Bool.and_eq_true, Bool.not_eq_true', Bool.and_eq_false_imp, decide_eq_false_iff_not, beq_iff_eq]
      omega
    have e3 : pre.all (fun y => !lapB y x) = true ↔ ∀ y ∈ pre, ¬ (y.st < x.en ∧ x.st < y.en) := by
      simp only [List.all_eq_true, lapB, Bool.not_eq_true', Bool.and_eq_false_imp, decide_eq_true_eq, decide_eq_false_iff_not]
      exact ⟨fun h y hy hh => h y hy hh.1 hh.2, fun h y hy h1 h2 => h y hy ⟨h1, h2⟩⟩
    rw [show ((3 : Int) == 3) = true from rfl, cond_true, Bool.eq_iff_iff, Bool.and_eq_true, e1, e2, e3]
    constructor
    · rintro ⟨h1, h2, h3⟩
      refine ⟨by omega, fun y hy hh => ?_⟩
      rcases hi rfl y hy with rfl | h
      · omega
      · omega
    · rintro ⟨h1, h2⟩
      have := h2 l hm
      omega
  · have hk' : (k == 3) = false := by simp [hk]
    have e1 : ordK k l x = true ↔ ¬ l.st > x.st ∧ ¬ (l.st = x.st ∧ l.en ≥ x.en) := by
      simp only [ordK, hk', Bool.false_and, Bool.not_false, Bool.and_true, Bool.and_eq_true, Bool.not_eq_true', Bool.and_eq_false_imp, decide_eq_false_iff_not, beq_iff_eq]
      omega
    rw [hk', cond_false, Bool.and_true, Bool.eq_iff_iff, e1, e2]
    omega
def Chain (k : Int) (p : Option Wn) (pre : List Wn) : Prop := match p with
  | none => pre = []
  | some l => l ∈ pre ∧ l.st < l.en ∧ (k = 3 → ∀ y ∈ pre, y = l ∨ y.en ≤ l.st)
theorem win_lt {x : Wn} (h : winB x = true) : x.st < x.en := by
  simp only [winB, Bool.and_eq_true, Bool.not_eq_true', decide_eq_false_iff_not] at h
  omega
theorem go_alike (k : Int) : ∀ (r : List Wn) (p : Option Wn) (pre : List Wn), Chain k p pre → keyGo k p r = rkeyGo k p pre r := by
  intro r
  induction r with
  | nil => intro p pre _; rfl
  | cons x r ih =>
    intro p pre hc
    simp only [keyGo, rkeyGo]
    cases hw : winB x with
    | false => rfl
    | true =>
      have hx := win_lt hw
      cases p with
      | none =>
        have hp : pre = [] := hc
        subst hp
        simp only [preB, ordP, List.all_nil, Bool.true_and]
        rw [show (bif k == 3 then true else true) = true by cases (k == 3) <;> rfl, Bool.true_and]
        exact ih (some x) _ ⟨by simp, hx, fun _ y hy => by simp at hy; exact .inl hy⟩
      | some l =>
        obtain ⟨h1, h2, h3⟩ := hc
        have ho := ord_alike k l x pre hx h2 h1 h3
        simp only [preB, ordP, Bool.true_and]
        rw [← Bool.and_assoc, ← ho]
        cases hk : ordK k l x with
        | false => rfl
        | true =>
          rw [Bool.true_and, Bool.true_and]
          refine ih (some x) _ ⟨by simp, hx, fun hk3 y hy => ?_⟩
          rcases List.mem_append.1 hy with hy | hy
          · subst hk3
            right
            have hle : l.en ≤ x.st := by
              simp only [ordK, BEq.rfl, Bool.true_and, Bool.and_eq_true, Bool.not_eq_true', decide_eq_false_iff_not] at hk
              omega
            rcases h3 rfl y hy with rfl | h
            · exact hle
            · omega
          · simp at hy
            exact .inl hy
theorem keys_alike (k : Int) (key : ByteArray) (dr : Int) (ws : List Wn) : keyE 0 k key dr ws = bif rkeyB k key dr ws then 0 else 6 := by
  unfold keyE rkeyB
  rw [show (jobE 0 != 0) = false from rfl, cond_false, go_alike k ws none [] rfl]
  cases decide ((key.size : Int) > 256) with
  | true => rfl
  | false =>
    rw [cond_false, cond_false]
    cases !(cntB dr) <;> rfl
theorem lentw_shape {base n n' c : Nat} {A : Option Addr} {ws : List Wn} {ρ : List Nat} {w : World} (hl : ws.length = n) (h : Row base 89 9 A n' c (wv (ws ++ [markW 0, markW 1, markW 2])) ρ w) : n' = n + 3 ∧ ∃ a, A = some a := by
  have h1 := h.1.1
  rw [wv_len] at h1
  simp only [List.length_append, List.length_cons, List.length_nil] at h1
  refine ⟨by omega, ?_⟩
  cases A with
  | some a => exact ⟨a, rfl⟩
  | none =>
    rcases h.1.2 with ⟨h2, _⟩ | ⟨g, cap, cur, hv, _⟩
    · injection h2 with _ h4 _
      omega
    · cases hv

noncomputable def B7 : Code := (Tryd.f7.body).getD .skip
set_option maxHeartbeats 4000000 in
set_option maxRecDepth 100000 in
theorem keys_walk (g s k sz sl of gp lt ea : Int) (d : Bool) (key : ByteArray) (dr : Int) (B : Option Addr) (m q : Nat) (ws : List Wn) (hn : m * 72 ≤ 140737488351232) (w : World) (hw : SlW w B m ws) (htab : Lib.TabIs Tryd.prog w "strings.asciiSpace" .u8 Lib.asciiSpaceTab) :
    Calls Tryd.prog 7 #[.agg #[.int .i64 g, .int .i64 s, .int .i64 k, .int .i64 sz, .int .i64 sl, .int .i64 of, .int .i64 gp, .int .i64 lt, .int .i64 ea, .bool d], .agg #[.string key, .int .i64 dr, .slice B m q]] w fun e w' => e = .returned (.bool true) ∧ Below w.heap.size w w' := by
  have hl := hw.1
  refine enterF (N := w.heap.size) (F := FrameR w (fun _ => False) []) (fn := Tryd.f7) (c := B7) [.agg (cfgL g s k sz sl of gp lt ea d), .agg [.so key, .io .i64 dr, .sl B m q]] Tryd.func7 rfl rfl (Nat.le_refl _) (FrameR.start _ [] (by simp)) ?_
  refine At.toJ (FrameR.stable) FrameR.fewer 20 300 [2, 3, 8] 2 ⟨pops B7 [1, 0] 1, [.seq (sub B7 [1, 1])], [(2, .lp 0 0), (3, .lp 1 0), (8, .agg [.so key, .io .i64 dr, .sl B m q])], [((cfgL g s k sz sl of gp lt ea d), 24), ([.so key, .io .i64 dr, .sl B m q], 50)]⟩ (by kernel_rfl) (by kernel_rfl) ?_
  refine At.mkrowv (base := w.heap.size) (e := 89) (size := 9) 20 [.agg [.so key, .io .i64 dr, .sl B m q]] (fun A _ c => .agg [.so key, .io .i64 dr, .sl A m c]) (fun _ => False) [] (wv (ws ++ [markW 0, markW 1, markW 2])) (by kernel_rfl) (by kernel_rfl) (by kernel_rfl) (by kernel_rfl) (by kernel_rfl) (fun ρ w h => h) (Nat.le_refl _) (fun ρ w1 hm hf => klend_any key dr B m q ws hn w1 (hw.below hm.below)) ?_
  intro A1 n1 c1
  refine At.mono (F' := fun ρ w1 => RowF w (fun _ => False) [] w.heap.size 89 9 A1 n1 c1 (wv (ws ++ [markW 0, markW 1, markW 2])) ρ w1 ∧ (n1 = m + 3 ∧ ∃ a, A1 = some a)) (fun ρ w1 h => ⟨h, lentw_shape hl h.1.1⟩) (At.pure ?_)
  rintro ⟨rfl, a, rfl⟩
  by_cases h0 : wrongF g s k sz sl of gp lt ea = 0
  · cases hr : rkeyB k key dr ws with
    | true =>
      have he : keyE 0 k key dr ws = 0 := (keys_alike k key dr ws).trans (by rw [hr]; rfl)
      refine At.toJ (RowF.stable) RowF.fewer 20 300 [2, 3, 5, 10, 11] 3 ⟨pops B7 [1, 1, 0] 2, [.seq (sub B7 [1, 1, 1])], [(2, .lp 0 0), (3, .lp 1 0), (5, .lp 2 0), (10, .agg (cfgL g s k sz sl of gp lt ea d)), (11, .agg [.so key, .io .i64 dr, .sl (some a) m c1])], [((cfgL g s k sz sl of gp lt ea d), 24), ([.so key, .io .i64 dr, .sl B m q], 50), ([.so key, .io .i64 dr, .sl (some a) m c1], 50)]⟩ (by kernel_rfl) (by kernel_rfl) ?_
      refine At.call RowF.stable 21 [.agg (cfgL g s k sz sl of gp lt ea d), .agg [.so key, .io .i64 dr, .sl (some a) m c1]] (.v (.int .i64 0)) (by kernel_rfl) (by kernel_rfl) (by kernel_rfl) (fun ρ _ w1 hi hf => ?_) ?_
      · have hk := key_any g s k sz sl of gp lt ea d key dr (some a) m c1 ws (by omega) w1 ((row_slW hf.1.1).head hl)
        rw [h0, he] at hk
        exact hk
      refine At.toJ (RowF.stable) RowF.fewer 20 300 [2, 3, 5, 6, 7, 13] 3 ⟨pops B7 [1, 1, 1, 1, 0, 0] 1, [.seq (sub B7 [1, 1, 1, 1, 0, 1]), .seq (sub B7 [1, 1, 1, 1, 1])], [(2, .lp 0 0), (3, .lp 1 0), (5, .lp 2 0), (6, .v (.int .i64 0)), (7, .v (.int .i64 0)), (13, .agg (cfgL g s k sz sl of gp lt ea d))], [((cfgL g s k sz sl of gp lt ea d), 24), ([.so key, .io .i64 dr, .sl B m q], 50), ([.so key, .io .i64 dr, .sl (some a) m c1], 50)]⟩ (by kernel_rfl) (by kernel_rfl) ?_
      refine At.call RowF.stable 10 [.agg (cfgL g s k sz sl of gp lt ea d)] (.v (.int .i64 0)) (by kernel_rfl) (by kernel_rfl) (by kernel_rfl) (fun ρ _ w1 hi hf => ?_) ?_
      · have hk := rwrong_any g s k sz sl of gp lt ea d w1
        rw [← wrong_eq, h0] at hk
        exact hk
      refine At.toJ (RowF.stable) RowF.fewer 20 300 [3, 5, 6, 7, 16, 17] 3 ⟨pops B7 [1, 1, 1, 1, 0, 1, 3, 0] 2, [.seq (sub B7 [1, 1, 1, 1, 0, 1, 3, 1]), .seq (sub B7 [1, 1, 1, 1, 1])], [(3, .lp 1 0), (5, .lp 2 0), (6, .v (.int .i64 0)), (7, .v (.int .i64 0)), (16, .agg (cfgL g s k sz sl of gp lt ea d)), (17, .agg [.so key, .io .i64 dr, .sl B m q])], [((cfgL g s k sz sl of gp lt ea d), 24), ([.so key, .io .i64 dr, .sl B m q], 50), ([.so key, .io .i64 dr, .sl (some a) m c1], 50)]⟩ (by kernel_rfl) (by kernel_rfl) ?_
      refine At.call RowF.stable 22 [.agg (cfgL g s k sz sl of gp lt ea d), .agg [.so key, .io .i64 dr, .sl B m q]] (.v (.bool true)) (by kernel_rfl) (by kernel_rfl) (by kernel_rfl) (fun ρ _ w1 hi hf => ?_) ?_
      · have hk := rkey_any g s k sz sl of gp lt ea d key dr B m q ws (by omega) w1 (hw.below hi.mem.below)
        rw [hr] at hk
        exact hk
      refine At.toJ (RowF.stable) RowF.fewer 20 300 [3, 5, 7, 20] 3 ⟨pops B7 [1, 1, 1, 1, 1, 0] 1, [.seq (sub B7 [1, 1, 1, 1, 1, 1])], [(3, .lp 1 0), (5, .lp 2 0), (7, .v (.int .i64 0)), (20, .v (.int .i64 0))], [((cfgL g s k sz sl of gp lt ea d), 24), ([.so key, .io .i64 dr, .sl B m q], 50), ([.so key, .io .i64 dr, .sl (some a) m c1], 50)]⟩ (by kernel_rfl) (by kernel_rfl) ?_
      refine At.call (RowF.stable) 11 [.v (.int .i64 0)] (.io .i64 0) (by kernel_rfl) (by kernel_rfl) (by kernel_rfl) (fun _ _ w _ _ => num_any (0) w) ?_
      refine At.toJ (RowF.stable) RowF.fewer 20 300 [3, 5, 24] 3 ⟨pops B7 [1, 1, 1, 1, 1, 0] 5, [.seq (sub B7 [1, 1, 1, 1, 1, 1])], [(3, .lp 1 0), (5, .lp 2 0), (24, .bo true)], [((cfgL g s k sz sl of gp lt ea d), 24), ([.so key, .io .i64 dr, .sl B m q], 50), ([.so key, .io .i64 dr, .sl (some a) m c1], 50)]⟩ (by kernel_rfl) (by kernel_rfl) ?_
      refine At.res 24 (true) true (by kernel_rfl) (by first | assumption | (simp only [*]; done) | (simp [*]; done)) ?_
      refine At.toJ (RowF.stable) RowF.fewer 20 300 [24, 25, 26] 0 ⟨pops B7 [1, 1, 1, 1, 1, 0] 7, [.seq (sub B7 [1, 1, 1, 1, 1, 1])], [(24, .v (.bool true)), (25, .agg [.so key, .io .i64 dr, .sl (some a) m c1]), (26, .agg [.so key, .io .i64 dr, .sl B m q])], []⟩ (by kernel_rfl) (by kernel_rfl) ?_
      refine At.call RowF.stable 23 [.agg [.so key, .io .i64 dr, .sl (some a) m c1], .agg [.so key, .io .i64 dr, .sl B m q]] (.v (.bool true)) (by kernel_rfl) (by kernel_rfl) (by kernel_rfl) (fun ρ _ w1 hi hf => ?_) ?_
      · exact kkept_any key dr a B m c1 q ws (by omega) (row_cap hf.1.1 (by omega)) w1 (row_slW hf.1.1) (hw.below hi.mem.below)
      refine At.toJ (RowF.stable) RowF.fewer 20 300 [29] 0 ⟨pops B7 [1, 1, 1, 1, 1, 0] 10, [.seq (sub B7 [1, 1, 1, 1, 1, 1])], [(29, .v (.bool true))], []⟩ (by kernel_rfl) (by kernel_rfl) ?_
      refine At.call RowF.stable 13 [] (.v (.bool true)) (by kernel_rfl) (by kernel_rfl) (by kernel_rfl) (fun ρ _ w1 hi hf => ?_) ?_
      · exact works_true w1 (tab_below htab hi.mem.below rfl)
      refine At.toJ (RowF.stable) RowF.fewer 20 300 [4] 0 ⟨.exit .ret, [], [(4, .v (.bool true))], []⟩ (by kernel_rfl) (by kernel_rfl) ?_
      refine At.ret (by kernel_rfl) (.v (.bool true)) (by kernel_rfl) ?_
      intro ρ w9 hm _
      exact ⟨rfl, hm.below⟩
    | false =>
      have he : keyE 0 k key dr ws = 6 := (keys_alike k key dr ws).trans (by rw [hr]; rfl)
      refine At.toJ (RowF.stable) RowF.fewer 20 300 [2, 3, 5, 10, 11] 3 ⟨pops B7 [1, 1, 0] 2, [.seq (sub B7 [1, 1, 1])], [(2, .lp 0 0), (3, .lp 1 0), (5, .lp 2 0), (10, .agg (cfgL g s k sz sl of gp lt ea d)), (11, .agg [.so key, .io .i64 dr, .sl (some a) m c1])], [((cfgL g s k sz sl of gp lt ea d), 24), ([.so key, .io .i64 dr, .sl B m q], 50), ([.so key, .io .i64 dr, .sl (some a) m c1], 50)]⟩ (by kernel_rfl) (by kernel_rfl) ?_
      refine At.call RowF.stable 21 [.agg (cfgL g s k sz sl of gp lt ea d), .agg [.so key, .io .i64 dr, .sl (some a) m c1]] (.v (.int .i64 6)) (by kernel_rfl) (by kernel_rfl) (by kernel_rfl) (fun ρ _ w1 hi hf => ?_) ?_
      · have hk := key_any g s k sz sl of gp lt ea d key dr (some a) m c1 ws (by omega) w1 ((row_slW hf.1.1).head hl)
        rw [h0, he] at hk
        exact hk
      refine At.toJ (RowF.stable) RowF.fewer 20 300 [2, 3, 5, 6, 7, 13] 3 ⟨pops B7 [1, 1, 1, 1, 0, 0] 1, [.seq (sub B7 [1, 1, 1, 1, 0, 1]), .seq (sub B7 [1, 1, 1, 1, 1])], [(2, .lp 0 0), (3, .lp 1 0), (5, .lp 2 0), (6, .v (.int .i64 6)), (7, .v (.int .i64 0)), (13, .agg (cfgL g s k sz sl of gp lt ea d))], [((cfgL g s k sz sl of gp lt ea d), 24), ([.so key, .io .i64 dr, .sl B m q], 50), ([.so key, .io .i64 dr, .sl (some a) m c1], 50)]⟩ (by kernel_rfl) (by kernel_rfl) ?_
      refine At.call RowF.stable 10 [.agg (cfgL g s k sz sl of gp lt ea d)] (.v (.int .i64 0)) (by kernel_rfl) (by kernel_rfl) (by kernel_rfl) (fun ρ _ w1 hi hf => ?_) ?_
      · have hk := rwrong_any g s k sz sl of gp lt ea d w1
        rw [← wrong_eq, h0] at hk
        exact hk
      refine At.toJ (RowF.stable) RowF.fewer 20 300 [3, 5, 6, 7, 16, 17] 3 ⟨pops B7 [1, 1, 1, 1, 0, 1, 3, 0] 2, [.seq (sub B7 [1, 1, 1, 1, 0, 1, 3, 1]), .seq (sub B7 [1, 1, 1, 1, 1])], [(3, .lp 1 0), (5, .lp 2 0), (6, .v (.int .i64 6)), (7, .v (.int .i64 0)), (16, .agg (cfgL g s k sz sl of gp lt ea d)), (17, .agg [.so key, .io .i64 dr, .sl B m q])], [((cfgL g s k sz sl of gp lt ea d), 24), ([.so key, .io .i64 dr, .sl B m q], 50), ([.so key, .io .i64 dr, .sl (some a) m c1], 50)]⟩ (by kernel_rfl) (by kernel_rfl) ?_
      refine At.call RowF.stable 22 [.agg (cfgL g s k sz sl of gp lt ea d), .agg [.so key, .io .i64 dr, .sl B m q]] (.v (.bool false)) (by kernel_rfl) (by kernel_rfl) (by kernel_rfl) (fun ρ _ w1 hi hf => ?_) ?_
      · have hk := rkey_any g s k sz sl of gp lt ea d key dr B m q ws (by omega) w1 (hw.below hi.mem.below)
        rw [hr] at hk
        exact hk
      refine At.toJ (RowF.stable) RowF.fewer 20 300 [3, 5, 7, 20] 3 ⟨pops B7 [1, 1, 1, 1, 1, 0] 1, [.seq (sub B7 [1, 1, 1, 1, 1, 1])], [(3, .lp 1 0), (5, .lp 2 0), (7, .v (.int .i64 6)), (20, .v (.int .i64 6))], [((cfgL g s k sz sl of gp lt ea d), 24), ([.so key, .io .i64 dr, .sl B m q], 50), ([.so key, .io .i64 dr, .sl (some a) m c1], 50)]⟩ (by kernel_rfl) (by kernel_rfl) ?_
      refine At.call (RowF.stable) 11 [.v (.int .i64 6)] (.io .i64 6) (by kernel_rfl) (by kernel_rfl) (by kernel_rfl) (fun _ _ w _ _ => num_any (6) w) ?_
      refine At.toJ (RowF.stable) RowF.fewer 20 300 [3, 5, 24] 3 ⟨pops B7 [1, 1, 1, 1, 1, 0] 5, [.seq (sub B7 [1, 1, 1, 1, 1, 1])], [(3, .lp 1 0), (5, .lp 2 0), (24, .bo true)], [((cfgL g s k sz sl of gp lt ea d), 24), ([.so key, .io .i64 dr, .sl B m q], 50), ([.so key, .io .i64 dr, .sl (some a) m c1], 50)]⟩ (by kernel_rfl) (by kernel_rfl) ?_
      refine At.res 24 (true) true (by kernel_rfl) (by first | assumption | (simp only [*]; done) | (simp [*]; done)) ?_
      refine At.toJ (RowF.stable) RowF.fewer 20 300 [24, 25, 26] 0 ⟨pops B7 [1, 1, 1, 1, 1, 0] 7, [.seq (sub B7 [1, 1, 1, 1, 1, 1])], [(24, .v (.bool true)), (25, .agg [.so key, .io .i64 dr, .sl (some a) m c1]), (26, .agg [.so key, .io .i64 dr, .sl B m q])], []⟩ (by kernel_rfl) (by kernel_rfl) ?_
      refine At.call RowF.stable 23 [.agg [.so key, .io .i64 dr, .sl (some a) m c1], .agg [.so key, .io .i64 dr, .sl B m q]] (.v (.bool true)) (by kernel_rfl) (by kernel_rfl) (by kernel_rfl) (fun ρ _ w1 hi hf => ?_) ?_
      · exact kkept_any key dr a B m c1 q ws (by omega) (row_cap hf.1.1 (by omega)) w1 (row_slW hf.1.1) (hw.below hi.mem.below)
      refine At.toJ (RowF.stable) RowF.fewer 20 300 [29] 0 ⟨pops B7 [1, 1, 1, 1, 1, 0] 10, [.seq (sub B7 [1, 1, 1, 1, 1, 1])], [(29, .v (.bool true))], []⟩ (by kernel_rfl) (by kernel_rfl) ?_
      refine At.call RowF.stable 13 [] (.v (.bool true)) (by kernel_rfl) (by kernel_rfl) (by kernel_rfl) (fun ρ _ w1 hi hf => ?_) ?_
      · exact works_true w1 (tab_below htab hi.mem.below rfl)
      refine At.toJ (RowF.stable) RowF.fewer 20 300 [4] 0 ⟨.exit .ret, [], [(4, .v (.bool true))], []⟩ (by kernel_rfl) (by kernel_rfl) ?_
      refine At.ret (by kernel_rfl) (.v (.bool true)) (by kernel_rfl) ?_
      intro ρ w9 hm _
      exact ⟨rfl, hm.below⟩
  · obtain ⟨n, hne⟩ : ∃ n, wrongF g s k sz sl of gp lt ea = n := ⟨_, rfl⟩
    rw [hne] at h0
    have hb : (n != 0) = true := by simp [h0]
    have he : keyE n k key dr ws = 4 := by simp [keyE, jobE, h0]
    refine At.toJ (RowF.stable) RowF.fewer 20 300 [2, 3, 5, 10, 11] 3 ⟨pops B7 [1, 1, 0] 2, [.seq (sub B7 [1, 1, 1])], [(2, .lp 0 0), (3, .lp 1 0), (5, .lp 2 0), (10, .agg (cfgL g s k sz sl of gp lt ea d)), (11, .agg [.so key, .io .i64 dr, .sl (some a) m c1])], [((cfgL g s k sz sl of gp lt ea d), 24), ([.so key, .io .i64 dr, .sl B m q], 50), ([.so key, .io .i64 dr, .sl (some a) m c1], 50)]⟩ (by kernel_rfl) (by kernel_rfl) ?_
    refine At.call RowF.stable 21 [.agg (cfgL g s k sz sl of gp lt ea d), .agg [.so key, .io .i64 dr, .sl (some a) m c1]] (.v (.int .i64 4)) (by kernel_rfl) (by kernel_rfl) (by kernel_rfl) (fun ρ _ w1 hi hf => ?_) ?_
    · have hk := key_any g s k sz sl of gp lt ea d key dr (some a) m c1 ws (by omega) w1 ((row_slW hf.1.1).head hl)
      rw [hne, he] at hk
      exact hk
    refine At.toJ (RowF.stable) RowF.fewer 20 300 [2, 3, 5, 6, 7, 13] 3 ⟨pops B7 [1, 1, 1, 1, 0, 0] 1, [.seq (sub B7 [1, 1, 1, 1, 0, 1]), .seq (sub B7 [1, 1, 1, 1, 1])], [(2, .lp 0 0), (3, .lp 1 0), (5, .lp 2 0), (6, .v (.int .i64 4)), (7, .v (.int .i64 0)), (13, .agg (cfgL g s k sz sl of gp lt ea d))], [((cfgL g s k sz sl of gp lt ea d), 24), ([.so key, .io .i64 dr, .sl B m q], 50), ([.so key, .io .i64 dr, .sl (some a) m c1], 50)]⟩ (by kernel_rfl) (by kernel_rfl) ?_
    refine At.call RowF.stable 10 [.agg (cfgL g s k sz sl of gp lt ea d)] (.io .i64 n) (by kernel_rfl) (by kernel_rfl) (by kernel_rfl) (fun ρ _ w1 hi hf => ?_) ?_
    · have hk := rwrong_any g s k sz sl of gp lt ea d w1
      rw [← wrong_eq, hne] at hk
      exact hk
    refine At.toJ (RowF.stable) RowF.fewer 20 300 [2, 3, 5, 6, 7, 15] 3 ⟨.code (sub B7 [1, 1, 1, 1, 0, 1]), [.seq (sub B7 [1, 1, 1, 1, 1])], [(2, .lp 0 0), (3, .lp 1 0), (5, .lp 2 0), (6, .v (.int .i64 4)), (7, .v (.int .i64 0)), (15, .bo (n != 0))], [((cfgL g s k sz sl of gp lt ea d), 24), ([.so key, .io .i64 dr, .sl B m q], 50), ([.so key, .io .i64 dr, .sl (some a) m c1], 50)]⟩ (by kernel_rfl) (by kernel_rfl) ?_
    refine At.res 15 (n != 0) true (by kernel_rfl) hb ?_
    refine At.toJ (RowF.stable) RowF.fewer 20 300 [3, 5, 7, 20] 3 ⟨pops B7 [1, 1, 1, 1, 1, 0] 1, [.seq (sub B7 [1, 1, 1, 1, 1, 1])], [(3, .lp 1 0), (5, .lp 2 0), (7, .v (.int .i64 4)), (20, .v (.int .i64 4))], [((cfgL g s k sz sl of gp lt ea d), 24), ([.so key, .io .i64 dr, .sl B m q], 50), ([.so key, .io .i64 dr, .sl (some a) m c1], 50)]⟩ (by kernel_rfl) (by kernel_rfl) ?_
    refine At.call (RowF.stable) 11 [.v (.int .i64 4)] (.io .i64 4) (by kernel_rfl) (by kernel_rfl) (by kernel_rfl) (fun _ _ w _ _ => num_any (4) w) ?_
    refine At.toJ (RowF.stable) RowF.fewer 20 300 [3, 5, 24] 3 ⟨pops B7 [1, 1, 1, 1, 1, 0] 5, [.seq (sub B7 [1, 1, 1, 1, 1, 1])], [(3, .lp 1 0), (5, .lp 2 0), (24, .bo true)], [((cfgL g s k sz sl of gp lt ea d), 24), ([.so key, .io .i64 dr, .sl B m q], 50), ([.so key, .io .i64 dr, .sl (some a) m c1], 50)]⟩ (by kernel_rfl) (by kernel_rfl) ?_
    refine At.res 24 (true) true (by kernel_rfl) (by first | assumption | (simp only [*]; done) | (simp [*]; done)) ?_
    refine At.toJ (RowF.stable) RowF.fewer 20 300 [24, 25, 26] 0 ⟨pops B7 [1, 1, 1, 1, 1, 0] 7, [.seq (sub B7 [1, 1, 1, 1, 1, 1])], [(24, .v (.bool true)), (25, .agg [.so key, .io .i64 dr, .sl (some a) m c1]), (26, .agg [.so key, .io .i64 dr, .sl B m q])], []⟩ (by kernel_rfl) (by kernel_rfl) ?_
    refine At.call RowF.stable 23 [.agg [.so key, .io .i64 dr, .sl (some a) m c1], .agg [.so key, .io .i64 dr, .sl B m q]] (.v (.bool true)) (by kernel_rfl) (by kernel_rfl) (by kernel_rfl) (fun ρ _ w1 hi hf => ?_) ?_
    · exact kkept_any key dr a B m c1 q ws (by omega) (row_cap hf.1.1 (by omega)) w1 (row_slW hf.1.1) (hw.below hi.mem.below)
    refine At.toJ (RowF.stable) RowF.fewer 20 300 [29] 0 ⟨pops B7 [1, 1, 1, 1, 1, 0] 10, [.seq (sub B7 [1, 1, 1, 1, 1, 1])], [(29, .v (.bool true))], []⟩ (by kernel_rfl) (by kernel_rfl) ?_
    refine At.call RowF.stable 13 [] (.v (.bool true)) (by kernel_rfl) (by kernel_rfl) (by kernel_rfl) (fun ρ _ w1 hi hf => ?_) ?_
    · exact works_true w1 (tab_below htab hi.mem.below rfl)
    refine At.toJ (RowF.stable) RowF.fewer 20 300 [4] 0 ⟨.exit .ret, [], [(4, .v (.bool true))], []⟩ (by kernel_rfl) (by kernel_rfl) ?_
    refine At.ret (by kernel_rfl) (.v (.bool true)) (by kernel_rfl) ?_
    intro ρ w9 hm _
    exact ⟨rfl, hm.below⟩

end Go.Proofs.YtiehnigbcfkcdaaDoor
