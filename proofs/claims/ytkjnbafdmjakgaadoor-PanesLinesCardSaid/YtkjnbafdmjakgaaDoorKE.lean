import Derived.Test.YtkjnbafdmjakgaaDoorKD
set_option linter.unusedSimpArgs false
set_option linter.unusedVariables false
namespace Go.Proofs.YtkjnbafdmjakgaaDoor
open Go.RowKit Go.Sx

/-- A text cut at its first line's end. -/
def cutN : List UInt8 → List UInt8 × List UInt8 × Bool
  | [] => ([], [], false)
  | c :: r => if c = 10 then ([], r, true) else (c :: (cutN r).1, (cutN r).2.1, (cutN r).2.2)
theorem cut_cutN : ∀ t : List UInt8, Lib.cut t [10] = cutN t
  | [] => by simp [Lib.cut, Lib.index, cutN]
  | c :: r => by
    have ih := cut_cutN r
    have hg := Lib.index_ge r [10]
    unfold cutN
    by_cases hc : c = 10
    · subst hc
      have hi : Lib.index (10 :: r) [10] = 0 := by unfold Lib.index; rw [if_pos (by simp [List.isPrefixOf])]
      simp [Lib.cut, hi]
    · have hp : List.isPrefixOf [10] (c :: r) = false := by simp [List.isPrefixOf, Ne.symm hc]
      rw [if_neg hc, ← ih]
      by_cases h1 : Lib.index r [10] = -1
      · have hi : Lib.index (c :: r) [10] = -1 := by unfold Lib.index; rw [if_neg (by simp [hp]), if_pos (by simp [h1])]
        simp [Lib.cut, hi, h1]
      · have hi : Lib.index (c :: r) [10] = Lib.index r [10] + 1 := by
          conv => lhs; unfold Lib.index
          rw [if_neg (by simp [hp]), if_neg (by simp [h1])]
        obtain ⟨i, hi2⟩ : ∃ i : Nat, Lib.index r [10] = i := ⟨_, (Int.toNat_of_nonneg (by omega)).symm⟩
        have e1 : ((i : Int) + 1).toNat = i + 1 := by omega
        simp only [Lib.cut, hi, hi2]
        rw [if_pos (by omega), if_pos (by omega), e1]
        simp
theorem cutN_len : ∀ t : List UInt8, (cutN t).1.length ≤ t.length ∧ (cutN t).2.1.length ≤ t.length ∧ ((cutN t).2.2 = true → (cutN t).2.1.length < t.length)
  | [] => by simp [cutN]
  | c :: r => by
    have ih := cutN_len r
    unfold cutN
    by_cases hc : c = 10
    · rw [if_pos hc]
      simp
    · rw [if_neg hc]
      simp only [List.length_cons]
      refine ⟨by omega, by omega, fun h => ?_⟩
      have := ih.2.2 h
      omega
theorem cut_any {t ln rs : List UInt8} {en : Bool} (h : cutN t = (ln, rs, en)) (hs : t.length ≤ 1048576) (w : World) {m : Int} (hm : w.cell? ⟨3, 0, none⟩ = some (.int .i64 m)) :
    Calls Tryd.prog 39 #[.string (mkB t), .string ⟨#[10]⟩] w fun e w' => e = .returned (.tuple #[.string (mkB ln), .string (mkB rs), .bool en]) ∧ Below w.heap.size w w' :=
  (Tryd.strings_Cut (mkB t) ⟨#[10]⟩ m w (by rw [mkB_size]; omega) hm).mono fun e w' hh => by
    obtain ⟨rfl, n, rfl⟩ := hh
    have e1 : Lib.cut (mkB t).data.toList (ByteArray.mk #[10]).data.toList = (ln, rs, en) := (cut_cutN t).trans h
    rw [e1]
    exact ⟨rfl, rfl, rfl, rfl, Nat.le_refl _, fun _ _ => rfl⟩
/-- What the kit reads of a text: panes, how many, and whether it went well. -/
def readG : Nat → List Pn → List UInt8 → List Pn × Nat × Bool
  | 0, ps, _ => (ps, ps.length, true)
  | f + 1, ps, t => match t with
    | [] => (ps, ps.length, true)
    | c :: r => match parseK (cutN (c :: r)).1 with
      | some p => if (cutN (c :: r)).2.2 then readG f (ps ++ [p]) (cutN (c :: r)).2.1 else ([], ps.length, false)
      | none => ([], ps.length, false)
def Pn.cells (p : Pn) : List Value := [.string (mkB p.key), .int .i64 p.st, .int .i64 p.en, .int .i64 p.kd, .int .i64 p.nt, .int .i64 p.ct, .int .i64 p.sm, .int .i64 p.mn, .int .i64 p.mx]
def pv (ps : List Pn) : List Value := ps.flatMap Pn.cells
theorem pv_app (ps : List Pn) (p : Pn) : pv (ps ++ [p]) = pv ps ++ p.cells := by simp [pv]
theorem readG_fuel : ∀ (f g : Nat) (ps : List Pn) (t : List UInt8), t.length < f → t.length < g → readG f ps t = readG g ps t
  | f + 1, g + 1, ps, t, h1, h2 => by
    match t with
    | [] => rfl
    | c :: r =>
      simp only [readG]
      have hl := cutN_len (c :: r)
      cases parseK (cutN (c :: r)).1 with
      | none => rfl
      | some p =>
        simp only
        by_cases he : (cutN (c :: r)).2.2 = true
        · rw [if_pos he, if_pos he]
          have hlt := hl.2.2 he
          exact readG_fuel f g _ _ (by simp only [List.length_cons] at h1 hlt; omega) (by simp only [List.length_cons] at h2 hlt; omega)
        · rw [if_neg he, if_neg he]
structure RSt where
  A : Option Addr
  n : Nat
  c : Nat
  ps : List Pn
  l : List UInt8
def frRd (x : RSt) : Fr := [(0, .so (mkB x.l)), (5, .sl x.A x.n x.c)]
def locRd (_ : RSt) : Sx.Loc := []
def GRd (w0 : World) (R : List Pn × Nat × Bool) (x : RSt) (ρ : List Nat) (w : World) : Prop :=
  RowF w0 (fun _ => False) [] w0.heap.size 29 9 x.A x.n x.c (pv x.ps) ρ w ∧ (readG (x.l.length + 1) x.ps x.l = R ∧ x.n = x.ps.length ∧ x.n + x.l.length ≤ 1048576)
def muRd (x : RSt) : Nat := x.l.length

noncomputable def B10 : Code := (Tryd.f10.body).getD .skip
set_option maxHeartbeats 20000000 in
set_option maxRecDepth 100000 in
theorem read_any (t : List UInt8) (hs : t.length ≤ 1048576) (w : World) (htp : Lib.TabIs Tryd.prog w "internal/strconv.uint64pow10" .u64 Lib.pow10Tab)
    {tp1 tp2 : TypeId} {q1 q2 : Value} (hs1 : w.var? Tryd.prog "strconv.ErrSyntax" = some #[.iface tp1 q1]) (hs2 : w.var? Tryd.prog "strconv.ErrRange" = some #[.iface tp2 q2]) {m : Int} (hm : w.cell? ⟨3, 0, none⟩ = some (.int .i64 m)) :
    Calls Tryd.prog 10 #[.string (mkB t)] w fun e w' => ∃ A' n' c', e = .returned (.tuple #[.slice A' n' c', .int .i64 ((readG (t.length + 1) [] t).2.1 : Int), .int .i64 (bif (readG (t.length + 1) [] t).2.2 then 0 else 280)]) ∧
      RowF w (fun _ => False) [] w.heap.size 29 9 A' n' c' (pv (readG (t.length + 1) [] t).1) [] w' := by
  generalize hR : readG (t.length + 1) [] t = R
  refine enterF (N := w.heap.size) (F := RowF w (fun _ => False) [] w.heap.size 29 9 none 0 0 []) (fn := Tryd.f10) (c := B10) [.so (mkB t)] Tryd.func10 rfl rfl (Nat.le_refl _) ⟨⟨⟨World.ownsRow_nil _ _ _ _, by simp [Value.ownBlock]⟩, Nat.le_refl _⟩, FrameR.start _ [] (by simp), by simp [Value.ownBlock]⟩ ?_
  refine At.toJ (RowF.stable) RowF.fewer 0 300 [0, 5] 0 ⟨.code (sub B10 [1, 1, 0, 4]), [.block 0, .seq (sub B10 [1, 1, 1])], [(0, .so (mkB t)), (5, .v (.slice none 0 0))], []⟩ (by kernel_rfl) (by kernel_rfl) ?_
  refine At.slFr _ rfl ?_
  refine At.loop (σ := RSt) (sub B10 [1, 1, 0, 4, 4]) frRd locRd (GRd w R) muRd ⟨none, 0, 0, [], t⟩ (by kernel_rfl) (by unfold subFr; kernel_rfl) (by kernel_rfl) (fun _ _ _ _ h => ⟨h, hR, rfl, by simp only; omega⟩) ?_
  clear hR
  rintro ⟨A, n, c, ps, l⟩
  refine At.pure fun ⟨h1, h2, h3⟩ => ?_
  simp only at h1 h2 h3
  refine At.toJ (RowF.stable) RowF.fewer 0 300 [0, 5, 12] 0 ⟨.code (sub B10 [1, 1, 0, 4, 4, 0, 1]), [.seq (sub B10 [1, 1, 0, 4, 4, 1]), .next (Sx.Next w.heap.size w Tryd.f10.ntmps frRd locRd (GRd w R) muRd (RSt.mk A n c ps l)), .block 0, .seq (sub B10 [1, 1, 1])], [(0, .so (mkB (RSt.mk A n c ps l).l)), (5, .sl A n c), (12, .bo !(mkB (RSt.mk A n c ps l).l).toList == (ByteArray.mk #[]).toList)], []⟩ (by kernel_rfl) (by kernel_rfl) ?_
  rcases Bool.eq_false_or_eq_true (!(mkB (RSt.mk A n c ps l).l).toList == (ByteArray.mk #[]).toList) with b0 | b0
  · refine At.res 12 (!(mkB (RSt.mk A n c ps l).l).toList == (ByteArray.mk #[]).toList) true (by kernel_rfl) b0 ?_
    refine At.toJ (RowF.stable) RowF.fewer 0 300 [5, 14] 0 ⟨pops B10 [1, 1, 0, 4, 4, 1, 4, 0] 1, [.seq (sub B10 [1, 1, 0, 4, 4, 1, 4, 1]), .block 1, .next (Sx.Next w.heap.size w Tryd.f10.ntmps frRd locRd (GRd w R) muRd (RSt.mk A n c ps l)), .block 0, .seq (sub B10 [1, 1, 1])], [(5, .sl A n c), (14, .so (mkB (RSt.mk A n c ps l).l))], []⟩ (by kernel_rfl) (by kernel_rfl) ?_
    obtain ⟨y, l', rfl⟩ := emp_false (by simpa using b0)
    clear b0
    have hcl := cutN_len (y :: l')
    generalize hct : cutN (y :: l') = ct at hcl
    obtain ⟨ln, rs, en⟩ := ct
    simp only at hcl
    refine At.call RowF.stable 39 [.so (mkB (y :: l')), .v (.string ⟨#[10]⟩)] (.tup [.so (mkB ln), .so (mkB rs), .bo en]) (by kernel_rfl) (by kernel_rfl) (by kernel_rfl) (fun _ _ w1 hi _ => cut_any hct (by simp only [List.length_cons] at h3 ⊢; omega) w1 (cell_below hm hi.mem.below)) ?_
    refine At.toJ (RowF.stable) RowF.fewer 0 300 [5, 7, 8, 20] 0 ⟨pops B10 [1, 1, 0, 4, 4, 1, 4, 1, 0] 1, [.seq (sub B10 [1, 1, 0, 4, 4, 1, 4, 1, 1]), .block 1, .next (Sx.Next w.heap.size w Tryd.f10.ntmps frRd locRd (GRd w R) muRd (RSt.mk A n c ps (y :: l'))), .block 0, .seq (sub B10 [1, 1, 1])], [(5, .sl A n c), (7, .so (mkB rs)), (8, .bo en), (20, .so (mkB ln))], []⟩ (by kernel_rfl) (by kernel_rfl) ?_
    have h1' : (match parseK ln with
          | some p => if en then readG ((y :: l').length) (ps ++ [p]) rs else ([], ps.length, false)
          | none => ([], ps.length, false)) = R := by
      have := h1
      simp only [readG, hct] at this
      exact this
    clear h1
    cases hpp : parseK ln with
    | none =>
      rw [hpp] at h1'
      simp only at h1'
      refine At.call RowF.stable 8 [.so (mkB ln)] (.tup [.agg [.v (.string ⟨#[]⟩), .v (.int .i64 0), .v (.int .i64 0), .v (.int .i64 0), .v (.int .i64 0), .v (.int .i64 0), .v (.int .i64 0), .v (.int .i64 0), .v (.int .i64 0)], .v (.int .i64 280)]) (by kernel_rfl) (by kernel_rfl) (by kernel_rfl) (fun _ _ w1 hi _ => (parse_any ln (by simp only [List.length_cons] at hcl h3; omega) w1 (tab_below htp hi.mem.below rfl) (var_below hs1 hi.mem.below) (var_below hs2 hi.mem.below) (cell_below hm hi.mem.below)).mono fun e w2 h => ⟨h.1.trans (by rw [hpp]; rfl), h.2⟩) ?_
      refine At.toJ (RowF.stable) RowF.fewer 0 300 [5, 7, 9, 10, 26] 1 ⟨pops B10 [1, 1, 0, 4, 4, 1, 4, 1, 1, 0, 0] 3, [.seq (sub B10 [1, 1, 0, 4, 4, 1, 4, 1, 1, 0, 1]), .seq (sub B10 [1, 1, 0, 4, 4, 1, 4, 1, 1, 1]), .block 1, .next (Sx.Next w.heap.size w Tryd.f10.ntmps frRd locRd (GRd w R) muRd (RSt.mk A n c ps (y :: l'))), .block 0, .seq (sub B10 [1, 1, 1])], [(5, .sl A n c), (7, .so (mkB rs)), (9, .lp 0 0), (10, .v (.int .i64 280)), (26, .bo !en)], [([.v (.string (ByteArray.mk #[])), .v (.int .i64 0), .v (.int .i64 0), .v (.int .i64 0), .v (.int .i64 0), .v (.int .i64 0), .v (.int .i64 0), .v (.int .i64 0), .v (.int .i64 0)], 29)]⟩ (by kernel_rfl) (by kernel_rfl) ?_
      rcases Bool.eq_false_or_eq_true (!en) with b0 | b0
      · refine At.res 26 (!en) true (by kernel_rfl) b0 ?_
        refine At.toJ (RowF.stable) RowF.fewer 0 300 [2, 3, 4] 0 ⟨.exit .ret, [], [(2, .v (.slice none 0 0)), (3, .io .i64 (↑n : Int)), (4, .v (.int .i64 280))], []⟩ (by kernel_rfl) (by kernel_rfl) ?_
        refine At.ret (by kernel_rfl) (.tup [.v (.slice none 0 0), .io .i64 (↑n : Int), .v (.int .i64 280)]) (by kernel_rfl) ?_
        subst h1'
        intro ρ w9 hm' hf
        have hf0 := RowF.fewer _ _ 0 (Nat.zero_le _) hf
        exact ⟨none, 0, 0, by rw [h2]; rfl, ⟨Row.nil _ _ _ _ _, hf0.1.2⟩, hf0.2.1, by simp [Value.ownBlock]⟩
      · refine At.res 26 (!en) false (by kernel_rfl) b0 ?_
        refine At.toJ (RowF.stable) RowF.fewer 0 300 [2, 3, 4] 0 ⟨.exit .ret, [], [(2, .v (.slice none 0 0)), (3, .io .i64 (↑n : Int)), (4, .v (.int .i64 280))], []⟩ (by kernel_rfl) (by kernel_rfl) ?_
        refine At.ret (by kernel_rfl) (.tup [.v (.slice none 0 0), .io .i64 (↑n : Int), .v (.int .i64 280)]) (by kernel_rfl) ?_
        subst h1'
        intro ρ w9 hm' hf
        have hf0 := RowF.fewer _ _ 0 (Nat.zero_le _) hf
        exact ⟨none, 0, 0, by rw [h2]; rfl, ⟨Row.nil _ _ _ _ _, hf0.1.2⟩, hf0.2.1, by simp [Value.ownBlock]⟩
    | some p =>
      rw [hpp] at h1'
      simp only at h1'
      refine At.call RowF.stable 8 [.so (mkB ln)] (.tup [.agg (paneL (mkB p.key) p.st p.en p.kd p.nt p.ct p.sm p.mn p.mx), .v (.int .i64 0)]) (by kernel_rfl) (by kernel_rfl) (by kernel_rfl) (fun _ _ w1 hi _ => (parse_any ln (by simp only [List.length_cons] at hcl h3; omega) w1 (tab_below htp hi.mem.below rfl) (var_below hs1 hi.mem.below) (var_below hs2 hi.mem.below) (cell_below hm hi.mem.below)).mono fun e w2 h => ⟨h.1.trans (by rw [hpp]; rfl), h.2⟩) ?_
      refine At.toJ (RowF.stable) RowF.fewer 0 300 [5, 7, 9, 10, 26] 1 ⟨pops B10 [1, 1, 0, 4, 4, 1, 4, 1, 1, 0, 0] 3, [.seq (sub B10 [1, 1, 0, 4, 4, 1, 4, 1, 1, 0, 1]), .seq (sub B10 [1, 1, 0, 4, 4, 1, 4, 1, 1, 1]), .block 1, .next (Sx.Next w.heap.size w Tryd.f10.ntmps frRd locRd (GRd w R) muRd (RSt.mk A n c ps (y :: l'))), .block 0, .seq (sub B10 [1, 1, 1])], [(5, .sl A n c), (7, .so (mkB rs)), (9, .lp 0 0), (10, .v (.int .i64 0)), (26, .bo !en)], [([.so (mkB p.key), .io .i64 p.st, .io .i64 p.en, .io .i64 p.kd, .io .i64 p.nt, .io .i64 p.ct, .io .i64 p.sm, .io .i64 p.mn, .io .i64 p.mx], 29)]⟩ (by kernel_rfl) (by kernel_rfl) ?_
      rcases Bool.eq_false_or_eq_true (!en) with b0 | b0
      · refine At.res 26 (!en) true (by kernel_rfl) b0 ?_
        refine At.toJ (RowF.stable) RowF.fewer 0 300 [2, 3, 4] 0 ⟨.exit .ret, [], [(2, .v (.slice none 0 0)), (3, .io .i64 (↑n : Int)), (4, .v (.int .i64 280))], []⟩ (by kernel_rfl) (by kernel_rfl) ?_
        refine At.ret (by kernel_rfl) (.tup [.v (.slice none 0 0), .io .i64 (↑n : Int), .v (.int .i64 280)]) (by kernel_rfl) ?_
        have hen : en = false := by simpa using b0
        rw [hen] at h1'
        simp only [Bool.false_eq_true, if_false] at h1'
        subst h1'
        intro ρ w9 hm' hf
        have hf0 := RowF.fewer _ _ 0 (Nat.zero_le _) hf
        exact ⟨none, 0, 0, by rw [h2]; rfl, ⟨Row.nil _ _ _ _ _, hf0.1.2⟩, hf0.2.1, by simp [Value.ownBlock]⟩
      · refine At.res 26 (!en) false (by kernel_rfl) b0 ?_
        refine At.toJ (RowF.stable) RowF.fewer 0 300 [7, 32, 34] 2 ⟨pops B10 [1, 1, 0, 4, 4, 1, 4, 1, 1, 1, 0] 3, [.seq (sub B10 [1, 1, 0, 4, 4, 1, 4, 1, 1, 1, 1]), .block 1, .next (Sx.Next w.heap.size w Tryd.f10.ntmps frRd locRd (GRd w R) muRd (RSt.mk A n c ps (y :: l'))), .block 0, .seq (sub B10 [1, 1, 1])], [(7, .so (mkB rs)), (32, .sl A n c), (34, .ls 1 0 1 1)], [([.so (mkB p.key), .io .i64 p.st, .io .i64 p.en, .io .i64 p.kd, .io .i64 p.nt, .io .i64 p.ct, .io .i64 p.sm, .io .i64 p.mn, .io .i64 p.mx], 29), ([.so (mkB p.key), .io .i64 p.st, .io .i64 p.en, .io .i64 p.kd, .io .i64 p.nt, .io .i64 p.ct, .io .i64 p.sm, .io .i64 p.mn, .io .i64 p.mx], 29)]⟩ (by kernel_rfl) (by kernel_rfl) ?_
        refine At.app (35) (29) (9) (80) (A) (n) (c) (1) ([.so (mkB p.key), .io .i64 p.st, .io .i64 p.en, .io .i64 p.kd, .io .i64 p.nt, .io .i64 p.ct, .io .i64 p.sm, .io .i64 p.mn, .io .i64 p.mx]) _ _ _ _ ([.string (mkB p.key), .int .i64 p.st, .int .i64 p.en, .int .i64 p.kd, .int .i64 p.nt, .int .i64 p.ct, .int .i64 p.sm, .int .i64 p.mn, .int .i64 p.mx]) (by kernel_rfl) (fun ρ => by kernel_rfl) (by first | omega | (simp only [Go.maxLen]; omega)) (by first | omega | (simp only [Go.maxLen]; omega)) (by first | omega | (simp only [Go.maxLen]; omega)) fun A1 c1 => ?_
        refine At.toJ (RowF.stable) RowF.fewer 0 300 [0, 5] 0 ⟨.exit .normal, [.next (Sx.Next w.heap.size w Tryd.f10.ntmps frRd locRd (GRd w R) muRd (RSt.mk A n c ps (y :: l'))), .block 0, .seq (sub B10 [1, 1, 1])], [(0, .so (mkB rs)), (5, .sl A1 (n + 1) c1)], []⟩ (by kernel_rfl) (by kernel_rfl) ?_
        have hen : en = true := by simpa using b0
        rw [hen] at h1'
        simp only [if_true] at h1'
        have hlt := hcl.2.2 hen
        rw [readG_fuel (y :: l').length (rs.length + 1) (ps ++ [p]) rs (by simp only [List.length_cons] at hlt ⊢; omega) (by omega)] at h1'
        refine At.next (σ := RSt) ⟨A1, n + 1, c1, ps ++ [p], rs⟩ rfl rfl (by unfold subFr; kernel_rfl) (by kernel_rfl) ?_ ?_
        · intro ρ a' w' hi' hf
          exact ⟨by rw [pv_app]; exact hf, h1', by simp only [List.length_append, List.length_singleton]; omega, by simp only [List.length_cons] at h3 hlt ⊢; omega⟩
        · simp only [muRd, List.length_cons] at hlt ⊢
          omega
  · refine At.res 12 (!(mkB (RSt.mk A n c ps l).l).toList == (ByteArray.mk #[]).toList) false (by kernel_rfl) b0 ?_
    refine At.toJ (RowF.stable) RowF.fewer 0 300 [2, 3, 4] 0 ⟨.exit .ret, [], [(2, .sl A n c), (3, .io .i64 (↑n : Int)), (4, .v (.int .i64 0))], []⟩ (by kernel_rfl) (by kernel_rfl) ?_
    refine At.ret (by kernel_rfl) (.tup [.sl A n c, .io .i64 (↑n : Int), .v (.int .i64 0)]) (by kernel_rfl) ?_
    have he := emp_true (x := l) (by simpa using b0)
    subst he
    intro ρ w9 hm' hf
    rw [show readG (([] : List UInt8).length + 1) ps [] = (ps, ps.length, true) from rfl] at h1
    subst h1
    refine ⟨A, n, c, by rw [h2]; rfl, RowF.fewer _ _ 0 (Nat.zero_le _) hf⟩

end Go.Proofs.YtkjnbafdmjakgaaDoor
