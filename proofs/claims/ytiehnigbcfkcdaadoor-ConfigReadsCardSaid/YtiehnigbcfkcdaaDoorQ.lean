import Derived.Test.YtiehnigbcfkcdaaDoorP
set_option linter.unusedSimpArgs false
set_option linter.unusedVariables false
namespace Go.Proofs.YtiehnigbcfkcdaaDoor
open Go.RowKit Go.Sx

theorem rf_bounds : ∀ (l : List Nat) (f : Nat) (i x wt : Int) (seen : List Nat) (X q : Int), rf f l i x wt seen = (X, q, true) → i ≤ q ∧ q ≤ i + l.length := by
  intro l
  induction l with
  | nil =>
    intro f i x wt seen X q h
    rw [rf_nil] at h
    simp at h
  | cons b l ih =>
    intro f i x wt seen X q h
    cases f with
    | zero =>
      rw [show rf 0 (b :: l) i x wt seen = (0, 0, false) from rfl] at h
      simp at h
    | succ f =>
      rw [rf_cons] at h
      simp only [List.length_cons]
      cases h1 : decide ((b : Int) < 128) with
      | true =>
        simp only [h1, cond_true, Prod.mk.injEq] at h
        omega
      | false =>
        simp only [h1, cond_false] at h
        have := ih f _ _ _ _ _ _ h
        omega
theorem rf_bound {bs : List Nat} {at' X q : Int} {o : Bool} (hb : 0 ≤ at' ∧ at' ≤ bs.length) (h : rf 8 (bs.drop at'.toNat) at' 0 1 [] = (X, q, o)) (ho : o = true) : 0 ≤ q ∧ q ≤ bs.length := by
  subst ho
  have := rf_bounds (bs.drop at'.toNat) 8 at' 0 1 [] X q h
  simp only [List.length_drop] at this
  omega
theorem rreadL_n {k : Nat} {bs : List Nat} {at' x q : Int} (h : rf 8 (bs.drop at'.toNat) at' 0 1 [] = (x, q, false)) : rreadL (k + 1) bs at' = none := by
  simp only [rreadL, h, cond_false]
theorem rreadL_s {k : Nat} {bs : List Nat} {at' x q : Int} (h : rf 8 (bs.drop at'.toNat) at' 0 1 [] = (x, q, true)) : rreadL (k + 1) bs at' = (rreadL k bs q).map fun p => (IntKind.i64.wrap x :: p.1, p.2) := by
  simp only [rreadL, h, cond_true]
def badR : Value := .tuple #[.agg #[.int .i64 0, .int .i64 0, .int .i64 0, .int .i64 0, .int .i64 0, .int .i64 0, .int .i64 0, .int .i64 0, .int .i64 0, .bool false], .int .i64 0, .bool false]
/-- What the reference's Read answers of ten numbers and the place behind them. -/
def readR : Option (List Int × Int) → Value
  | some ([g, s, k, sz, sl, of, gp, lt, ea, d], at') => bif wrongR g s k sz sl of gp lt ea != 0 then badR else bif decide (d > 1) then badR else bif !((bif d == 1 then (1 : Int) else 0) == d) then badR else
      .tuple #[.agg #[.int .i64 g, .int .i64 s, .int .i64 k, .int .i64 sz, .int .i64 sl, .int .i64 of, .int .i64 gp, .int .i64 lt, .int .i64 ea, .bool (d == 1)], .int .i64 at', .bool true]
  | _ => badR

noncomputable def B38 : Code := (Tryd.f38.body).getD .skip
set_option maxHeartbeats 4000000 in
set_option maxRecDepth 100000 in
theorem rof_any (g s k sz sl of gp lt ea d : Int) (w : World) : Calls Tryd.prog 38 #[.agg #[.int .i64 g, .int .i64 s, .int .i64 k, .int .i64 sz, .int .i64 sl, .int .i64 of, .int .i64 gp, .int .i64 lt, .int .i64 ea, .int .i64 d]] w fun e w' => e = .returned (.agg #[.int .i64 g, .int .i64 s, .int .i64 k, .int .i64 sz, .int .i64 sl, .int .i64 of, .int .i64 gp, .int .i64 lt, .int .i64 ea, .bool (d == 1)]) ∧ Below w.heap.size w w' := by
  refine enter (fn := Tryd.f38) (c := B38) [.agg [.io .i64 g, .io .i64 s, .io .i64 k, .io .i64 sz, .io .i64 sl, .io .i64 of, .io .i64 gp, .io .i64 lt, .io .i64 ea, .io .i64 d]] Tryd.func38 rfl rfl ?_
  refine At.to noF_stable noF_fewer 20 400 [2] 2 ⟨.exit .ret, [], [(2, .lp 1 0)], [([.io .i64 g, .io .i64 s, .io .i64 k, .io .i64 sz, .io .i64 sl, .io .i64 of, .io .i64 gp, .io .i64 lt, .io .i64 ea, .io .i64 d], 74), ([.io .i64 g, .io .i64 s, .io .i64 k, .io .i64 sz, .io .i64 sl, .io .i64 of, .io .i64 gp, .io .i64 lt, .io .i64 ea, .bo (d == 1)], 24)]⟩ (by kernel_rfl) (by kernel_rfl) ?_
  refine At.ret (by kernel_rfl) (.agg [.io .i64 g, .io .i64 s, .io .i64 k, .io .i64 sz, .io .i64 sl, .io .i64 of, .io .i64 gp, .io .i64 lt, .io .i64 ea, .bo (d == 1)]) (by kernel_rfl) ?_
  intro ρ w9 hw9 _
  exact ⟨rfl, hw9.below⟩

noncomputable def B39 : Code := (Tryd.f39.body).getD .skip
set_option maxHeartbeats 4000000 in
set_option maxRecDepth 100000 in
theorem rfields_any (g s k sz sl of gp lt ea : Int) (d : Bool) (w : World) : Calls Tryd.prog 39 #[.agg #[.int .i64 g, .int .i64 s, .int .i64 k, .int .i64 sz, .int .i64 sl, .int .i64 of, .int .i64 gp, .int .i64 lt, .int .i64 ea, .bool d]] w fun e w' => e = .returned (.agg #[.int .i64 g, .int .i64 s, .int .i64 k, .int .i64 sz, .int .i64 sl, .int .i64 of, .int .i64 gp, .int .i64 lt, .int .i64 ea, .int .i64 (bif d then 1 else 0)]) ∧ Below w.heap.size w w' := by
  refine enter (fn := Tryd.f39) (c := B39) [.agg (cfgL g s k sz sl of gp lt ea d)] Tryd.func39 rfl rfl ?_
  refine At.to noF_stable noF_fewer 20 400 [1, 2, 3, 5] 2 ⟨.code (sub B39 [1, 1, 0, 1]), [.seq (sub B39 [1, 1, 1])], [(1, .lp 0 0), (2, .lp 1 0), (3, .v (.int .i64 0)), (5, .bo d)], [((cfgL g s k sz sl of gp lt ea d), 24), ([.v (.int .i64 0), .v (.int .i64 0), .v (.int .i64 0), .v (.int .i64 0), .v (.int .i64 0), .v (.int .i64 0), .v (.int .i64 0), .v (.int .i64 0), .v (.int .i64 0), .v (.int .i64 0)], 74)]⟩ (by kernel_rfl) (by kernel_rfl) ?_
  rcases Bool.eq_false_or_eq_true (d) with b0 | b0
  · refine At.res 5 (d) true (by kernel_rfl) b0 ?_
    refine At.to noF_stable noF_fewer 20 400 [2] 2 ⟨.exit .ret, [], [(2, .lp 1 0)], [((cfgL g s k sz sl of gp lt ea d), 24), ([.io .i64 g, .io .i64 s, .io .i64 k, .io .i64 sz, .io .i64 sl, .io .i64 of, .io .i64 gp, .io .i64 lt, .io .i64 ea, .v (.int .i64 1)], 74)]⟩ (by kernel_rfl) (by kernel_rfl) ?_
    refine At.ret (by kernel_rfl) (.agg [.io .i64 g, .io .i64 s, .io .i64 k, .io .i64 sz, .io .i64 sl, .io .i64 of, .io .i64 gp, .io .i64 lt, .io .i64 ea, .v (.int .i64 1)]) (by kernel_rfl) ?_
    intro ρ w9 hw9 _
    exact ⟨by simp only [*]; rfl, hw9.below⟩
  · refine At.res 5 (d) false (by kernel_rfl) b0 ?_
    refine At.to noF_stable noF_fewer 20 400 [2] 2 ⟨.exit .ret, [], [(2, .lp 1 0)], [((cfgL g s k sz sl of gp lt ea d), 24), ([.io .i64 g, .io .i64 s, .io .i64 k, .io .i64 sz, .io .i64 sl, .io .i64 of, .io .i64 gp, .io .i64 lt, .io .i64 ea, .v (.int .i64 0)], 74)]⟩ (by kernel_rfl) (by kernel_rfl) ?_
    refine At.ret (by kernel_rfl) (.agg [.io .i64 g, .io .i64 s, .io .i64 k, .io .i64 sz, .io .i64 sl, .io .i64 of, .io .i64 gp, .io .i64 lt, .io .i64 ea, .v (.int .i64 0)]) (by kernel_rfl) ?_
    intro ρ w9 hw9 _
    exact ⟨by simp only [*]; rfl, hw9.below⟩

noncomputable def B16 : Code := (Tryd.f16.body).getD .skip
set_option maxHeartbeats 4000000 in
set_option maxRecDepth 100000 in
theorem rRead_any (B : Option Addr) (n c : Nat) (bs : List Nat) (hbs : ∀ b ∈ bs, b < 256) (hn : n ≤ 140737488355320) (hc : n ≤ c) (w : World) (hb : SlB w B n bs) :
    Calls Tryd.prog 16 #[.slice B n c] w fun e w' => e = .returned (readR (rreadL 10 bs 0)) ∧ Below w.heap.size w w' := by
  have hl := hb.1
  refine enter (fn := Tryd.f16) (c := B16) [.sl B n c] Tryd.func16 rfl rfl ?_
  refine At.to (noF_stable) (noF_fewer) 20 300 [0, 2, 5, 7, 17, 18] 2 ⟨pops B16 [1, 1, 1, 0, 1, 4, 4, 1, 0, 4, 0] 2, [.seq (sub B16 [1, 1, 1, 0, 1, 4, 4, 1, 0, 4, 1]), .block 1, .seq (sub B16 [1, 1, 1, 0, 1, 4, 4, 1, 1]), .rounds (sub B16 [1, 1, 1, 0, 1, 4, 4]) 19, .block 0, .seq (sub B16 [1, 1, 1, 1])], [(0, .sl B n c), (2, .lp 0 0), (5, .lp 1 0), (7, .v (.int .i64 0)), (17, .sl B n c), (18, .v (.int .i64 0))], [([.v (.int .i64 0), .v (.int .i64 0), .v (.int .i64 0), .v (.int .i64 0), .v (.int .i64 0), .v (.int .i64 0), .v (.int .i64 0), .v (.int .i64 0), .v (.int .i64 0), .v (.bool false)], 24), ([.v (.int .i64 0), .v (.int .i64 0), .v (.int .i64 0), .v (.int .i64 0), .v (.int .i64 0), .v (.int .i64 0), .v (.int .i64 0), .v (.int .i64 0), .v (.int .i64 0), .v (.int .i64 0)], 74)]⟩ (by kernel_rfl) (by kernel_rfl) ?_
  have hb0 : (0 : Int) ≤ 0 ∧ (0 : Int) ≤ bs.length := ⟨by omega, by omega⟩

  rcases hR0 : rf 8 (bs.drop (0 : Int).toNat) 0 0 1 [] with ⟨x0, q0, o0⟩
  have hq0 := rf_bound hb0 hR0
  refine At.call noF_stable 37 [.sl B n c, .v (.int .i64 0)] (.tup [.io .i64 (IntKind.i64.wrap x0), .io .i64 q0, .bo o0]) (by kernel_rfl) (by kernel_rfl) (by kernel_rfl) (fun ρ _ w1 hi _ => ?_) ?_
  · have hk := rread_any B n c bs hbs 0 (hl ▸ hb0) hn hc w1 (hb.below hi.mem.below)
    rw [hR0] at hk
    exact hk
  generalize hy0 : IntKind.i64.wrap x0 = y0
  cases o0 with
  | false =>
    refine At.to (noF_stable) (noF_fewer) 20 300 [0, 2, 5, 7, 8, 9, 24] 2 ⟨.code (sub B16 [1, 1, 1, 0, 1, 4, 4, 1, 0, 4, 1, 0, 1]), [.seq (sub B16 [1, 1, 1, 0, 1, 4, 4, 1, 0, 4, 1, 1]), .block 1, .seq (sub B16 [1, 1, 1, 0, 1, 4, 4, 1, 1]), .rounds (sub B16 [1, 1, 1, 0, 1, 4, 4]) 19, .block 0, .seq (sub B16 [1, 1, 1, 1])], [(0, .sl B n c), (2, .lp 0 0), (5, .lp 1 0), (7, .v (.int .i64 0)), (8, .io .i64 y0), (9, .io .i64 q0), (24, .bo true)], [([.v (.int .i64 0), .v (.int .i64 0), .v (.int .i64 0), .v (.int .i64 0), .v (.int .i64 0), .v (.int .i64 0), .v (.int .i64 0), .v (.int .i64 0), .v (.int .i64 0), .v (.bool false)], 24), ([.v (.int .i64 0), .v (.int .i64 0), .v (.int .i64 0), .v (.int .i64 0), .v (.int .i64 0), .v (.int .i64 0), .v (.int .i64 0), .v (.int .i64 0), .v (.int .i64 0), .v (.int .i64 0)], 74)]⟩ (by kernel_rfl) (by kernel_rfl) ?_
    refine At.res 24 (true) true (by kernel_rfl) (by first | assumption | (simp only [*]; done) | (simp [*]; done)) ?_
    refine At.to (noF_stable) (noF_fewer) 20 300 [2, 3, 4] 1 ⟨.exit .ret, [], [(2, .lp 0 0), (3, .v (.int .i64 0)), (4, .v (.bool false))], [([.v (.int .i64 0), .v (.int .i64 0), .v (.int .i64 0), .v (.int .i64 0), .v (.int .i64 0), .v (.int .i64 0), .v (.int .i64 0), .v (.int .i64 0), .v (.int .i64 0), .v (.bool false)], 24)]⟩ (by kernel_rfl) (by kernel_rfl) ?_
    refine At.ret (by kernel_rfl) (.tup [.agg [.v (.int .i64 0), .v (.int .i64 0), .v (.int .i64 0), .v (.int .i64 0), .v (.int .i64 0), .v (.int .i64 0), .v (.int .i64 0), .v (.int .i64 0), .v (.int .i64 0), .v (.bool false)], .v (.int .i64 0), .v (.bool false)]) (by kernel_rfl) ?_
    have hq : rreadL 10 bs 0 = none := by rw [rreadL_n hR0]
    intro ρ w9 hm hf
    exact ⟨by rw [hq]; rfl, hm.below⟩
  | true =>
    have hb1 := hq0 rfl
    refine At.to (noF_stable) (noF_fewer) 20 300 [0, 2, 5, 7, 8, 9, 24] 2 ⟨.code (sub B16 [1, 1, 1, 0, 1, 4, 4, 1, 0, 4, 1, 0, 1]), [.seq (sub B16 [1, 1, 1, 0, 1, 4, 4, 1, 0, 4, 1, 1]), .block 1, .seq (sub B16 [1, 1, 1, 0, 1, 4, 4, 1, 1]), .rounds (sub B16 [1, 1, 1, 0, 1, 4, 4]) 19, .block 0, .seq (sub B16 [1, 1, 1, 1])], [(0, .sl B n c), (2, .lp 0 0), (5, .lp 1 0), (7, .v (.int .i64 0)), (8, .io .i64 y0), (9, .io .i64 q0), (24, .bo false)], [([.v (.int .i64 0), .v (.int .i64 0), .v (.int .i64 0), .v (.int .i64 0), .v (.int .i64 0), .v (.int .i64 0), .v (.int .i64 0), .v (.int .i64 0), .v (.int .i64 0), .v (.bool false)], 24), ([.v (.int .i64 0), .v (.int .i64 0), .v (.int .i64 0), .v (.int .i64 0), .v (.int .i64 0), .v (.int .i64 0), .v (.int .i64 0), .v (.int .i64 0), .v (.int .i64 0), .v (.int .i64 0)], 74)]⟩ (by kernel_rfl) (by kernel_rfl) ?_
    refine At.res 24 (false) false (by kernel_rfl) (by first | assumption | (simp only [*]; done) | (simp [*]; done)) ?_
    refine At.to (noF_stable) (noF_fewer) 20 300 [0, 2, 5, 7, 17, 18] 2 ⟨pops B16 [1, 1, 1, 0, 1, 4, 4, 1, 0, 4, 0] 2, [.seq (sub B16 [1, 1, 1, 0, 1, 4, 4, 1, 0, 4, 1]), .block 1, .seq (sub B16 [1, 1, 1, 0, 1, 4, 4, 1, 1]), .rounds (sub B16 [1, 1, 1, 0, 1, 4, 4]) 18, .block 0, .seq (sub B16 [1, 1, 1, 1])], [(0, .sl B n c), (2, .lp 0 0), (5, .lp 1 0), (7, .v (.int .i64 1)), (17, .sl B n c), (18, .io .i64 q0)], [([.v (.int .i64 0), .v (.int .i64 0), .v (.int .i64 0), .v (.int .i64 0), .v (.int .i64 0), .v (.int .i64 0), .v (.int .i64 0), .v (.int .i64 0), .v (.int .i64 0), .v (.bool false)], 24), ([.io .i64 y0, .v (.int .i64 0), .v (.int .i64 0), .v (.int .i64 0), .v (.int .i64 0), .v (.int .i64 0), .v (.int .i64 0), .v (.int .i64 0), .v (.int .i64 0), .v (.int .i64 0)], 74)]⟩ (by kernel_rfl) (by kernel_rfl) ?_
    rcases hR1 : rf 8 (bs.drop (q0 : Int).toNat) q0 0 1 [] with ⟨x1, q1, o1⟩
    have hq1 := rf_bound hb1 hR1
    refine At.call noF_stable 37 [.sl B n c, .io .i64 q0] (.tup [.io .i64 (IntKind.i64.wrap x1), .io .i64 q1, .bo o1]) (by kernel_rfl) (by kernel_rfl) (by kernel_rfl) (fun ρ _ w1 hi _ => ?_) ?_
    · have hk := rread_any B n c bs hbs q0 (hl ▸ hb1) hn hc w1 (hb.below hi.mem.below)
      rw [hR1] at hk
      exact hk
    generalize hy1 : IntKind.i64.wrap x1 = y1
    cases o1 with
    | false =>
      refine At.to (noF_stable) (noF_fewer) 20 300 [0, 2, 5, 7, 8, 9, 24] 2 ⟨.code (sub B16 [1, 1, 1, 0, 1, 4, 4, 1, 0, 4, 1, 0, 1]), [.seq (sub B16 [1, 1, 1, 0, 1, 4, 4, 1, 0, 4, 1, 1]), .block 1, .seq (sub B16 [1, 1, 1, 0, 1, 4, 4, 1, 1]), .rounds (sub B16 [1, 1, 1, 0, 1, 4, 4]) 18, .block 0, .seq (sub B16 [1, 1, 1, 1])], [(0, .sl B n c), (2, .lp 0 0), (5, .lp 1 0), (7, .v (.int .i64 1)), (8, .io .i64 y1), (9, .io .i64 q1), (24, .bo true)], [([.v (.int .i64 0), .v (.int .i64 0), .v (.int .i64 0), .v (.int .i64 0), .v (.int .i64 0), .v (.int .i64 0), .v (.int .i64 0), .v (.int .i64 0), .v (.int .i64 0), .v (.bool false)], 24), ([.io .i64 y0, .v (.int .i64 0), .v (.int .i64 0), .v (.int .i64 0), .v (.int .i64 0), .v (.int .i64 0), .v (.int .i64 0), .v (.int .i64 0), .v (.int .i64 0), .v (.int .i64 0)], 74)]⟩ (by kernel_rfl) (by kernel_rfl) ?_
      refine At.res 24 (true) true (by kernel_rfl) (by first | assumption | (simp only [*]; done) | (simp [*]; done)) ?_
      refine At.to (noF_stable) (noF_fewer) 20 300 [2, 3, 4] 1 ⟨.exit .ret, [], [(2, .lp 0 0), (3, .v (.int .i64 0)), (4, .v (.bool false))], [([.v (.int .i64 0), .v (.int .i64 0), .v (.int .i64 0), .v (.int .i64 0), .v (.int .i64 0), .v (.int .i64 0), .v (.int .i64 0), .v (.int .i64 0), .v (.int .i64 0), .v (.bool false)], 24)]⟩ (by kernel_rfl) (by kernel_rfl) ?_
      refine At.ret (by kernel_rfl) (.tup [.agg [.v (.int .i64 0), .v (.int .i64 0), .v (.int .i64 0), .v (.int .i64 0), .v (.int .i64 0), .v (.int .i64 0), .v (.int .i64 0), .v (.int .i64 0), .v (.int .i64 0), .v (.bool false)], .v (.int .i64 0), .v (.bool false)]) (by kernel_rfl) ?_
      have hq : rreadL 10 bs 0 = none := by rw [rreadL_s hR0, rreadL_n hR1]; rfl
      intro ρ w9 hm hf
      exact ⟨by rw [hq]; rfl, hm.below⟩
    | true =>
      have hb2 := hq1 rfl
      refine At.to (noF_stable) (noF_fewer) 20 300 [0, 2, 5, 7, 8, 9, 24] 2 ⟨.code (sub B16 [1, 1, 1, 0, 1, 4, 4, 1, 0, 4, 1, 0, 1]), [.seq (sub B16 [1, 1, 1, 0, 1, 4, 4, 1, 0, 4, 1, 1]), .block 1, .seq (sub B16 [1, 1, 1, 0, 1, 4, 4, 1, 1]), .rounds (sub B16 [1, 1, 1, 0, 1, 4, 4]) 18, .block 0, .seq (sub B16 [1, 1, 1, 1])], [(0, .sl B n c), (2, .lp 0 0), (5, .lp 1 0), (7, .v (.int .i64 1)), (8, .io .i64 y1), (9, .io .i64 q1), (24, .bo false)], [([.v (.int .i64 0), .v (.int .i64 0), .v (.int .i64 0), .v (.int .i64 0), .v (.int .i64 0), .v (.int .i64 0), .v (.int .i64 0), .v (.int .i64 0), .v (.int .i64 0), .v (.bool false)], 24), ([.io .i64 y0, .v (.int .i64 0), .v (.int .i64 0), .v (.int .i64 0), .v (.int .i64 0), .v (.int .i64 0), .v (.int .i64 0), .v (.int .i64 0), .v (.int .i64 0), .v (.int .i64 0)], 74)]⟩ (by kernel_rfl) (by kernel_rfl) ?_
      refine At.res 24 (false) false (by kernel_rfl) (by first | assumption | (simp only [*]; done) | (simp [*]; done)) ?_
      refine At.to (noF_stable) (noF_fewer) 20 300 [0, 2, 5, 7, 17, 18] 2 ⟨pops B16 [1, 1, 1, 0, 1, 4, 4, 1, 0, 4, 0] 2, [.seq (sub B16 [1, 1, 1, 0, 1, 4, 4, 1, 0, 4, 1]), .block 1, .seq (sub B16 [1, 1, 1, 0, 1, 4, 4, 1, 1]), .rounds (sub B16 [1, 1, 1, 0, 1, 4, 4]) 17, .block 0, .seq (sub B16 [1, 1, 1, 1])], [(0, .sl B n c), (2, .lp 0 0), (5, .lp 1 0), (7, .v (.int .i64 2)), (17, .sl B n c), (18, .io .i64 q1)], [([.v (.int .i64 0), .v (.int .i64 0), .v (.int .i64 0), .v (.int .i64 0), .v (.int .i64 0), .v (.int .i64 0), .v (.int .i64 0), .v (.int .i64 0), .v (.int .i64 0), .v (.bool false)], 24), ([.io .i64 y0, .io .i64 y1, .v (.int .i64 0), .v (.int .i64 0), .v (.int .i64 0), .v (.int .i64 0), .v (.int .i64 0), .v (.int .i64 0), .v (.int .i64 0), .v (.int .i64 0)], 74)]⟩ (by kernel_rfl) (by kernel_rfl) ?_
      rcases hR2 : rf 8 (bs.drop (q1 : Int).toNat) q1 0 1 [] with ⟨x2, q2, o2⟩
      have hq2 := rf_bound hb2 hR2
      refine At.call noF_stable 37 [.sl B n c, .io .i64 q1] (.tup [.io .i64 (IntKind.i64.wrap x2), .io .i64 q2, .bo o2]) (by kernel_rfl) (by kernel_rfl) (by kernel_rfl) (fun ρ _ w1 hi _ => ?_) ?_
      · have hk := rread_any B n c bs hbs q1 (hl ▸ hb2) hn hc w1 (hb.below hi.mem.below)
        rw [hR2] at hk
        exact hk
      generalize hy2 : IntKind.i64.wrap x2 = y2
      cases o2 with
      | false =>
        refine At.to (noF_stable) (noF_fewer) 20 300 [0, 2, 5, 7, 8, 9, 24] 2 ⟨.code (sub B16 [1, 1, 1, 0, 1, 4, 4, 1, 0, 4, 1, 0, 1]), [.seq (sub B16 [1, 1, 1, 0, 1, 4, 4, 1, 0, 4, 1, 1]), .block 1, .seq (sub B16 [1, 1, 1, 0, 1, 4, 4, 1, 1]), .rounds (sub B16 [1, 1, 1, 0, 1, 4, 4]) 17, .block 0, .seq (sub B16 [1, 1, 1, 1])], [(0, .sl B n c), (2, .lp 0 0), (5, .lp 1 0), (7, .v (.int .i64 2)), (8, .io .i64 y2), (9, .io .i64 q2), (24, .bo true)], [([.v (.int .i64 0), .v (.int .i64 0), .v (.int .i64 0), .v (.int .i64 0), .v (.int .i64 0), .v (.int .i64 0), .v (.int .i64 0), .v (.int .i64 0), .v (.int .i64 0), .v (.bool false)], 24), ([.io .i64 y0, .io .i64 y1, .v (.int .i64 0), .v (.int .i64 0), .v (.int .i64 0), .v (.int .i64 0), .v (.int .i64 0), .v (.int .i64 0), .v (.int .i64 0), .v (.int .i64 0)], 74)]⟩ (by kernel_rfl) (by kernel_rfl) ?_
        refine At.res 24 (true) true (by kernel_rfl) (by first | assumption | (simp only [*]; done) | (simp [*]; done)) ?_
        refine At.to (noF_stable) (noF_fewer) 20 300 [2, 3, 4] 1 ⟨.exit .ret, [], [(2, .lp 0 0), (3, .v (.int .i64 0)), (4, .v (.bool false))], [([.v (.int .i64 0), .v (.int .i64 0), .v (.int .i64 0), .v (.int .i64 0), .v (.int .i64 0), .v (.int .i64 0), .v (.int .i64 0), .v (.int .i64 0), .v (.int .i64 0), .v (.bool false)], 24)]⟩ (by kernel_rfl) (by kernel_rfl) ?_
        refine At.ret (by kernel_rfl) (.tup [.agg [.v (.int .i64 0), .v (.int .i64 0), .v (.int .i64 0), .v (.int .i64 0), .v (.int .i64 0), .v (.int .i64 0), .v (.int .i64 0), .v (.int .i64 0), .v (.int .i64 0), .v (.bool false)], .v (.int .i64 0), .v (.bool false)]) (by kernel_rfl) ?_
        have hq : rreadL 10 bs 0 = none := by rw [rreadL_s hR0, rreadL_s hR1, rreadL_n hR2]; rfl
        intro ρ w9 hm hf
        exact ⟨by rw [hq]; rfl, hm.below⟩
      | true =>
        have hb3 := hq2 rfl
        refine At.to (noF_stable) (noF_fewer) 20 300 [0, 2, 5, 7, 8, 9, 24] 2 ⟨.code (sub B16 [1, 1, 1, 0, 1, 4, 4, 1, 0, 4, 1, 0, 1]), [.seq (sub B16 [1, 1, 1, 0, 1, 4, 4, 1, 0, 4, 1, 1]), .block 1, .seq (sub B16 [1, 1, 1, 0, 1, 4, 4, 1, 1]), .rounds (sub B16 [1, 1, 1, 0, 1, 4, 4]) 17, .block 0, .seq (sub B16 [1, 1, 1, 1])], [(0, .sl B n c), (2, .lp 0 0), (5, .lp 1 0), (7, .v (.int .i64 2)), (8, .io .i64 y2), (9, .io .i64 q2), (24, .bo false)], [([.v (.int .i64 0), .v (.int .i64 0), .v (.int .i64 0), .v (.int .i64 0), .v (.int .i64 0), .v (.int .i64 0), .v (.int .i64 0), .v (.int .i64 0), .v (.int .i64 0), .v (.bool false)], 24), ([.io .i64 y0, .io .i64 y1, .v (.int .i64 0), .v (.int .i64 0), .v (.int .i64 0), .v (.int .i64 0), .v (.int .i64 0), .v (.int .i64 0), .v (.int .i64 0), .v (.int .i64 0)], 74)]⟩ (by kernel_rfl) (by kernel_rfl) ?_
        refine At.res 24 (false) false (by kernel_rfl) (by first | assumption | (simp only [*]; done) | (simp [*]; done)) ?_
        refine At.to (noF_stable) (noF_fewer) 20 300 [0, 2, 5, 7, 17, 18] 2 ⟨pops B16 [1, 1, 1, 0, 1, 4, 4, 1, 0, 4, 0] 2, [.seq (sub B16 [1, 1, 1, 0, 1, 4, 4, 1, 0, 4, 1]), .block 1, .seq (sub B16 [1, 1, 1, 0, 1, 4, 4, 1, 1]), .rounds (sub B16 [1, 1, 1, 0, 1, 4, 4]) 16, .block 0, .seq (sub B16 [1, 1, 1, 1])], [(0, .sl B n c), (2, .lp 0 0), (5, .lp 1 0), (7, .v (.int .i64 3)), (17, .sl B n c), (18, .io .i64 q2)], [([.v (.int .i64 0), .v (.int .i64 0), .v (.int .i64 0), .v (.int .i64 0), .v (.int .i64 0), .v (.int .i64 0), .v (.int .i64 0), .v (.int .i64 0), .v (.int .i64 0), .v (.bool false)], 24), ([.io .i64 y0, .io .i64 y1, .io .i64 y2, .v (.int .i64 0), .v (.int .i64 0), .v (.int .i64 0), .v (.int .i64 0), .v (.int .i64 0), .v (.int .i64 0), .v (.int .i64 0)], 74)]⟩ (by kernel_rfl) (by kernel_rfl) ?_
        rcases hR3 : rf 8 (bs.drop (q2 : Int).toNat) q2 0 1 [] with ⟨x3, q3, o3⟩
        have hq3 := rf_bound hb3 hR3
        refine At.call noF_stable 37 [.sl B n c, .io .i64 q2] (.tup [.io .i64 (IntKind.i64.wrap x3), .io .i64 q3, .bo o3]) (by kernel_rfl) (by kernel_rfl) (by kernel_rfl) (fun ρ _ w1 hi _ => ?_) ?_
        · have hk := rread_any B n c bs hbs q2 (hl ▸ hb3) hn hc w1 (hb.below hi.mem.below)
          rw [hR3] at hk
          exact hk
        generalize hy3 : IntKind.i64.wrap x3 = y3
        cases o3 with
        | false =>
          refine At.to (noF_stable) (noF_fewer) 20 300 [0, 2, 5, 7, 8, 9, 24] 2 ⟨.code (sub B16 [1, 1, 1, 0, 1, 4, 4, 1, 0, 4, 1, 0, 1]), [.seq (sub B16 [1, 1, 1, 0, 1, 4, 4, 1, 0, 4, 1, 1]), .block 1, .seq (sub B16 [1, 1, 1, 0, 1, 4, 4, 1, 1]), .rounds (sub B16 [1, 1, 1, 0, 1, 4, 4]) 16, .block 0, .seq (sub B16 [1, 1, 1, 1])], [(0, .sl B n c), (2, .lp 0 0), (5, .lp 1 0), (7, .v (.int .i64 3)), (8, .io .i64 y3), (9, .io .i64 q3), (24, .bo true)], [([.v (.int .i64 0), .v (.int .i64 0), .v (.int .i64 0), .v (.int .i64 0), .v (.int .i64 0), .v (.int .i64 0), .v (.int .i64 0), .v (.int .i64 0), .v (.int .i64 0), .v (.bool false)], 24), ([.io .i64 y0, .io .i64 y1, .io .i64 y2, .v (.int .i64 0), .v (.int .i64 0), .v (.int .i64 0), .v (.int .i64 0), .v (.int .i64 0), .v (.int .i64 0), .v (.int .i64 0)], 74)]⟩ (by kernel_rfl) (by kernel_rfl) ?_
          refine At.res 24 (true) true (by kernel_rfl) (by first | assumption | (simp only [*]; done) | (simp [*]; done)) ?_
          refine At.to (noF_stable) (noF_fewer) 20 300 [2, 3, 4] 1 ⟨.exit .ret, [], [(2, .lp 0 0), (3, .v (.int .i64 0)), (4, .v (.bool false))], [([.v (.int .i64 0), .v (.int .i64 0), .v (.int .i64 0), .v (.int .i64 0), .v (.int .i64 0), .v (.int .i64 0), .v (.int .i64 0), .v (.int .i64 0), .v (.int .i64 0), .v (.bool false)], 24)]⟩ (by kernel_rfl) (by kernel_rfl) ?_
          refine At.ret (by kernel_rfl) (.tup [.agg [.v (.int .i64 0), .v (.int .i64 0), .v (.int .i64 0), .v (.int .i64 0), .v (.int .i64 0), .v (.int .i64 0), .v (.int .i64 0), .v (.int .i64 0), .v (.int .i64 0), .v (.bool false)], .v (.int .i64 0), .v (.bool false)]) (by kernel_rfl) ?_
          have hq : rreadL 10 bs 0 = none := by rw [rreadL_s hR0, rreadL_s hR1, rreadL_s hR2, rreadL_n hR3]; rfl
          intro ρ w9 hm hf
          exact ⟨by rw [hq]; rfl, hm.below⟩
        | true =>
          have hb4 := hq3 rfl
          refine At.to (noF_stable) (noF_fewer) 20 300 [0, 2, 5, 7, 8, 9, 24] 2 ⟨.code (sub B16 [1, 1, 1, 0, 1, 4, 4, 1, 0, 4, 1, 0, 1]), [.seq (sub B16 [1, 1, 1, 0, 1, 4, 4, 1, 0, 4, 1, 1]), .block 1, .seq (sub B16 [1, 1, 1, 0, 1, 4, 4, 1, 1]), .rounds (sub B16 [1, 1, 1, 0, 1, 4, 4]) 16, .block 0, .seq (sub B16 [1, 1, 1, 1])], [(0, .sl B n c), (2, .lp 0 0), (5, .lp 1 0), (7, .v (.int .i64 3)), (8, .io .i64 y3), (9, .io .i64 q3), (24, .bo false)], [([.v (.int .i64 0), .v (.int .i64 0), .v (.int .i64 0), .v (.int .i64 0), .v (.int .i64 0), .v (.int .i64 0), .v (.int .i64 0), .v (.int .i64 0), .v (.int .i64 0), .v (.bool false)], 24), ([.io .i64 y0, .io .i64 y1, .io .i64 y2, .v (.int .i64 0), .v (.int .i64 0), .v (.int .i64 0), .v (.int .i64 0), .v (.int .i64 0), .v (.int .i64 0), .v (.int .i64 0)], 74)]⟩ (by kernel_rfl) (by kernel_rfl) ?_
          refine At.res 24 (false) false (by kernel_rfl) (by first | assumption | (simp only [*]; done) | (simp [*]; done)) ?_
          refine At.to (noF_stable) (noF_fewer) 20 300 [0, 2, 5, 7, 17, 18] 2 ⟨pops B16 [1, 1, 1, 0, 1, 4, 4, 1, 0, 4, 0] 2, [.seq (sub B16 [1, 1, 1, 0, 1, 4, 4, 1, 0, 4, 1]), .block 1, .seq (sub B16 [1, 1, 1, 0, 1, 4, 4, 1, 1]), .rounds (sub B16 [1, 1, 1, 0, 1, 4, 4]) 15, .block 0, .seq (sub B16 [1, 1, 1, 1])], [(0, .sl B n c), (2, .lp 0 0), (5, .lp 1 0), (7, .v (.int .i64 4)), (17, .sl B n c), (18, .io .i64 q3)], [([.v (.int .i64 0), .v (.int .i64 0), .v (.int .i64 0), .v (.int .i64 0), .v (.int .i64 0), .v (.int .i64 0), .v (.int .i64 0), .v (.int .i64 0), .v (.int .i64 0), .v (.bool false)], 24), ([.io .i64 y0, .io .i64 y1, .io .i64 y2, .io .i64 y3, .v (.int .i64 0), .v (.int .i64 0), .v (.int .i64 0), .v (.int .i64 0), .v (.int .i64 0), .v (.int .i64 0)], 74)]⟩ (by kernel_rfl) (by kernel_rfl) ?_
          rcases hR4 : rf 8 (bs.drop (q3 : Int).toNat) q3 0 1 [] with ⟨x4, q4, o4⟩
          have hq4 := rf_bound hb4 hR4
          refine At.call noF_stable 37 [.sl B n c, .io .i64 q3] (.tup [.io .i64 (IntKind.i64.wrap x4), .io .i64 q4, .bo o4]) (by kernel_rfl) (by kernel_rfl) (by kernel_rfl) (fun ρ _ w1 hi _ => ?_) ?_
          · have hk := rread_any B n c bs hbs q3 (hl ▸ hb4) hn hc w1 (hb.below hi.mem.below)
            rw [hR4] at hk
            exact hk
          generalize hy4 : IntKind.i64.wrap x4 = y4
          cases o4 with
          | false =>
            refine At.to (noF_stable) (noF_fewer) 20 300 [0, 2, 5, 7, 8, 9, 24] 2 ⟨.code (sub B16 [1, 1, 1, 0, 1, 4, 4, 1, 0, 4, 1, 0, 1]), [.seq (sub B16 [1, 1, 1, 0, 1, 4, 4, 1, 0, 4, 1, 1]), .block 1, .seq (sub B16 [1, 1, 1, 0, 1, 4, 4, 1, 1]), .rounds (sub B16 [1, 1, 1, 0, 1, 4, 4]) 15, .block 0, .seq (sub B16 [1, 1, 1, 1])], [(0, .sl B n c), (2, .lp 0 0), (5, .lp 1 0), (7, .v (.int .i64 4)), (8, .io .i64 y4), (9, .io .i64 q4), (24, .bo true)], [([.v (.int .i64 0), .v (.int .i64 0), .v (.int .i64 0), .v (.int .i64 0), .v (.int .i64 0), .v (.int .i64 0), .v (.int .i64 0), .v (.int .i64 0), .v (.int .i64 0), .v (.bool false)], 24), ([.io .i64 y0, .io .i64 y1, .io .i64 y2, .io .i64 y3, .v (.int .i64 0), .v (.int .i64 0), .v (.int .i64 0), .v (.int .i64 0), .v (.int .i64 0), .v (.int .i64 0)], 74)]⟩ (by kernel_rfl) (by kernel_rfl) ?_
            refine At.res 24 (true) true (by kernel_rfl) (by first | assumption | (simp only [*]; done) | (simp [*]; done)) ?_
            refine At.to (noF_stable) (noF_fewer) 20 300 [2, 3, 4] 1 ⟨.exit .ret, [], [(2, .lp 0 0), (3, .v (.int .i64 0)), (4, .v (.bool false))], [([.v (.int .i64 0), .v (.int .i64 0), .v (.int .i64 0), .v (.int .i64 0), .v (.int .i64 0), .v (.int .i64 0), .v (.int .i64 0), .v (.int .i64 0), .v (.int .i64 0), .v (.bool false)], 24)]⟩ (by kernel_rfl) (by kernel_rfl) ?_
            refine At.ret (by kernel_rfl) (.tup [.agg [.v (.int .i64 0), .v (.int .i64 0), .v (.int .i64 0), .v (.int .i64 0), .v (.int .i64 0), .v (.int .i64 0), .v (.int .i64 0), .v (.int .i64 0), .v (.int .i64 0), .v (.bool false)], .v (.int .i64 0), .v (.bool false)]) (by kernel_rfl) ?_
            have hq : rreadL 10 bs 0 = none := by rw [rreadL_s hR0, rreadL_s hR1, rreadL_s hR2, rreadL_s hR3, rreadL_n hR4]; rfl
            intro ρ w9 hm hf
            exact ⟨by rw [hq]; rfl, hm.below⟩
          | true =>
            have hb5 := hq4 rfl
            refine At.to (noF_stable) (noF_fewer) 20 300 [0, 2, 5, 7, 8, 9, 24] 2 ⟨.code (sub B16 [1, 1, 1, 0, 1, 4, 4, 1, 0, 4, 1, 0, 1]), [.seq (sub B16 [1, 1, 1, 0, 1, 4, 4, 1, 0, 4, 1, 1]), .block 1, .seq (sub B16 [1, 1, 1, 0, 1, 4, 4, 1, 1]), .rounds (sub B16 [1, 1, 1, 0, 1, 4, 4]) 15, .block 0, .seq (sub B16 [1, 1, 1, 1])], [(0, .sl B n c), (2, .lp 0 0), (5, .lp 1 0), (7, .v (.int .i64 4)), (8, .io .i64 y4), (9, .io .i64 q4), (24, .bo false)], [([.v (.int .i64 0), .v (.int .i64 0), .v (.int .i64 0), .v (.int .i64 0), .v (.int .i64 0), .v (.int .i64 0), .v (.int .i64 0), .v (.int .i64 0), .v (.int .i64 0), .v (.bool false)], 24), ([.io .i64 y0, .io .i64 y1, .io .i64 y2, .io .i64 y3, .v (.int .i64 0), .v (.int .i64 0), .v (.int .i64 0), .v (.int .i64 0), .v (.int .i64 0), .v (.int .i64 0)], 74)]⟩ (by kernel_rfl) (by kernel_rfl) ?_
            refine At.res 24 (false) false (by kernel_rfl) (by first | assumption | (simp only [*]; done) | (simp [*]; done)) ?_
            refine At.to (noF_stable) (noF_fewer) 20 300 [0, 2, 5, 7, 17, 18] 2 ⟨pops B16 [1, 1, 1, 0, 1, 4, 4, 1, 0, 4, 0] 2, [.seq (sub B16 [1, 1, 1, 0, 1, 4, 4, 1, 0, 4, 1]), .block 1, .seq (sub B16 [1, 1, 1, 0, 1, 4, 4, 1, 1]), .rounds (sub B16 [1, 1, 1, 0, 1, 4, 4]) 14, .block 0, .seq (sub B16 [1, 1, 1, 1])], [(0, .sl B n c), (2, .lp 0 0), (5, .lp 1 0), (7, .v (.int .i64 5)), (17, .sl B n c), (18, .io .i64 q4)], [([.v (.int .i64 0), .v (.int .i64 0), .v (.int .i64 0), .v (.int .i64 0), .v (.int .i64 0), .v (.int .i64 0), .v (.int .i64 0), .v (.int .i64 0), .v (.int .i64 0), .v (.bool false)], 24), ([.io .i64 y0, .io .i64 y1, .io .i64 y2, .io .i64 y3, .io .i64 y4, .v (.int .i64 0), .v (.int .i64 0), .v (.int .i64 0), .v (.int .i64 0), .v (.int .i64 0)], 74)]⟩ (by kernel_rfl) (by kernel_rfl) ?_
            rcases hR5 : rf 8 (bs.drop (q4 : Int).toNat) q4 0 1 [] with ⟨x5, q5, o5⟩
            have hq5 := rf_bound hb5 hR5
            refine At.call noF_stable 37 [.sl B n c, .io .i64 q4] (.tup [.io .i64 (IntKind.i64.wrap x5), .io .i64 q5, .bo o5]) (by kernel_rfl) (by kernel_rfl) (by kernel_rfl) (fun ρ _ w1 hi _ => ?_) ?_
            · have hk := rread_any B n c bs hbs q4 (hl ▸ hb5) hn hc w1 (hb.below hi.mem.below)
              rw [hR5] at hk
              exact hk
            generalize hy5 : IntKind.i64.wrap x5 = y5
            cases o5 with
            | false =>
              refine At.to (noF_stable) (noF_fewer) 20 300 [0, 2, 5, 7, 8, 9, 24] 2 ⟨.code (sub B16 [1, 1, 1, 0, 1, 4, 4, 1, 0, 4, 1, 0, 1]), [.seq (sub B16 [1, 1, 1, 0, 1, 4, 4, 1, 0, 4, 1, 1]), .block 1, .seq (sub B16 [1, 1, 1, 0, 1, 4, 4, 1, 1]), .rounds (sub B16 [1, 1, 1, 0, 1, 4, 4]) 14, .block 0, .seq (sub B16 [1, 1, 1, 1])], [(0, .sl B n c), (2, .lp 0 0), (5, .lp 1 0), (7, .v (.int .i64 5)), (8, .io .i64 y5), (9, .io .i64 q5), (24, .bo true)], [([.v (.int .i64 0), .v (.int .i64 0), .v (.int .i64 0), .v (.int .i64 0), .v (.int .i64 0), .v (.int .i64 0), .v (.int .i64 0), .v (.int .i64 0), .v (.int .i64 0), .v (.bool false)], 24), ([.io .i64 y0, .io .i64 y1, .io .i64 y2, .io .i64 y3, .io .i64 y4, .v (.int .i64 0), .v (.int .i64 0), .v (.int .i64 0), .v (.int .i64 0), .v (.int .i64 0)], 74)]⟩ (by kernel_rfl) (by kernel_rfl) ?_
              refine At.res 24 (true) true (by kernel_rfl) (by first | assumption | (simp only [*]; done) | (simp [*]; done)) ?_
              refine At.to (noF_stable) (noF_fewer) 20 300 [2, 3, 4] 1 ⟨.exit .ret, [], [(2, .lp 0 0), (3, .v (.int .i64 0)), (4, .v (.bool false))], [([.v (.int .i64 0), .v (.int .i64 0), .v (.int .i64 0), .v (.int .i64 0), .v (.int .i64 0), .v (.int .i64 0), .v (.int .i64 0), .v (.int .i64 0), .v (.int .i64 0), .v (.bool false)], 24)]⟩ (by kernel_rfl) (by kernel_rfl) ?_
              refine At.ret (by kernel_rfl) (.tup [.agg [.v (.int .i64 0), .v (.int .i64 0), .v (.int .i64 0), .v (.int .i64 0), .v (.int .i64 0), .v (.int .i64 0), .v (.int .i64 0), .v (.int .i64 0), .v (.int .i64 0), .v (.bool false)], .v (.int .i64 0), .v (.bool false)]) (by kernel_rfl) ?_
              have hq : rreadL 10 bs 0 = none := by rw [rreadL_s hR0, rreadL_s hR1, rreadL_s hR2, rreadL_s hR3, rreadL_s hR4, rreadL_n hR5]; rfl
              intro ρ w9 hm hf
              exact ⟨by rw [hq]; rfl, hm.below⟩
            | true =>
              have hb6 := hq5 rfl
              refine At.to (noF_stable) (noF_fewer) 20 300 [0, 2, 5, 7, 8, 9, 24] 2 ⟨.code (sub B16 [1, 1, 1, 0, 1, 4, 4, 1, 0, 4, 1, 0, 1]), [.seq (sub B16 [1, 1, 1, 0, 1, 4, 4, 1, 0, 4, 1, 1]), .block 1, .seq (sub B16 [1, 1, 1, 0, 1, 4, 4, 1, 1]), .rounds (sub B16 [1, 1, 1, 0, 1, 4, 4]) 14, .block 0, .seq (sub B16 [1, 1, 1, 1])], [(0, .sl B n c), (2, .lp 0 0), (5, .lp 1 0), (7, .v (.int .i64 5)), (8, .io .i64 y5), (9, .io .i64 q5), (24, .bo false)], [([.v (.int .i64 0), .v (.int .i64 0), .v (.int .i64 0), .v (.int .i64 0), .v (.int .i64 0), .v (.int .i64 0), .v (.int .i64 0), .v (.int .i64 0), .v (.int .i64 0), .v (.bool false)], 24), ([.io .i64 y0, .io .i64 y1, .io .i64 y2, .io .i64 y3, .io .i64 y4, .v (.int .i64 0), .v (.int .i64 0), .v (.int .i64 0), .v (.int .i64 0), .v (.int .i64 0)], 74)]⟩ (by kernel_rfl) (by kernel_rfl) ?_
              refine At.res 24 (false) false (by kernel_rfl) (by first | assumption | (simp only [*]; done) | (simp [*]; done)) ?_
              refine At.to (noF_stable) (noF_fewer) 20 300 [0, 2, 5, 7, 17, 18] 2 ⟨pops B16 [1, 1, 1, 0, 1, 4, 4, 1, 0, 4, 0] 2, [.seq (sub B16 [1, 1, 1, 0, 1, 4, 4, 1, 0, 4, 1]), .block 1, .seq (sub B16 [1, 1, 1, 0, 1, 4, 4, 1, 1]), .rounds (sub B16 [1, 1, 1, 0, 1, 4, 4]) 13, .block 0, .seq (sub B16 [1, 1, 1, 1])], [(0, .sl B n c), (2, .lp 0 0), (5, .lp 1 0), (7, .v (.int .i64 6)), (17, .sl B n c), (18, .io .i64 q5)], [([.v (.int .i64 0), .v (.int .i64 0), .v (.int .i64 0), .v (.int .i64 0), .v (.int .i64 0), .v (.int .i64 0), .v (.int .i64 0), .v (.int .i64 0), .v (.int .i64 0), .v (.bool false)], 24), ([.io .i64 y0, .io .i64 y1, .io .i64 y2, .io .i64 y3, .io .i64 y4, .io .i64 y5, .v (.int .i64 0), .v (.int .i64 0), .v (.int .i64 0), .v (.int .i64 0)], 74)]⟩ (by kernel_rfl) (by kernel_rfl) ?_
              rcases hR6 : rf 8 (bs.drop (q5 : Int).toNat) q5 0 1 [] with ⟨x6, q6, o6⟩
              have hq6 := rf_bound hb6 hR6
              refine At.call noF_stable 37 [.sl B n c, .io .i64 q5] (.tup [.io .i64 (IntKind.i64.wrap x6), .io .i64 q6, .bo o6]) (by kernel_rfl) (by kernel_rfl) (by kernel_rfl) (fun ρ _ w1 hi _ => ?_) ?_
              · have hk := rread_any B n c bs hbs q5 (hl ▸ hb6) hn hc w1 (hb.below hi.mem.below)
                rw [hR6] at hk
                exact hk
              generalize hy6 : IntKind.i64.wrap x6 = y6
              cases o6 with
              | false =>
                refine At.to (noF_stable) (noF_fewer) 20 300 [0, 2, 5, 7, 8, 9, 24] 2 ⟨.code (sub B16 [1, 1, 1, 0, 1, 4, 4, 1, 0, 4, 1, 0, 1]), [.seq (sub B16 [1, 1, 1, 0, 1, 4, 4, 1, 0, 4, 1, 1]), .block 1, .seq (sub B16 [1, 1, 1, 0, 1, 4, 4, 1, 1]), .rounds (sub B16 [1, 1, 1, 0, 1, 4, 4]) 13, .block 0, .seq (sub B16 [1, 1, 1, 1])], [(0, .sl B n c), (2, .lp 0 0), (5, .lp 1 0), (7, .v (.int .i64 6)), (8, .io .i64 y6), (9, .io .i64 q6), (24, .bo true)], [([.v (.int .i64 0), .v (.int .i64 0), .v (.int .i64 0), .v (.int .i64 0), .v (.int .i64 0), .v (.int .i64 0), .v (.int .i64 0), .v (.int .i64 0), .v (.int .i64 0), .v (.bool false)], 24), ([.io .i64 y0, .io .i64 y1, .io .i64 y2, .io .i64 y3, .io .i64 y4, .io .i64 y5, .v (.int .i64 0), .v (.int .i64 0), .v (.int .i64 0), .v (.int .i64 0)], 74)]⟩ (by kernel_rfl) (by kernel_rfl) ?_
                refine At.res 24 (true) true (by kernel_rfl) (by first | assumption | (simp only [*]; done) | (simp [*]; done)) ?_
                refine At.to (noF_stable) (noF_fewer) 20 300 [2, 3, 4] 1 ⟨.exit .ret, [], [(2, .lp 0 0), (3, .v (.int .i64 0)), (4, .v (.bool false))], [([.v (.int .i64 0), .v (.int .i64 0), .v (.int .i64 0), .v (.int .i64 0), .v (.int .i64 0), .v (.int .i64 0), .v (.int .i64 0), .v (.int .i64 0), .v (.int .i64 0), .v (.bool false)], 24)]⟩ (by kernel_rfl) (by kernel_rfl) ?_
                refine At.ret (by kernel_rfl) (.tup [.agg [.v (.int .i64 0), .v (.int .i64 0), .v (.int .i64 0), .v (.int .i64 0), .v (.int .i64 0), .v (.int .i64 0), .v (.int .i64 0), .v (.int .i64 0), .v (.int .i64 0), .v (.bool false)], .v (.int .i64 0), .v (.bool false)]) (by kernel_rfl) ?_
                have hq : rreadL 10 bs 0 = none := by rw [rreadL_s hR0, rreadL_s hR1, rreadL_s hR2, rreadL_s hR3, rreadL_s hR4, rreadL_s hR5, rreadL_n hR6]; rfl
                intro ρ w9 hm hf
                exact ⟨by rw [hq]; rfl, hm.below⟩
              | true =>
                have hb7 := hq6 rfl
                refine At.to (noF_stable) (noF_fewer) 20 300 [0, 2, 5, 7, 8, 9, 24] 2 ⟨.code (sub B16 [1, 1, 1, 0, 1, 4, 4, 1, 0, 4, 1, 0, 1]), [.seq (sub B16 [1, 1, 1, 0, 1, 4, 4, 1, 0, 4, 1, 1]), .block 1, .seq (sub B16 [1, 1, 1, 0, 1, 4, 4, 1, 1]), .rounds (sub B16 [1, 1, 1, 0, 1, 4, 4]) 13, .block 0, .seq (sub B16 [1, 1, 1, 1])], [(0, .sl B n c), (2, .lp 0 0), (5, .lp 1 0), (7, .v (.int .i64 6)), (8, .io .i64 y6), (9, .io .i64 q6), (24, .bo false)], [([.v (.int .i64 0), .v (.int .i64 0), .v (.int .i64 0), .v (.int .i64 0), .v (.int .i64 0), .v (.int .i64 0), .v (.int .i64 0), .v (.int .i64 0), .v (.int .i64 0), .v (.bool false)], 24), ([.io .i64 y0, .io .i64 y1, .io .i64 y2, .io .i64 y3, .io .i64 y4, .io .i64 y5, .v (.int .i64 0), .v (.int .i64 0), .v (.int .i64 0), .v (.int .i64 0)], 74)]⟩ (by kernel_rfl) (by kernel_rfl) ?_
                refine At.res 24 (false) false (by kernel_rfl) (by first | assumption | (simp only [*]; done) | (simp [*]; done)) ?_
                refine At.to (noF_stable) (noF_fewer) 20 300 [0, 2, 5, 7, 17, 18] 2 ⟨pops B16 [1, 1, 1, 0, 1, 4, 4, 1, 0, 4, 0] 2, [.seq (sub B16 [1, 1, 1, 0, 1, 4, 4, 1, 0, 4, 1]), .block 1, .seq (sub B16 [1, 1, 1, 0, 1, 4, 4, 1, 1]), .rounds (sub B16 [1, 1, 1, 0, 1, 4, 4]) 12, .block 0, .seq (sub B16 [1, 1, 1, 1])], [(0, .sl B n c), (2, .lp 0 0), (5, .lp 1 0), (7, .v (.int .i64 7)), (17, .sl B n c), (18, .io .i64 q6)], [([.v (.int .i64 0), .v (.int .i64 0), .v (.int .i64 0), .v (.int .i64 0), .v (.int .i64 0), .v (.int .i64 0), .v (.int .i64 0), .v (.int .i64 0), .v (.int .i64 0), .v (.bool false)], 24), ([.io .i64 y0, .io .i64 y1, .io .i64 y2, .io .i64 y3, .io .i64 y4, .io .i64 y5, .io .i64 y6, .v (.int .i64 0), .v (.int .i64 0), .v (.int .i64 0)], 74)]⟩ (by kernel_rfl) (by kernel_rfl) ?_
                rcases hR7 : rf 8 (bs.drop (q6 : Int).toNat) q6 0 1 [] with ⟨x7, q7, o7⟩
                have hq7 := rf_bound hb7 hR7
                refine At.call noF_stable 37 [.sl B n c, .io .i64 q6] (.tup [.io .i64 (IntKind.i64.wrap x7), .io .i64 q7, .bo o7]) (by kernel_rfl) (by kernel_rfl) (by kernel_rfl) (fun ρ _ w1 hi _ => ?_) ?_
                · have hk := rread_any B n c bs hbs q6 (hl ▸ hb7) hn hc w1 (hb.below hi.mem.below)
                  rw [hR7] at hk
                  exact hk
                generalize hy7 : IntKind.i64.wrap x7 = y7
                cases o7 with
                | false =>
                  refine At.to (noF_stable) (noF_fewer) 20 300 [0, 2, 5, 7, 8, 9, 24] 2 ⟨.code (sub B16 [1, 1, 1, 0, 1, 4, 4, 1, 0, 4, 1, 0, 1]), [.seq (sub B16 [1, 1, 1, 0, 1, 4, 4, 1, 0, 4, 1, 1]), .block 1, .seq (sub B16 [1, 1, 1, 0, 1, 4, 4, 1, 1]), .rounds (sub B16 [1, 1, 1, 0, 1, 4, 4]) 12, .block 0, .seq (sub B16 [1, 1, 1, 1])], [(0, .sl B n c), (2, .lp 0 0), (5, .lp 1 0), (7, .v (.int .i64 7)), (8, .io .i64 y7), (9, .io .i64 q7), (24, .bo true)], [([.v (.int .i64 0), .v (.int .i64 0), .v (.int .i64 0), .v (.int .i64 0), .v (.int .i64 0), .v (.int .i64 0), .v (.int .i64 0), .v (.int .i64 0), .v (.int .i64 0), .v (.bool false)], 24), ([.io .i64 y0, .io .i64 y1, .io .i64 y2, .io .i64 y3, .io .i64 y4, .io .i64 y5, .io .i64 y6, .v (.int .i64 0), .v (.int .i64 0), .v (.int .i64 0)], 74)]⟩ (by kernel_rfl) (by kernel_rfl) ?_
                  refine At.res 24 (true) true (by kernel_rfl) (by first | assumption | (simp only [*]; done) | (simp [*]; done)) ?_
                  refine At.to (noF_stable) (noF_fewer) 20 300 [2, 3, 4] 1 ⟨.exit .ret, [], [(2, .lp 0 0), (3, .v (.int .i64 0)), (4, .v (.bool false))], [([.v (.int .i64 0), .v (.int .i64 0), .v (.int .i64 0), .v (.int .i64 0), .v (.int .i64 0), .v (.int .i64 0), .v (.int .i64 0), .v (.int .i64 0), .v (.int .i64 0), .v (.bool false)], 24)]⟩ (by kernel_rfl) (by kernel_rfl) ?_
                  refine At.ret (by kernel_rfl) (.tup [.agg [.v (.int .i64 0), .v (.int .i64 0), .v (.int .i64 0), .v (.int .i64 0), .v (.int .i64 0), .v (.int .i64 0), .v (.int .i64 0), .v (.int .i64 0), .v (.int .i64 0), .v (.bool false)], .v (.int .i64 0), .v (.bool false)]) (by kernel_rfl) ?_
                  have hq : rreadL 10 bs 0 = none := by rw [rreadL_s hR0, rreadL_s hR1, rreadL_s hR2, rreadL_s hR3, rreadL_s hR4, rreadL_s hR5, rreadL_s hR6, rreadL_n hR7]; rfl
                  intro ρ w9 hm hf
                  exact ⟨by rw [hq]; rfl, hm.below⟩
                | true =>
                  have hb8 := hq7 rfl
                  refine At.to (noF_stable) (noF_fewer) 20 300 [0, 2, 5, 7, 8, 9, 24] 2 ⟨.code (sub B16 [1, 1, 1, 0, 1, 4, 4, 1, 0, 4, 1, 0, 1]), [.seq (sub B16 [1, 1, 1, 0, 1, 4, 4, 1, 0, 4, 1, 1]), .block 1, .seq (sub B16 [1, 1, 1, 0, 1, 4, 4, 1, 1]), .rounds (sub B16 [1, 1, 1, 0, 1, 4, 4]) 12, .block 0, .seq (sub B16 [1, 1, 1, 1])], [(0, .sl B n c), (2, .lp 0 0), (5, .lp 1 0), (7, .v (.int .i64 7)), (8, .io .i64 y7), (9, .io .i64 q7), (24, .bo false)], [([.v (.int .i64 0), .v (.int .i64 0), .v (.int .i64 0), .v (.int .i64 0), .v (.int .i64 0), .v (.int .i64 0), .v (.int .i64 0), .v (.int .i64 0), .v (.int .i64 0), .v (.bool false)], 24), ([.io .i64 y0, .io .i64 y1, .io .i64 y2, .io .i64 y3, .io .i64 y4, .io .i64 y5, .io .i64 y6, .v (.int .i64 0), .v (.int .i64 0), .v (.int .i64 0)], 74)]⟩ (by kernel_rfl) (by kernel_rfl) ?_
                  refine At.res 24 (false) false (by kernel_rfl) (by first | assumption | (simp only [*]; done) | (simp [*]; done)) ?_
                  refine At.to (noF_stable) (noF_fewer) 20 300 [0, 2, 5, 7, 17, 18] 2 ⟨pops B16 [1, 1, 1, 0, 1, 4, 4, 1, 0, 4, 0] 2, [.seq (sub B16 [1, 1, 1, 0, 1, 4, 4, 1, 0, 4, 1]), .block 1, .seq (sub B16 [1, 1, 1, 0, 1, 4, 4, 1, 1]), .rounds (sub B16 [1, 1, 1, 0, 1, 4, 4]) 11, .block 0, .seq (sub B16 [1, 1, 1, 1])], [(0, .sl B n c), (2, .lp 0 0), (5, .lp 1 0), (7, .v (.int .i64 8)), (17, .sl B n c), (18, .io .i64 q7)], [([.v (.int .i64 0), .v (.int .i64 0), .v (.int .i64 0), .v (.int .i64 0), .v (.int .i64 0), .v (.int .i64 0), .v (.int .i64 0), .v (.int .i64 0), .v (.int .i64 0), .v (.bool false)], 24), ([.io .i64 y0, .io .i64 y1, .io .i64 y2, .io .i64 y3, .io .i64 y4, .io .i64 y5, .io .i64 y6, .io .i64 y7, .v (.int .i64 0), .v (.int .i64 0)], 74)]⟩ (by kernel_rfl) (by kernel_rfl) ?_
                  rcases hR8 : rf 8 (bs.drop (q7 : Int).toNat) q7 0 1 [] with ⟨x8, q8, o8⟩
                  have hq8 := rf_bound hb8 hR8
                  refine At.call noF_stable 37 [.sl B n c, .io .i64 q7] (.tup [.io .i64 (IntKind.i64.wrap x8), .io .i64 q8, .bo o8]) (by kernel_rfl) (by kernel_rfl) (by kernel_rfl) (fun ρ _ w1 hi _ => ?_) ?_
                  · have hk := rread_any B n c bs hbs q7 (hl ▸ hb8) hn hc w1 (hb.below hi.mem.below)
                    rw [hR8] at hk
                    exact hk
                  generalize hy8 : IntKind.i64.wrap x8 = y8
                  cases o8 with
                  | false =>
                    refine At.to (noF_stable) (noF_fewer) 20 300 [0, 2, 5, 7, 8, 9, 24] 2 ⟨.code (sub B16 [1, 1, 1, 0, 1, 4, 4, 1, 0, 4, 1, 0, 1]), [.seq (sub B16 [1, 1, 1, 0, 1, 4, 4, 1, 0, 4, 1, 1]), .block 1, .seq (sub B16 [1, 1, 1, 0, 1, 4, 4, 1, 1]), .rounds (sub B16 [1, 1, 1, 0, 1, 4, 4]) 11, .block 0, .seq (sub B16 [1, 1, 1, 1])], [(0, .sl B n c), (2, .lp 0 0), (5, .lp 1 0), (7, .v (.int .i64 8)), (8, .io .i64 y8), (9, .io .i64 q8), (24, .bo true)], [([.v (.int .i64 0), .v (.int .i64 0), .v (.int .i64 0), .v (.int .i64 0), .v (.int .i64 0), .v (.int .i64 0), .v (.int .i64 0), .v (.int .i64 0), .v (.int .i64 0), .v (.bool false)], 24), ([.io .i64 y0, .io .i64 y1, .io .i64 y2, .io .i64 y3, .io .i64 y4, .io .i64 y5, .io .i64 y6, .io .i64 y7, .v (.int .i64 0), .v (.int .i64 0)], 74)]⟩ (by kernel_rfl) (by kernel_rfl) ?_
                    refine At.res 24 (true) true (by kernel_rfl) (by first | assumption | (simp only [*]; done) | (simp [*]; done)) ?_
                    refine At.to (noF_stable) (noF_fewer) 20 300 [2, 3, 4] 1 ⟨.exit .ret, [], [(2, .lp 0 0), (3, .v (.int .i64 0)), (4, .v (.bool false))], [([.v (.int .i64 0), .v (.int .i64 0), .v (.int .i64 0), .v (.int .i64 0), .v (.int .i64 0), .v (.int .i64 0), .v (.int .i64 0), .v (.int .i64 0), .v (.int .i64 0), .v (.bool false)], 24)]⟩ (by kernel_rfl) (by kernel_rfl) ?_
                    refine At.ret (by kernel_rfl) (.tup [.agg [.v (.int .i64 0), .v (.int .i64 0), .v (.int .i64 0), .v (.int .i64 0), .v (.int .i64 0), .v (.int .i64 0), .v (.int .i64 0), .v (.int .i64 0), .v (.int .i64 0), .v (.bool false)], .v (.int .i64 0), .v (.bool false)]) (by kernel_rfl) ?_
                    have hq : rreadL 10 bs 0 = none := by rw [rreadL_s hR0, rreadL_s hR1, rreadL_s hR2, rreadL_s hR3, rreadL_s hR4, rreadL_s hR5, rreadL_s hR6, rreadL_s hR7, rreadL_n hR8]; rfl
                    intro ρ w9 hm hf
                    exact ⟨by rw [hq]; rfl, hm.below⟩
                  | true =>
                    have hb9 := hq8 rfl
                    refine At.to (noF_stable) (noF_fewer) 20 300 [0, 2, 5, 7, 8, 9, 24] 2 ⟨.code (sub B16 [1, 1, 1, 0, 1, 4, 4, 1, 0, 4, 1, 0, 1]), [.seq (sub B16 [1, 1, 1, 0, 1, 4, 4, 1, 0, 4, 1, 1]), .block 1, .seq (sub B16 [1, 1, 1, 0, 1, 4, 4, 1, 1]), .rounds (sub B16 [1, 1, 1, 0, 1, 4, 4]) 11, .block 0, .seq (sub B16 [1, 1, 1, 1])], [(0, .sl B n c), (2, .lp 0 0), (5, .lp 1 0), (7, .v (.int .i64 8)), (8, .io .i64 y8), (9, .io .i64 q8), (24, .bo false)], [([.v (.int .i64 0), .v (.int .i64 0), .v (.int .i64 0), .v (.int .i64 0), .v (.int .i64 0), .v (.int .i64 0), .v (.int .i64 0), .v (.int .i64 0), .v (.int .i64 0), .v (.bool false)], 24), ([.io .i64 y0, .io .i64 y1, .io .i64 y2, .io .i64 y3, .io .i64 y4, .io .i64 y5, .io .i64 y6, .io .i64 y7, .v (.int .i64 0), .v (.int .i64 0)], 74)]⟩ (by kernel_rfl) (by kernel_rfl) ?_
                    refine At.res 24 (false) false (by kernel_rfl) (by first | assumption | (simp only [*]; done) | (simp [*]; done)) ?_
                    refine At.to (noF_stable) (noF_fewer) 20 300 [0, 2, 5, 7, 17, 18] 2 ⟨pops B16 [1, 1, 1, 0, 1, 4, 4, 1, 0, 4, 0] 2, [.seq (sub B16 [1, 1, 1, 0, 1, 4, 4, 1, 0, 4, 1]), .block 1, .seq (sub B16 [1, 1, 1, 0, 1, 4, 4, 1, 1]), .rounds (sub B16 [1, 1, 1, 0, 1, 4, 4]) 10, .block 0, .seq (sub B16 [1, 1, 1, 1])], [(0, .sl B n c), (2, .lp 0 0), (5, .lp 1 0), (7, .v (.int .i64 9)), (17, .sl B n c), (18, .io .i64 q8)], [([.v (.int .i64 0), .v (.int .i64 0), .v (.int .i64 0), .v (.int .i64 0), .v (.int .i64 0), .v (.int .i64 0), .v (.int .i64 0), .v (.int .i64 0), .v (.int .i64 0), .v (.bool false)], 24), ([.io .i64 y0, .io .i64 y1, .io .i64 y2, .io .i64 y3, .io .i64 y4, .io .i64 y5, .io .i64 y6, .io .i64 y7, .io .i64 y8, .v (.int .i64 0)], 74)]⟩ (by kernel_rfl) (by kernel_rfl) ?_
                    rcases hR9 : rf 8 (bs.drop (q8 : Int).toNat) q8 0 1 [] with ⟨x9, q9, o9⟩
                    have hq9 := rf_bound hb9 hR9
                    refine At.call noF_stable 37 [.sl B n c, .io .i64 q8] (.tup [.io .i64 (IntKind.i64.wrap x9), .io .i64 q9, .bo o9]) (by kernel_rfl) (by kernel_rfl) (by kernel_rfl) (fun ρ _ w1 hi _ => ?_) ?_
                    · have hk := rread_any B n c bs hbs q8 (hl ▸ hb9) hn hc w1 (hb.below hi.mem.below)
                      rw [hR9] at hk
                      exact hk
                    generalize hy9 : IntKind.i64.wrap x9 = y9
                    cases o9 with
                    | false =>
                      refine At.to (noF_stable) (noF_fewer) 20 300 [0, 2, 5, 7, 8, 9, 24] 2 ⟨.code (sub B16 [1, 1, 1, 0, 1, 4, 4, 1, 0, 4, 1, 0, 1]), [.seq (sub B16 [1, 1, 1, 0, 1, 4, 4, 1, 0, 4, 1, 1]), .block 1, .seq (sub B16 [1, 1, 1, 0, 1, 4, 4, 1, 1]), .rounds (sub B16 [1, 1, 1, 0, 1, 4, 4]) 10, .block 0, .seq (sub B16 [1, 1, 1, 1])], [(0, .sl B n c), (2, .lp 0 0), (5, .lp 1 0), (7, .v (.int .i64 9)), (8, .io .i64 y9), (9, .io .i64 q9), (24, .bo true)], [([.v (.int .i64 0), .v (.int .i64 0), .v (.int .i64 0), .v (.int .i64 0), .v (.int .i64 0), .v (.int .i64 0), .v (.int .i64 0), .v (.int .i64 0), .v (.int .i64 0), .v (.bool false)], 24), ([.io .i64 y0, .io .i64 y1, .io .i64 y2, .io .i64 y3, .io .i64 y4, .io .i64 y5, .io .i64 y6, .io .i64 y7, .io .i64 y8, .v (.int .i64 0)], 74)]⟩ (by kernel_rfl) (by kernel_rfl) ?_
                      refine At.res 24 (true) true (by kernel_rfl) (by first | assumption | (simp only [*]; done) | (simp [*]; done)) ?_
                      refine At.to (noF_stable) (noF_fewer) 20 300 [2, 3, 4] 1 ⟨.exit .ret, [], [(2, .lp 0 0), (3, .v (.int .i64 0)), (4, .v (.bool false))], [([.v (.int .i64 0), .v (.int .i64 0), .v (.int .i64 0), .v (.int .i64 0), .v (.int .i64 0), .v (.int .i64 0), .v (.int .i64 0), .v (.int .i64 0), .v (.int .i64 0), .v (.bool false)], 24)]⟩ (by kernel_rfl) (by kernel_rfl) ?_
                      refine At.ret (by kernel_rfl) (.tup [.agg [.v (.int .i64 0), .v (.int .i64 0), .v (.int .i64 0), .v (.int .i64 0), .v (.int .i64 0), .v (.int .i64 0), .v (.int .i64 0), .v (.int .i64 0), .v (.int .i64 0), .v (.bool false)], .v (.int .i64 0), .v (.bool false)]) (by kernel_rfl) ?_
                      have hq : rreadL 10 bs 0 = none := by rw [rreadL_s hR0, rreadL_s hR1, rreadL_s hR2, rreadL_s hR3, rreadL_s hR4, rreadL_s hR5, rreadL_s hR6, rreadL_s hR7, rreadL_s hR8, rreadL_n hR9]; rfl
                      intro ρ w9 hm hf
                      exact ⟨by rw [hq]; rfl, hm.below⟩
                    | true =>
                      have hb10 := hq9 rfl
                      refine At.to (noF_stable) (noF_fewer) 20 300 [0, 2, 5, 7, 8, 9, 24] 2 ⟨.code (sub B16 [1, 1, 1, 0, 1, 4, 4, 1, 0, 4, 1, 0, 1]), [.seq (sub B16 [1, 1, 1, 0, 1, 4, 4, 1, 0, 4, 1, 1]), .block 1, .seq (sub B16 [1, 1, 1, 0, 1, 4, 4, 1, 1]), .rounds (sub B16 [1, 1, 1, 0, 1, 4, 4]) 10, .block 0, .seq (sub B16 [1, 1, 1, 1])], [(0, .sl B n c), (2, .lp 0 0), (5, .lp 1 0), (7, .v (.int .i64 9)), (8, .io .i64 y9), (9, .io .i64 q9), (24, .bo false)], [([.v (.int .i64 0), .v (.int .i64 0), .v (.int .i64 0), .v (.int .i64 0), .v (.int .i64 0), .v (.int .i64 0), .v (.int .i64 0), .v (.int .i64 0), .v (.int .i64 0), .v (.bool false)], 24), ([.io .i64 y0, .io .i64 y1, .io .i64 y2, .io .i64 y3, .io .i64 y4, .io .i64 y5, .io .i64 y6, .io .i64 y7, .io .i64 y8, .v (.int .i64 0)], 74)]⟩ (by kernel_rfl) (by kernel_rfl) ?_
                      refine At.res 24 (false) false (by kernel_rfl) (by first | assumption | (simp only [*]; done) | (simp [*]; done)) ?_
                      refine At.to (noF_stable) (noF_fewer) 20 300 [2, 5, 6, 30] 2 ⟨pops B16 [1, 1, 1, 1, 0] 1, [.seq (sub B16 [1, 1, 1, 1, 1])], [(2, .lp 0 0), (5, .lp 1 0), (6, .io .i64 q9), (30, .agg [.io .i64 y0, .io .i64 y1, .io .i64 y2, .io .i64 y3, .io .i64 y4, .io .i64 y5, .io .i64 y6, .io .i64 y7, .io .i64 y8, .io .i64 y9])], [([.v (.int .i64 0), .v (.int .i64 0), .v (.int .i64 0), .v (.int .i64 0), .v (.int .i64 0), .v (.int .i64 0), .v (.int .i64 0), .v (.int .i64 0), .v (.int .i64 0), .v (.bool false)], 24), ([.io .i64 y0, .io .i64 y1, .io .i64 y2, .io .i64 y3, .io .i64 y4, .io .i64 y5, .io .i64 y6, .io .i64 y7, .io .i64 y8, .io .i64 y9], 74)]⟩ (by kernel_rfl) (by kernel_rfl) ?_
                      refine At.call (noF_stable) 38 [.agg [.io .i64 y0, .io .i64 y1, .io .i64 y2, .io .i64 y3, .io .i64 y4, .io .i64 y5, .io .i64 y6, .io .i64 y7, .io .i64 y8, .io .i64 y9]] (.agg [.io .i64 y0, .io .i64 y1, .io .i64 y2, .io .i64 y3, .io .i64 y4, .io .i64 y5, .io .i64 y6, .io .i64 y7, .io .i64 y8, .bo (y9 == 1)]) (by kernel_rfl) (by kernel_rfl) (by kernel_rfl) (fun _ _ w _ _ => rof_any (y0) (y1) (y2) (y3) (y4) (y5) (y6) (y7) (y8) (y9) w) ?_
                      refine At.to (noF_stable) (noF_fewer) 20 300 [2, 5, 6, 11, 32] 3 ⟨pqops B16 [1, 1, 1, 1, 1, 0, 0] 1, [.seq (sub B16 [1, 1, 1, 1, 1, 0, 1]), .seq (sub B16 [1, 1, 1, 1, 1, 1])], [(2, .lp 0 0), (5, .lp 1 0), (6, .io .i64 q9), (11, .lp 2 0), (32, .agg [.io .i64 y0, .io .i64 y1, .io .i64 y2, .io .i64 y3, .io .i64 y4, .io .i64 y5, .io .i64 y6, .io .i64 y7, .io .i64 y8, .bo (y9 == 1)])], [([.v (.int .i64 0), .v (.int .i64 0), .v (.int .i64 0), .v (.int .i64 0), .v (.int .i64 0), .v (.int .i64 0), .v (.int .i64 0), .v (.int .i64 0), .v (.int .i64 0), .v (.bool false)], 24), ([.io .i64 y0, .io .i64 y1, .io .i64 y2, .io .i64 y3, .io .i64 y4, .io .i64 y5, .io .i64 y6, .io .i64 y7, .io .i64 y8, .io .i64 y9], 74), ([.io .i64 y0, .io .i64 y1, .io .i64 y2, .io .i64 y3, .io .i64 y4, .io .i64 y5, .io .i64 y6, .io .i64 y7, .io .i64 y8, .bo (y9 == 1)], 24)]⟩ (by kernel_rfl) (by kernel_rfl) ?_
                      refine At.call (noF_stable) 10 [.agg [.io .i64 y0, .io .i64 y1, .io .i64 y2, .io .i64 y3, .io .i64 y4, .io .i64 y5, .io .i64 y6, .io .i64 y7, .io .i64 y8, .bo (y9 == 1)]] (.io .i64 (wrongR y0 y1 y2 y3 y4 y5 y6 y7 y8)) (by kernel_rfl) (by kernel_rfl) (by kernel_rfl) (fun _ _ w _ _ => rwrong_any (y0) (y1) (y2) (y3) (y4) (y5) (y6) (y7) (y8) (y9 == 1) w) ?_
                      refine At.to (noF_stable) (noF_fewer) 20 300 [2, 5, 6, 11, 35] 3 ⟨pqops B16 [1, 1, 1, 1, 1, 0, 0] 4, [.seq (sub B16 [1, 1, 1, 1, 1, 0, 1]), .seq (sub B16 [1, 1, 1, 1, 1, 1])], [(2, .lp 0 0), (5, .lp 1 0), (6, .io .i64 q9), (11, .lp 2 0), (35, .bo (wrongR y0 y1 y2 y3 y4 y5 y6 y7 y8 != 0))], [([.v (.int .i64 0), .v (.int .i64 0), .v (.int .i64 0), .v (.int .i64 0), .v (.int .i64 0), .v (.int .i64 0), .v (.int .i64 0), .v (.int .i64 0), .v (.int .i64 0), .v (.bool false)], 24), ([.io .i64 y0, .io .i64 y1, .io .i64 y2, .io .i64 y3, .io .i64 y4, .io .i64 y5, .io .i64 y6, .io .i64 y7, .io .i64 y8, .io .i64 y9], 74), ([.io .i64 y0, .io .i64 y1, .io .i64 y2, .io .i64 y3, .io .i64 y4, .io .i64 y5, .io .i64 y6, .io .i64 y7, .io .i64 y8, .bo (y9 == 1)], 24)]⟩ (by kernel_rfl) (by kernel_rfl) ?_
                      rcases Bool.eq_false_or_eq_true (wrongR y0 y1 y2 y3 y4 y5 y6 y7 y8 != 0) with b0 | b0
                      · refine At.res 35 (wrongR y0 y1 y2 y3 y4 y5 y6 y7 y8 != 0) true (by kernel_rfl) b0 ?_
                        refine At.to (noF_stable) (noF_fewer) 20 300 [2, 3, 4] 1 ⟨.exit .ret, [], [(2, .lp 0 0), (3, .v (.int .i64 0)), (4, .v (.bool false))], [([.v (.int .i64 0), .v (.int .i64 0), .v (.int .i64 0), .v (.int .i64 0), .v (.int .i64 0), .v (.int .i64 0), .v (.int .i64 0), .v (.int .i64 0), .v (.int .i64 0), .v (.bool false)], 24)]⟩ (by kernel_rfl) (by kernel_rfl) ?_
                        refine At.ret (by kernel_rfl) (.tup [.agg [.v (.int .i64 0), .v (.int .i64 0), .v (.int .i64 0), .v (.int .i64 0), .v (.int .i64 0), .v (.int .i64 0), .v (.int .i64 0), .v (.int .i64 0), .v (.int .i64 0), .v (.bool false)], .v (.int .i64 0), .v (.bool false)]) (by kernel_rfl) ?_
                        have hq : rreadL 10 bs 0 = some ([y0, y1, y2, y3, y4, y5, y6, y7, y8, y9], q9) := by subst_vars; rw [rreadL_s hR0, rreadL_s hR1, rreadL_s hR2, rreadL_s hR3, rreadL_s hR4, rreadL_s hR5, rreadL_s hR6, rreadL_s hR7, rreadL_s hR8, rreadL_s hR9]; rfl
                        intro ρ w9 hm hf
                        refine ⟨?_, hm.below⟩
                        rw [hq]
                        simp only [readR, b0, cond_true, cond_false]
                        rfl
                      · refine At.res 35 (wrongR y0 y1 y2 y3 y4 y5 y6 y7 y8 != 0) false (by kernel_rfl) b0 ?_
                        refine At.to (noF_stable) (noF_fewer) 20 300 [2, 5, 6, 11, 40] 3 ⟨pqops B16 [1, 1, 1, 1, 1, 0, 0] 9, [.seq (sub B16 [1, 1, 1, 1, 1, 0, 1]), .seq (sub B16 [1, 1, 1, 1, 1, 1])], [(2, .lp 0 0), (5, .lp 1 0), (6, .io .i64 q9), (11, .lp 2 0), (40, .bo (decide (y9 > 1)))], [([.v (.int .i64 0), .v (.int .i64 0), .v (.int .i64 0), .v (.int .i64 0), .v (.int .i64 0), .v (.int .i64 0), .v (.int .i64 0), .v (.int .i64 0), .v (.int .i64 0), .v (.bool false)], 24), ([.io .i64 y0, .io .i64 y1, .io .i64 y2, .io .i64 y3, .io .i64 y4, .io .i64 y5, .io .i64 y6, .io .i64 y7, .io .i64 y8, .io .i64 y9], 74), ([.io .i64 y0, .io .i64 y1, .io .i64 y2, .io .i64 y3, .io .i64 y4, .io .i64 y5, .io .i64 y6, .io .i64 y7, .io .i64 y8, .bo (y9 == 1)], 24)]⟩ (by kernel_rfl) (by kernel_rfl) ?_
                        rcases Bool.eq_false_or_eq_true (decide (y9 > 1)) with b1 | b1
                        · refine At.res 40 (decide (y9 > 1)) true (by kernel_rfl) b1 ?_
                          refine At.to (noF_stable) (noF_fewer) 20 300 [2, 3, 4] 1 ⟨.exit .ret, [], [(2, .lp 0 0), (3, .v (.int .i64 0)), (4, .v (.bool false))], [([.v (.int .i64 0), .v (.int .i64 0), .v (.int .i64 0), .v (.int .i64 0), .v (.int .i64 0), .v (.int .i64 0), .v (.int .i64 0), .v (.int .i64 0), .v (.int .i64 0), .v (.bool false)], 24)]⟩ (by kernel_rfl) (by kernel_rfl) ?_
                          refine At.ret (by kernel_rfl) (.tup [.agg [.v (.int .i64 0), .v (.int .i64 0), .v (.int .i64 0), .v (.int .i64 0), .v (.int .i64 0), .v (.int .i64 0), .v (.int .i64 0), .v (.int .i64 0), .v (.int .i64 0), .v (.bool false)], .v (.int .i64 0), .v (.bool false)]) (by kernel_rfl) ?_
                          have hq : rreadL 10 bs 0 = some ([y0, y1, y2, y3, y4, y5, y6, y7, y8, y9], q9) := by subst_vars; rw [rreadL_s hR0, rreadL_s hR1, rreadL_s hR2, rreadL_s hR3, rreadL_s hR4, rreadL_s hR5, rreadL_s hR6, rreadL_s hR7, rreadL_s hR8, rreadL_s hR9]; rfl
                          intro ρ w9 hm hf
                          refine ⟨?_, hm.below⟩
                          rw [hq]
                          simp only [readR, b0, b1, cond_true, cond_false]
                          rfl
                        · refine At.res 40 (decide (y9 > 1)) false (by kernel_rfl) b1 ?_
                          refine At.to (noF_stable) (noF_fewer) 20 300 [2, 5, 6, 11, 40, 41] 3 ⟨pqops B16 [1, 1, 1, 1, 1, 0, 0] 10, [.seq (sub B16 [1, 1, 1, 1, 1, 0, 1]), .seq (sub B16 [1, 1, 1, 1, 1, 1])], [(2, .lp 0 0), (5, .lp 1 0), (6, .io .i64 q9), (11, .lp 2 0), (40, .v (.bool false)), (41, .agg [.io .i64 y0, .io .i64 y1, .io .i64 y2, .io .i64 y3, .io .i64 y4, .io .i64 y5, .io .i64 y6, .io .i64 y7, .io .i64 y8, .bo (y9 == 1)])], [([.v (.int .i64 0), .v (.int .i64 0), .v (.int .i64 0), .v (.int .i64 0), .v (.int .i64 0), .v (.int .i64 0), .v (.int .i64 0), .v (.int .i64 0), .v (.int .i64 0), .v (.bool false)], 24), ([.io .i64 y0, .io .i64 y1, .io .i64 y2, .io .i64 y3, .io .i64 y4, .io .i64 y5, .io .i64 y6, .io .i64 y7, .io .i64 y8, .io .i64 y9], 74), ([.io .i64 y0, .io .i64 y1, .io .i64 y2, .io .i64 y3, .io .i64 y4, .io .i64 y5, .io .i64 y6, .io .i64 y7, .io .i64 y8, .bo (y9 == 1)], 24)]⟩ (by kernel_rfl) (by kernel_rfl) ?_
                          refine At.call (noF_stable) 39 [.agg [.io .i64 y0, .io .i64 y1, .io .i64 y2, .io .i64 y3, .io .i64 y4, .io .i64 y5, .io .i64 y6, .io .i64 y7, .io .i64 y8, .bo (y9 == 1)]] (.agg [.io .i64 y0, .io .i64 y1, .io .i64 y2, .io .i64 y3, .io .i64 y4, .io .i64 y5, .io .i64 y6, .io .i64 y7, .io .i64 y8, .io .i64 (bif y9 == 1 then 1 else 0)]) (by kernel_rfl) (by kernel_rfl) (by kernel_rfl) (fun _ _ w _ _ => rfields_any (y0) (y1) (y2) (y3) (y4) (y5) (y6) (y7) (y8) (y9 == 1) w) ?_
                          refine At.to (noF_stable) (noF_fewer) 20 300 [2, 6, 11, 45] 3 ⟨.code (sub B16 [1, 1, 1, 1, 1, 0, 1]), [.seq (sub B16 [1, 1, 1, 1, 1, 1])], [(2, .lp 0 0), (6, .io .i64 q9), (11, .lp 2 0), (45, .bo !(y0 == y0 && (y1 == y1 && (y2 == y2 && (y3 == y3 && (y4 == y4 && (y5 == y5 && (y6 == y6 && (y7 == y7 && (y8 == y8 && ((bif y9 == 1 then 1 else 0) == y9 && true)))))))))))], [([.v (.int .i64 0), .v (.int .i64 0), .v (.int .i64 0), .v (.int .i64 0), .v (.int .i64 0), .v (.int .i64 0), .v (.int .i64 0), .v (.int .i64 0), .v (.int .i64 0), .v (.bool false)], 24), ([.io .i64 y0, .io .i64 y1, .io .i64 y2, .io .i64 y3, .io .i64 y4, .io .i64 y5, .io .i64 y6, .io .i64 y7, .io .i64 y8, .io .i64 y9], 74), ([.io .i64 y0, .io .i64 y1, .io .i64 y2, .io .i64 y3, .io .i64 y4, .io .i64 y5, .io .i64 y6, .io .i64 y7, .io .i64 y8, .bo (y9 == 1)], 24)]⟩ (by kernel_rfl) (by kernel_rfl) ?_
                          rcases Bool.eq_false_or_eq_true (!(y0 == y0 && (y1 == y1 && (y2 == y2 && (y3 == y3 && (y4 == y4 && (y5 == y5 && (y6 == y6 && (y7 == y7 && (y8 == y8 && ((bif y9 == 1 then 1 else 0) == y9 && true))))))))))) with b2 | b2
                          · refine At.res 45 (!(y0 == y0 && (y1 == y1 && (y2 == y2 && (y3 == y3 && (y4 == y4 && (y5 == y5 && (y6 == y6 && (y7 == y7 && (y8 == y8 && ((bif y9 == 1 then 1 else 0) == y9 && true))))))))))) true (by kernel_rfl) b2 ?_
                            refine At.to (noF_stable) (noF_fewer) 20 300 [2, 3, 4] 1 ⟨.exit .ret, [], [(2, .lp 0 0), (3, .v (.int .i64 0)), (4, .v (.bool false))], [([.v (.int .i64 0), .v (.int .i64 0), .v (.int .i64 0), .v (.int .i64 0), .v (.int .i64 0), .v (.int .i64 0), .v (.int .i64 0), .v (.int .i64 0), .v (.int .i64 0), .v (.bool false)], 24)]⟩ (by kernel_rfl) (by kernel_rfl) ?_
                            refine At.ret (by kernel_rfl) (.tup [.agg [.v (.int .i64 0), .v (.int .i64 0), .v (.int .i64 0), .v (.int .i64 0), .v (.int .i64 0), .v (.int .i64 0), .v (.int .i64 0), .v (.int .i64 0), .v (.int .i64 0), .v (.bool false)], .v (.int .i64 0), .v (.bool false)]) (by kernel_rfl) ?_
                            have hq : rreadL 10 bs 0 = some ([y0, y1, y2, y3, y4, y5, y6, y7, y8, y9], q9) := by subst_vars; rw [rreadL_s hR0, rreadL_s hR1, rreadL_s hR2, rreadL_s hR3, rreadL_s hR4, rreadL_s hR5, rreadL_s hR6, rreadL_s hR7, rreadL_s hR8, rreadL_s hR9]; rfl
                            intro ρ w9 hm hf
                            refine ⟨?_, hm.below⟩
                            rw [hq]
                            simp only [BEq.rfl, Bool.true_and, Bool.and_true] at b2
                            simp only [readR, b0, b1, b2, cond_true, cond_false]
                            rfl
                          · refine At.res 45 (!(y0 == y0 && (y1 == y1 && (y2 == y2 && (y3 == y3 && (y4 == y4 && (y5 == y5 && (y6 == y6 && (y7 == y7 && (y8 == y8 && ((bif y9 == 1 then 1 else 0) == y9 && true))))))))))) false (by kernel_rfl) b2 ?_
                            refine At.to (noF_stable) (noF_fewer) 20 300 [2, 3, 4] 1 ⟨.exit .ret, [], [(2, .lp 0 0), (3, .io .i64 q9), (4, .v (.bool true))], [([.io .i64 y0, .io .i64 y1, .io .i64 y2, .io .i64 y3, .io .i64 y4, .io .i64 y5, .io .i64 y6, .io .i64 y7, .io .i64 y8, .bo (y9 == 1)], 24)]⟩ (by kernel_rfl) (by kernel_rfl) ?_
                            refine At.ret (by kernel_rfl) (.tup [.agg [.io .i64 y0, .io .i64 y1, .io .i64 y2, .io .i64 y3, .io .i64 y4, .io .i64 y5, .io .i64 y6, .io .i64 y7, .io .i64 y8, .bo (y9 == 1)], .io .i64 q9, .v (.bool true)]) (by kernel_rfl) ?_
                            have hq : rreadL 10 bs 0 = some ([y0, y1, y2, y3, y4, y5, y6, y7, y8, y9], q9) := by subst_vars; rw [rreadL_s hR0, rreadL_s hR1, rreadL_s hR2, rreadL_s hR3, rreadL_s hR4, rreadL_s hR5, rreadL_s hR6, rreadL_s hR7, rreadL_s hR8, rreadL_s hR9]; rfl
                            intro ρ w9 hm hf
                            refine ⟨?_, hm.below⟩
                            rw [hq]
                            simp only [BEq.rfl, Bool.true_and, Bool.and_true] at b2
                            simp only [readR, b0, b1, b2, cond_true, cond_false]
                            rfl

end Go.Proofs.YtiehnigbcfkcdaaDoor
