import Derived.Test.YtiehnigbcfkcdaaDoorQ
import Derived.Test.YtiehnigbcfkcdaaDoorH
set_option linter.unusedSimpArgs false
set_option linter.unusedVariables false
namespace Go.Proofs.YtiehnigbcfkcdaaDoor
open Go.RowKit Go.Sx

theorem readL_len : ∀ (k : Nat) (bs : List Nat) (at' : Int) (l : List Int) (q : Int), readL k bs at' = some (l, q) → l.length = k
  | 0, _, _, _, _, h => by simp only [readL, Option.some.injEq, Prod.mk.injEq] at h; rw [← h.1]; rfl
  | k + 1, bs, at', l, q, h => by
    rcases hr : rd (bs.drop at'.toNat) at' 0 0 with ⟨e, x, q1⟩
    simp only [readL, hr] at h
    cases h1 : (e != 0) with
    | true => rw [h1, cond_true] at h; cases h
    | false =>
      rw [h1, cond_false] at h
      cases h2 : decide (x > 1099511627776) with
      | true => rw [h2, cond_true] at h; cases h
      | false =>
        rw [h2, cond_false] at h
        rcases hq : readL k bs q1 with _ | ⟨l', q'⟩
        · rw [hq] at h; cases h
        · rw [hq] at h
          simp only [Option.map_some, Option.some.injEq, Prod.mk.injEq] at h
          rw [← h.1, List.length_cons, readL_len k bs q1 l' q' hq]
theorem rreadL_len : ∀ (k : Nat) (bs : List Nat) (at' : Int) (l : List Int) (q : Int), rreadL k bs at' = some (l, q) → l.length = k
  | 0, _, _, _, _, h => by simp only [rreadL, Option.some.injEq, Prod.mk.injEq] at h; rw [← h.1]; rfl
  | k + 1, bs, at', l, q, h => by
    rcases hr : rf 8 (bs.drop at'.toNat) at' 0 1 [] with ⟨x, q1, o⟩
    simp only [rreadL, hr] at h
    cases o with
    | false => rw [cond_false] at h; cases h
    | true =>
      rw [cond_true] at h
      rcases hq : rreadL k bs q1 with _ | ⟨l', q'⟩
      · rw [hq] at h; cases h
      · rw [hq] at h
        simp only [Option.map_some, Option.some.injEq, Prod.mk.injEq] at h
        rw [← h.1, List.length_cons, rreadL_len k bs q1 l' q' hq]
theorem ten {l : List Int} (h : l.length = 10) : ∃ g s k sz sl of gp lt ea d, l = [g, s, k, sz, sl, of, gp, lt, ea, d] := by
  match l, h with
  | [g, s, k, sz, sl, of, gp, lt, ea, d], _ => exact ⟨g, s, k, sz, sl, of, gp, lt, ea, d, rfl⟩
theorem jobE_ne (n : Int) : (jobE n != 0) = (n != 0) := by
  unfold jobE
  by_cases h : n = 0
  · simp [h]
  · simp [h]
/-- Both read the same, or neither does. -/
theorem reads_alike (bs : List Nat) (hb : ∀ b ∈ bs, b < 256) :
    (readV (readL 10 bs 0) = badV ∧ readR (rreadL 10 bs 0) = badR) ∨
    ∃ (g s k sz sl of gp lt ea : Int) (d : Bool) (q : Int), readV (readL 10 bs 0) = .tuple #[.agg #[.int .i64 g, .int .i64 s, .int .i64 k, .int .i64 sz, .int .i64 sl, .int .i64 of, .int .i64 gp, .int .i64 lt, .int .i64 ea, .bool d], .int .i64 q, .int .i64 0] ∧ readR (rreadL 10 bs 0) = .tuple #[.agg #[.int .i64 g, .int .i64 s, .int .i64 k, .int .i64 sz, .int .i64 sl, .int .i64 of, .int .i64 gp, .int .i64 lt, .int .i64 ea, .bool d], .int .i64 q, .bool true] := by
  rcases h1 : readL 10 bs 0 with _ | ⟨l, q⟩
  · left
    refine ⟨rfl, ?_⟩
    rcases h2 : rreadL 10 bs 0 with _ | ⟨l, q⟩
    · rfl
    · obtain ⟨g, s, k, sz, sl, of, gp, lt, ea, d, rfl⟩ := ten (rreadL_len 10 bs 0 l q h2)
      cases hw : (wrongF g s k sz sl of gp lt ea != 0) with
      | true => simp only [readR, ← wrong_eq, hw, cond_true]
      | false =>
        cases hd : decide (d > 1) with
        | true => simp only [readR, ← wrong_eq, hw, hd, cond_true, cond_false]
        | false =>
          have hw0 : wrongF g s k sz sl of gp lt ea = 0 := by simpa using hw
          have hd1 : d ≤ 1 := by have := of_decide_eq_false hd; omega
          obtain ⟨a1, a2, a3, a4, a5, a6, a7, a8, a9⟩ := wrong_le hw0
          have := ref_readL 10 bs 0 _ q hb h2 (fun x hx => by
            simp only [List.mem_cons, List.not_mem_nil, or_false] at hx
            rcases hx with rfl | rfl | rfl | rfl | rfl | rfl | rfl | rfl | rfl | rfl <;> omega)
          rw [h1] at this
          cases this
  · rw [readL_ref 10 bs 0 _ hb h1]
    obtain ⟨g, s, k, sz, sl, of, gp, lt, ea, d, rfl⟩ := ten (readL_len 10 bs 0 l q h1)
    cases hw : (wrongF g s k sz sl of gp lt ea != 0) with
    | true =>
      left
      have hj := (jobE_ne (wrongF g s k sz sl of gp lt ea)).trans hw
      exact ⟨by simp only [readV, hj, cond_true], by simp only [readR, ← wrong_eq, hw, cond_true]⟩
    | false =>
      have hj := (jobE_ne (wrongF g s k sz sl of gp lt ea)).trans hw
      cases he : (!((bif d == 1 then (1 : Int) else 0) == d)) with
      | true =>
        left
        refine ⟨by simp only [readV, hj, he, cond_true, cond_false], ?_⟩
        cases hd : decide (d > 1) with
        | true => simp only [readR, ← wrong_eq, hw, hd, cond_true, cond_false]
        | false => simp only [readR, ← wrong_eq, hw, hd, he, cond_true, cond_false]
      | false =>
        right
        have hd : decide (d > 1) = false := by
          by_cases h : d = 1
          · subst h; rfl
          · have e1 : (d == 1) = false := beq_eq_false_iff_ne.2 h
            rw [e1, cond_false] at he
            have : (0 : Int) = d := by simpa using he
            subst this
            rfl
        exact ⟨g, s, k, sz, sl, of, gp, lt, ea, d == 1, q, by simp only [readV, hj, he, cond_false], by simp only [readR, ← wrong_eq, hw, hd, he, cond_false]⟩
theorem lend_any (B : Option Addr) (n c : Nat) (bs : List Nat) (hbs : ∀ b ∈ bs, b < 256) (hn : n ≤ 140737488355320) (w : World) (hb : SlB w B n bs) :
    Calls Tryd.prog 14 #[.slice B n c] w fun e w' => ∃ A' n' c', e = .returned (.slice A' n c') ∧ RowF w (fun _ => False) [] w.heap.size 5 1 A' n' c' (bv (bs ++ [165, 166, 167])) [] w' := by
  have hl := hb.1
  cases B with
  | some a =>
    refine (lend_some a n c bs hbs hl hn w hb.src).mono ?_
    rintro e w' ⟨A', n', c', h1, _, h3⟩
    exact ⟨A', n', c', h1, h3⟩
  | none =>
    have h0 := hb.2.1 rfl
    subst h0
    have hn0 : n = 0 := hl.symm
    subst hn0
    refine (lend_nil c w).mono ?_
    rintro e w' ⟨A', n', c', h1, _, h3⟩
    exact ⟨A', n', c', h1, h3⟩
theorem lent_shape {base n n' c : Nat} {A : Option Addr} {bs : List Nat} {ρ : List Nat} {w : World} (hl : bs.length = n) (h : Row base 5 1 A n' c (bv (bs ++ [165, 166, 167])) ρ w) : n' = n + 3 ∧ ∃ a, A = some a := by
  have h1 := h.1.1
  simp only [bv, List.length_map, List.length_append, List.length_cons, List.length_nil] at h1
  refine ⟨by omega, ?_⟩
  cases A with
  | some a => exact ⟨a, rfl⟩
  | none =>
    rcases h.1.2 with ⟨h2, _⟩ | ⟨g, cap, cur, hv, _⟩
    · injection h2 with _ h4 _
      omega
    · cases hv
theorem row_slB {base n c : Nat} {a : Addr} {bs : List Nat} {ρ : List Nat} {w : World} (hl : bs.length = n) (h : Row base 5 1 (some a) (n + 3) c (bv (bs ++ [165, 166, 167])) ρ w) : SlB w (some a) (n + 3) (bs ++ [165, 166, 167]) := row_cv h
theorem row_some {base n c : Nat} {a : Addr} {bs : List Nat} {ρ : List Nat} {w : World} (h : Row base 5 1 (some a) (n + 3) c (bv (bs ++ [165, 166, 167])) ρ w) : a.block < w.heap.size ∧ Src w a (bv bs) := by
  have hl : bs.length = n := by
    have h1 := h.1.1
    simp only [bv, List.length_map, List.length_append, List.length_cons, List.length_nil] at h1
    omega
  have hs := row_slB hl h
  refine ⟨?_, (hs.head hl).src⟩
  have hc := hs.2.2 a rfl n 165 (by rw [List.getElem?_append_right (by omega), hl, Nat.sub_self]; rfl)
  have := World.block_lt_of_cell? w _ hc
  unfold Addr.add at this
  split at this <;> exact this

noncomputable def B4 : Code := (Tryd.f4.body).getD .skip
set_option maxHeartbeats 4000000 in
set_option maxRecDepth 100000 in
theorem reads_walk (B : Option Addr) (n c : Nat) (bs : List Nat) (hbs : ∀ b ∈ bs, b < 256) (hn : n ≤ 140737488355320) (hc : n ≤ c) (w : World) (hb : SlB w B n bs) (htab : Lib.TabIs Tryd.prog w "strings.asciiSpace" .u8 Lib.asciiSpaceTab) :
    Calls Tryd.prog 4 #[.slice B n c] w fun e w' => e = .returned (.bool true) ∧ Below w.heap.size w w' := by
  have hl := hb.1
  refine enterF (N := w.heap.size) (F := FrameR w (fun _ => False) []) (fn := Tryd.f4) (c := B4) [.sl B n c] Tryd.func4 rfl rfl (Nat.le_refl _) (FrameR.start _ [] (by simp)) ?_
  refine At.toJ (FrameR.stable) FrameR.fewer 20 300 [0, 10] 0 ⟨pops B4 [1, 0] 1, [.seq (sub B4 [1, 1])], [(0, .sl B n c), (10, .sl B n c)], []⟩ (by kernel_rfl) (by kernel_rfl) ?_
  refine At.mkrowv (base := w.heap.size) (e := 5) (size := 1) 14 [.sl B n c] (fun A _ c => .sl A n c) (fun _ => False) [] (bv (bs ++ [165, 166, 167])) (by kernel_rfl) (by kernel_rfl) (by kernel_rfl) (by kernel_rfl) (by kernel_rfl) (fun ρ w h => h) (Nat.le_refl _) (fun ρ w1 hm hf => lend_any B n c bs hbs hn w1 (hb.below hm.below)) ?_
  intro A1 n1 c1
  refine At.mono (F' := fun ρ w1 => RowF w (fun _ => False) [] w.heap.size 5 1 A1 n1 c1 (bv (bs ++ [165, 166, 167])) ρ w1 ∧ (n1 = n + 3 ∧ ∃ a, A1 = some a)) (fun ρ w1 h => ⟨h, lent_shape hl h.1.1⟩) (At.pure ?_)
  rintro ⟨rfl, a, rfl⟩
  rcases reads_alike bs hbs with ⟨h1, h2⟩ | ⟨g, s, k, sz, sl, of, gp, lt, ea, d, q, h1, h2⟩
  · refine At.toJ (RowF.stable) RowF.fewer 20 300 [0, 3, 13] 0 ⟨pops B4 [1, 1, 0] 1, [.seq (sub B4 [1, 1, 1])], [(0, .sl B n c), (3, .sl (some a) n c1), (13, .sl (some a) n c1)], []⟩ (by kernel_rfl) (by kernel_rfl) ?_
    refine At.call RowF.stable 15 [.sl (some a) n c1] (.tup [.agg [.v (.int .i64 0), .v (.int .i64 0), .v (.int .i64 0), .v (.int .i64 0), .v (.int .i64 0), .v (.int .i64 0), .v (.int .i64 0), .v (.int .i64 0), .v (.int .i64 0), .v (.bool false)], .v (.int .i64 0), .v (.int .i64 210)]) (by kernel_rfl) (by kernel_rfl) (by kernel_rfl) (fun ρ _ w1 hi hf => ?_) ?_
    · have hk := read_any a n c1 bs hbs hl (by omega) w1 (row_some hf.1.1).1 (row_some hf.1.1).2
      rw [h1, badV] at hk
      exact hk
    refine At.toJ (RowF.stable) RowF.fewer 20 300 [0, 3, 4, 5, 6, 19] 1 ⟨pops B4 [1, 1, 1, 0] 1, [.seq (sub B4 [1, 1, 1, 1])], [(0, .sl B n c), (3, .sl (some a) n c1), (4, .lp 0 0), (5, .v (.int .i64 0)), (6, .v (.int .i64 210)), (19, .sl B n c)], [([.v (.int .i64 0), .v (.int .i64 0), .v (.int .i64 0), .v (.int .i64 0), .v (.int .i64 0), .v (.int .i64 0), .v (.int .i64 0), .v (.int .i64 0), .v (.int .i64 0), .v (.bool false)], 24)]⟩ (by kernel_rfl) (by kernel_rfl) ?_
    refine At.call RowF.stable 16 [.sl B n c] (.tup [.agg [.v (.int .i64 0), .v (.int .i64 0), .v (.int .i64 0), .v (.int .i64 0), .v (.int .i64 0), .v (.int .i64 0), .v (.int .i64 0), .v (.int .i64 0), .v (.int .i64 0), .v (.bool false)], .v (.int .i64 0), .v (.bool false)]) (by kernel_rfl) (by kernel_rfl) (by kernel_rfl) (fun ρ _ w1 hi hf => ?_) ?_
    · have hk := rRead_any B n c bs hbs hn hc w1 (hb.below hi.mem.below)
      rw [h2, badR] at hk
      exact hk
    refine At.toJ (RowF.stable) RowF.fewer 20 300 [0, 3, 6, 9, 32, 33] 0 ⟨pops B4 [1, 1, 1, 1, 0] 10, [.seq (sub B4 [1, 1, 1, 1, 1])], [(0, .sl B n c), (3, .sl (some a) n c1), (6, .v (.int .i64 210)), (9, .v (.bool false)), (32, .v (.bool true)), (33, .v (.int .i64 210))], []⟩ (by kernel_rfl) (by kernel_rfl) ?_
    refine At.call (RowF.stable) 11 [.v (.int .i64 210)] (.io .i64 210) (by kernel_rfl) (by kernel_rfl) (by kernel_rfl) (fun _ _ w _ _ => num_any (210) w) ?_
    refine At.toJ (RowF.stable) RowF.fewer 20 300 [0, 3, 6, 9, 39] 0 ⟨pops B4 [1, 1, 1, 1, 0] 16, [.seq (sub B4 [1, 1, 1, 1, 1])], [(0, .sl B n c), (3, .sl (some a) n c1), (6, .v (.int .i64 210)), (9, .v (.bool false)), (39, .bo true)], []⟩ (by kernel_rfl) (by kernel_rfl) ?_
    refine At.res 39 (true) true (by kernel_rfl) (by first | assumption | (simp only [*]; done) | (simp [*]; done)) ?_
    refine At.toJ (RowF.stable) RowF.fewer 20 300 [0, 3, 39, 41, 42] 0 ⟨pops B4 [1, 1, 1, 1, 0] 19, [.seq (sub B4 [1, 1, 1, 1, 1])], [(0, .sl B n c), (3, .sl (some a) n c1), (39, .v (.bool true)), (41, .v (.bool false)), (42, .v (.int .i64 210))], []⟩ (by kernel_rfl) (by kernel_rfl) ?_
    refine At.call (RowF.stable) 11 [.v (.int .i64 210)] (.io .i64 210) (by kernel_rfl) (by kernel_rfl) (by kernel_rfl) (fun _ _ w _ _ => num_any (210) w) ?_
    refine At.toJ (RowF.stable) RowF.fewer 20 300 [0, 3, 47] 0 ⟨pops B4 [1, 1, 1, 1, 0] 24, [.seq (sub B4 [1, 1, 1, 1, 1])], [(0, .sl B n c), (3, .sl (some a) n c1), (47, .bo true)], []⟩ (by kernel_rfl) (by kernel_rfl) ?_
    refine At.res 47 (true) true (by kernel_rfl) (by first | assumption | (simp only [*]; done) | (simp [*]; done)) ?_
    refine At.toJ (RowF.stable) RowF.fewer 20 300 [47, 48, 49] 0 ⟨pops B4 [1, 1, 1, 1, 0] 26, [.seq (sub B4 [1, 1, 1, 1, 1])], [(47, .v (.bool true)), (48, .sl (some a) n c1), (49, .sl B n c)], []⟩ (by kernel_rfl) (by kernel_rfl) ?_
    refine At.call RowF.stable 17 [.sl (some a) n c1, .sl B n c] (.v (.bool true)) (by kernel_rfl) (by kernel_rfl) (by kernel_rfl) (fun ρ _ w1 hi hf => ?_) ?_
    · exact kept_any a B n c1 c bs w1 (row_slB hl hf.1.1) (hb.below hi.mem.below) (row_cap hf.1.1 (by omega)) hn
    refine At.toJ (RowF.stable) RowF.fewer 20 300 [52] 0 ⟨pops B4 [1, 1, 1, 1, 0] 29, [.seq (sub B4 [1, 1, 1, 1, 1])], [(52, .v (.bool true))], []⟩ (by kernel_rfl) (by kernel_rfl) ?_
    refine At.call RowF.stable 13 [] (.v (.bool true)) (by kernel_rfl) (by kernel_rfl) (by kernel_rfl) (fun ρ _ w1 hi _ => works_true w1 (tab_below htab hi.mem.below rfl)) ?_
    refine At.toJ (RowF.stable) RowF.fewer 20 300 [2] 0 ⟨.exit .ret, [], [(2, .v (.bool true))], []⟩ (by kernel_rfl) (by kernel_rfl) ?_
    refine At.ret (by kernel_rfl) (.v (.bool true)) (by kernel_rfl) ?_
    intro ρ w9 hm _
    exact ⟨rfl, hm.below⟩
  · refine At.toJ (RowF.stable) RowF.fewer 20 300 [0, 3, 13] 0 ⟨pops B4 [1, 1, 0] 1, [.seq (sub B4 [1, 1, 1])], [(0, .sl B n c), (3, .sl (some a) n c1), (13, .sl (some a) n c1)], []⟩ (by kernel_rfl) (by kernel_rfl) ?_
    refine At.call RowF.stable 15 [.sl (some a) n c1] (.tup [.agg [.io .i64 g, .io .i64 s, .io .i64 k, .io .i64 sz, .io .i64 sl, .io .i64 of, .io .i64 gp, .io .i64 lt, .io .i64 ea, .bo d], .io .i64 q, .v (.int .i64 0)]) (by kernel_rfl) (by kernel_rfl) (by kernel_rfl) (fun ρ _ w1 hi hf => ?_) ?_
    · have hk := read_any a n c1 bs hbs hl (by omega) w1 (row_some hf.1.1).1 (row_some hf.1.1).2
      rw [h1] at hk
      exact hk
    refine At.toJ (RowF.stable) RowF.fewer 20 300 [0, 3, 4, 5, 6, 19] 1 ⟨pops B4 [1, 1, 1, 0] 1, [.seq (sub B4 [1, 1, 1, 1])], [(0, .sl B n c), (3, .sl (some a) n c1), (4, .lp 0 0), (5, .io .i64 q), (6, .v (.int .i64 0)), (19, .sl B n c)], [([.io .i64 g, .io .i64 s, .io .i64 k, .io .i64 sz, .io .i64 sl, .io .i64 of, .io .i64 gp, .io .i64 lt, .io .i64 ea, .bo d], 24)]⟩ (by kernel_rfl) (by kernel_rfl) ?_
    refine At.call RowF.stable 16 [.sl B n c] (.tup [.agg [.io .i64 g, .io .i64 s, .io .i64 k, .io .i64 sz, .io .i64 sl, .io .i64 of, .io .i64 gp, .io .i64 lt, .io .i64 ea, .bo d], .io .i64 q, .v (.bool true)]) (by kernel_rfl) (by kernel_rfl) (by kernel_rfl) (fun ρ _ w1 hi hf => ?_) ?_
    · have hk := rRead_any B n c bs hbs hn hc w1 (hb.below hi.mem.below)
      rw [h2] at hk
      exact hk
    refine At.toJ (RowF.stable) RowF.fewer 20 300 [0, 3, 5, 6, 8, 9, 27] 0 ⟨pops B4 [1, 1, 1, 1, 0] 4, [.seq (sub B4 [1, 1, 1, 1, 1])], [(0, .sl B n c), (3, .sl (some a) n c1), (5, .io .i64 q), (6, .v (.int .i64 0)), (8, .io .i64 q), (9, .v (.bool true)), (27, .bo (g == g && (s == s && (k == k && (sz == sz && (sl == sl && (of == of && (gp == gp && (lt == lt && (ea == ea && (d == d && true)))))))))))], []⟩ (by kernel_rfl) (by kernel_rfl) ?_
    refine At.res 27 (g == g && (s == s && (k == k && (sz == sz && (sl == sl && (of == of && (gp == gp && (lt == lt && (ea == ea && (d == d && true)))))))))) true (by kernel_rfl) (by first | assumption | (simp only [*]; done) | (simp [*]; done)) ?_
    refine At.toJ (RowF.stable) RowF.fewer 20 300 [0, 3, 6, 9, 32] 0 ⟨pops B4 [1, 1, 1, 1, 0] 9, [.seq (sub B4 [1, 1, 1, 1, 1])], [(0, .sl B n c), (3, .sl (some a) n c1), (6, .v (.int .i64 0)), (9, .v (.bool true)), (32, .bo (q == q))], []⟩ (by kernel_rfl) (by kernel_rfl) ?_
    refine At.res 32 (q == q) true (by kernel_rfl) (by first | assumption | (simp only [*]; done) | (simp [*]; done)) ?_
    refine At.toJ (RowF.stable) RowF.fewer 20 300 [0, 3, 6, 9, 32, 33] 0 ⟨pops B4 [1, 1, 1, 1, 0] 10, [.seq (sub B4 [1, 1, 1, 1, 1])], [(0, .sl B n c), (3, .sl (some a) n c1), (6, .v (.int .i64 0)), (9, .v (.bool true)), (32, .v (.bool true)), (33, .v (.int .i64 0))], []⟩ (by kernel_rfl) (by kernel_rfl) ?_
    refine At.call (RowF.stable) 11 [.v (.int .i64 0)] (.io .i64 0) (by kernel_rfl) (by kernel_rfl) (by kernel_rfl) (fun _ _ w _ _ => num_any (0) w) ?_
    refine At.toJ (RowF.stable) RowF.fewer 20 300 [0, 3, 6, 9, 39] 0 ⟨pops B4 [1, 1, 1, 1, 0] 16, [.seq (sub B4 [1, 1, 1, 1, 1])], [(0, .sl B n c), (3, .sl (some a) n c1), (6, .v (.int .i64 0)), (9, .v (.bool true)), (39, .bo true)], []⟩ (by kernel_rfl) (by kernel_rfl) ?_
    refine At.res 39 (true) true (by kernel_rfl) (by first | assumption | (simp only [*]; done) | (simp [*]; done)) ?_
    refine At.toJ (RowF.stable) RowF.fewer 20 300 [47, 48, 49] 0 ⟨pops B4 [1, 1, 1, 1, 0] 26, [.seq (sub B4 [1, 1, 1, 1, 1])], [(47, .v (.bool true)), (48, .sl (some a) n c1), (49, .sl B n c)], []⟩ (by kernel_rfl) (by kernel_rfl) ?_
    refine At.call RowF.stable 17 [.sl (some a) n c1, .sl B n c] (.v (.bool true)) (by kernel_rfl) (by kernel_rfl) (by kernel_rfl) (fun ρ _ w1 hi hf => ?_) ?_
    · exact kept_any a B n c1 c bs w1 (row_slB hl hf.1.1) (hb.below hi.mem.below) (row_cap hf.1.1 (by omega)) hn
    refine At.toJ (RowF.stable) RowF.fewer 20 300 [52] 0 ⟨pops B4 [1, 1, 1, 1, 0] 29, [.seq (sub B4 [1, 1, 1, 1, 1])], [(52, .v (.bool true))], []⟩ (by kernel_rfl) (by kernel_rfl) ?_
    refine At.call RowF.stable 13 [] (.v (.bool true)) (by kernel_rfl) (by kernel_rfl) (by kernel_rfl) (fun ρ _ w1 hi _ => works_true w1 (tab_below htab hi.mem.below rfl)) ?_
    refine At.toJ (RowF.stable) RowF.fewer 20 300 [2] 0 ⟨.exit .ret, [], [(2, .v (.bool true))], []⟩ (by kernel_rfl) (by kernel_rfl) ?_
    refine At.ret (by kernel_rfl) (.v (.bool true)) (by kernel_rfl) ?_
    intro ρ w9 hm _
    exact ⟨rfl, hm.below⟩

end Go.Proofs.YtiehnigbcfkcdaaDoor
