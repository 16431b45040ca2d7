import Derived.Test.YtkjnbafdmjakgaaDoorKE
set_option linter.unusedSimpArgs false
set_option linter.unusedVariables false
namespace Go.Proofs.YtkjnbafdmjakgaaDoor
open Go.RowKit Go.Sx

theorem div16_all : ∀ z : Fin 256, IntKind.u8.wrap ((((z.val : Nat) : Int)).tdiv 16) = ((z.val / 16 : Nat) : Int) := by decide +kernel
theorem div16 (y : UInt8) : IntKind.u8.wrap ((y.toNat : Int).tdiv 16) = ((y.toNat / 16 : Nat) : Int) := div16_all ⟨y.toNat, y.toNat_lt⟩
theorem mod16_all : ∀ z : Fin 256, (((z.val : Nat) : Int)).tmod 16 = ((z.val % 16 : Nat) : Int) := by decide +kernel
theorem mod16 (y : UInt8) : (y.toNat : Int).tmod 16 = ((y.toNat % 16 : Nat) : Int) := mod16_all ⟨y.toNat, y.toNat_lt⟩
theorem wrap8_all : ∀ z : Fin 256, IntKind.u8.wrap ((z.val : Nat) : Int) = ((z.val : Nat) : Int) := by decide +kernel
theorem wrap8 {n : Nat} (h : n < 256) : IntKind.u8.wrap (n : Int) = (n : Int) := wrap8_all ⟨n, h⟩
def frDg (c : UInt8) (i : Nat) : Fr := [(0, .io .u8 (c.toNat : Int)), (3, .io .i64 (i : Int))]
def locDg (_ : Nat) : Sx.Loc := []
def GDg (c : UInt8) (i : Nat) (ρ : List Nat) (w : World) : Prop := noF ρ w ∧ (i ≤ 16 ∧ ∀ j, j < i → hexB j ≠ c)
def frQR (k : List UInt8) : QSt → Fr
  | ⟨i, A1, n1, c1, _⟩ => [(0, .so (mkB k)), (3, .sl A1 n1 c1), (4, .io .i64 (i : Int))]
def GQR (w0 : World) (k R : List UInt8) (s : QSt) (ρ : List Nat) (w : World) : Prop :=
  RowF w0 (fun _ => False) [] w0.heap.size 5 1 s.A s.n s.c (bw s.acc) ρ w ∧ (s.i ≤ k.length ∧ s.acc ++ ((k.drop s.i).flatMap q1 ++ [34]) = R ∧ s.n = s.acc.length ∧ s.n ≤ 1 + 4 * s.i)
theorem hexI_all : ∀ z : Fin 16, (if ((z.val : Nat) : Int) < 10 then IntKind.u8.wrap (48 + ((z.val : Nat) : Int)) else IntKind.u8.wrap (IntKind.u8.wrap (97 + ((z.val : Nat) : Int)) - 10)) = ((hexB z.val).toNat : Int) := by decide +kernel

noncomputable def B69 : Code := (Tryd.f69.body).getD .skip
set_option maxHeartbeats 4000000 in
set_option maxRecDepth 100000 in
theorem hex_any {n : Nat} (h : n < 16) (w : World) : Calls Tryd.prog 69 #[.int .u8 (n : Int)] w fun e w' => e = .returned (.int .u8 ((hexB n).toNat : Int)) ∧ Below w.heap.size w w' := by
  have hx := hexI_all ⟨n, h⟩
  simp only at hx
  refine enter (fn := Tryd.f69) (c := B69) [.io .u8 (n : Int)] Tryd.func69 rfl rfl ?_
  refine At.to (noF_stable) (noF_fewer) 20 300 [0, 4] 0 ⟨.code (sub B69 [1, 0, 1]), [.seq (sub B69 [1, 1])], [(0, .io IntKind.u8 (↑n : Int)), (4, .bo (decide ((↑n : Int) < 10)))], []⟩ (by kernel_rfl) (by kernel_rfl) ?_
  rcases Bool.eq_false_or_eq_true (decide ((↑n : Int) < 10)) with b0 | b0
  · refine At.res 4 (decide ((↑n : Int) < 10)) true (by kernel_rfl) b0 ?_
    refine At.to (noF_stable) (noF_fewer) 20 300 [2] 0 ⟨.exit .ret, [], [(2, .io IntKind.u8 (IntKind.u8.wrap (48 + (↑n : Int))))], []⟩ (by kernel_rfl) (by kernel_rfl) ?_
    refine At.ret (by kernel_rfl) (.io IntKind.u8 (IntKind.u8.wrap (48 + (↑n : Int)))) (by kernel_rfl) ?_
    rw [if_pos (of_decide_eq_true b0)] at hx
    intro ρ w9 hm hf
    exact ⟨by rw [← hx]; rfl, hm.below⟩
  · refine At.res 4 (decide ((↑n : Int) < 10)) false (by kernel_rfl) b0 ?_
    refine At.to (noF_stable) (noF_fewer) 20 300 [2] 0 ⟨.exit .ret, [], [(2, .io IntKind.u8 (IntKind.u8.wrap (IntKind.u8.wrap (97 + (↑n : Int)) - 10)))], []⟩ (by kernel_rfl) (by kernel_rfl) ?_
    refine At.ret (by kernel_rfl) (.io IntKind.u8 (IntKind.u8.wrap (IntKind.u8.wrap (97 + (↑n : Int)) - 10))) (by kernel_rfl) ?_
    rw [if_neg (of_decide_eq_false b0)] at hx
    intro ρ w9 hm hf
    exact ⟨by rw [← hx]; rfl, hm.below⟩

noncomputable def B66 : Code := (Tryd.f66.body).getD .skip
set_option maxHeartbeats 4000000 in
set_option maxRecDepth 100000 in
theorem digit_any (c : UInt8) (w : World) : Calls Tryd.prog 66 #[.int .u8 (c.toNat : Int)] w fun e w' => e = .returned (.int .i64 (dgI c)) ∧ Below w.heap.size w w' := by
  refine enter (fn := Tryd.f66) (c := B66) [.io .u8 (c.toNat : Int)] Tryd.func66 rfl rfl ?_
  refine At.to (noF_stable) (noF_fewer) 0 300 [0, 3] 0 ⟨.code (sub B66 [1, 0, 1, 4]), [.block 0, .seq (sub B66 [1, 1])], [(0, .io IntKind.u8 (↑c.toNat : Int)), (3, .v (.int .i64 0))], []⟩ (by kernel_rfl) (by kernel_rfl) ?_
  refine At.canon _ rfl ?_
  refine At.loop (σ := Nat) (sub B66 [1, 0, 1, 4, 4]) (frDg c) locDg (GDg c) (fun i => 16 - i) 0 (by kernel_rfl) (by unfold subFr; kernel_rfl) (by kernel_rfl) (fun _ _ _ _ h => ⟨h, Nat.zero_le _, fun i hi => absurd hi (Nat.not_lt_zero i)⟩) ?_
  intro i
  refine At.pure fun ⟨h1, h2⟩ => ?_
  refine At.to (noF_stable) (noF_fewer) 0 300 [0, 3, 5] 0 ⟨.code (sub B66 [1, 0, 1, 4, 4, 0, 1]), [.seq (sub B66 [1, 0, 1, 4, 4, 1]), .next (Sx.Next w.heap.size w Tryd.f66.ntmps (frDg c) locDg (GDg c) (fun i => 16 - i) i), .block 0, .seq (sub B66 [1, 1])], [(0, .io IntKind.u8 (↑c.toNat : Int)), (3, .io .i64 (↑i : Int)), (5, .bo (decide ((↑i : Int) < 16)))], []⟩ (by kernel_rfl) (by kernel_rfl) ?_
  rcases Bool.eq_false_or_eq_true (decide ((↑i : Int) < 16)) with b0 | b0
  · refine At.res 5 (decide ((↑i : Int) < 16)) true (by kernel_rfl) b0 ?_
    refine At.to (noF_stable) (noF_fewer) 0 300 [0, 3, 9] 0 ⟨pops B66 [1, 0, 1, 4, 4, 1, 0, 4, 0] 2, [.seq (sub B66 [1, 0, 1, 4, 4, 1, 0, 4, 1]), .block 1, .seq (sub B66 [1, 0, 1, 4, 4, 1, 1]), .next (Sx.Next w.heap.size w Tryd.f66.ntmps (frDg c) locDg (GDg c) (fun i => 16 - i) i), .block 0, .seq (sub B66 [1, 1])], [(0, .io IntKind.u8 (↑c.toNat : Int)), (3, .io .i64 (↑i : Int)), (9, .io IntKind.u8 (IntKind.u8.wrap (↑i : Int)))], []⟩ (by kernel_rfl) (by kernel_rfl) ?_
    have hi : i < 16 := by have := of_decide_eq_true b0; omega
    clear b0
    rw [wrap8 (by omega)]
    refine At.call noF_stable 69 [.io .u8 (i : Int)] (.io .u8 ((hexB i).toNat : Int)) (by kernel_rfl) (by kernel_rfl) (by kernel_rfl) (fun _ _ w1 _ _ => hex_any hi w1) ?_
    refine At.to (noF_stable) (noF_fewer) 0 300 [0, 3, 12] 0 ⟨.code (sub B66 [1, 0, 1, 4, 4, 1, 0, 4, 1]), [.block 1, .seq (sub B66 [1, 0, 1, 4, 4, 1, 1]), .next (Sx.Next w.heap.size w Tryd.f66.ntmps (frDg c) locDg (GDg c) (fun i => 16 - i) i), .block 0, .seq (sub B66 [1, 1])], [(0, .io IntKind.u8 (↑c.toNat : Int)), (3, .io .i64 (↑i : Int)), (12, .bo ((↑(hexB i).toNat : Int) == (↑c.toNat : Int)))], []⟩ (by kernel_rfl) (by kernel_rfl) ?_
    rcases Bool.eq_false_or_eq_true ((↑(hexB i).toNat : Int) == (↑c.toNat : Int)) with b0 | b0
    · refine At.res 12 ((↑(hexB i).toNat : Int) == (↑c.toNat : Int)) true (by kernel_rfl) b0 ?_
      refine At.to (noF_stable) (noF_fewer) 0 300 [2] 0 ⟨.exit .ret, [], [(2, .io .i64 (↑i : Int))], []⟩ (by kernel_rfl) (by kernel_rfl) ?_
      refine At.ret (by kernel_rfl) (.io .i64 (↑i : Int)) (by kernel_rfl) ?_
      have he : hexB i = c := UInt8.toNat_inj.1 (by simp at b0; omega)
      have hd : dg c = some i := by rw [← he]; exact dg_hex ⟨i, hi⟩
      intro ρ w9 hm hf
      exact ⟨by simp only [dgI, hd]; rfl, hm.below⟩
    · refine At.res 12 ((↑(hexB i).toNat : Int) == (↑c.toNat : Int)) false (by kernel_rfl) b0 ?_
      refine At.to (noF_stable) (noF_fewer) 0 300 [0, 3] 0 ⟨.exit .normal, [.next (Sx.Next w.heap.size w Tryd.f66.ntmps (frDg c) locDg (GDg c) (fun i => 16 - i) i), .block 0, .seq (sub B66 [1, 1])], [(0, .io IntKind.u8 (↑c.toNat : Int)), (3, .io .i64 (IntKind.i64.wrap ((↑i : Int) + 1)))], []⟩ (by kernel_rfl) (by kernel_rfl) ?_
      have he : hexB i ≠ c := fun e => by rw [e] at b0; simp at b0
      have hw3 : IntKind.i64.wrap ((i : Int) + 1) = ((i + 1 : Nat) : Int) := by
        rw [wrap63 (by omega) (by omega)]
        omega
      rw [hw3]
      refine At.next (σ := Nat) (i + 1) rfl rfl (by unfold subFr; kernel_rfl) (by kernel_rfl) ?_ ?_
      · intro ρ a' w' hi' hf
        exact ⟨hf, by omega, fun j hj => by
          by_cases hji : j = i
          · subst hji; exact he
          · exact h2 j (by omega)⟩
      · show 16 - (i + 1) < 16 - i
        omega
  · refine At.res 5 (decide ((↑i : Int) < 16)) false (by kernel_rfl) b0 ?_
    refine At.to (noF_stable) (noF_fewer) 0 300 [2] 0 ⟨.exit .ret, [], [(2, .v (.int .i64 (-1)))], []⟩ (by kernel_rfl) (by kernel_rfl) ?_
    refine At.ret (by kernel_rfl) (.v (.int .i64 (-1))) (by kernel_rfl) ?_
    have hi : ¬ (i : Int) < 16 := of_decide_eq_false b0
    have hd : dg c = none := by
      cases hd : dg c with
      | none => rfl
      | some j => exact absurd (dg_lt hd).2 (h2 j (by have := (dg_lt hd).1; omega))
    intro ρ w9 hm hf
    exact ⟨by simp only [dgI, hd]; rfl, hm.below⟩

noncomputable def B45 : Code := (Tryd.f45.body).getD .skip
set_option maxHeartbeats 20000000 in
set_option maxRecDepth 100000 in
theorem rquote_any (k : List UInt8) (hk : k.length ≤ 1048576) (w : World) :
    Calls Tryd.prog 45 #[.string (mkB k)] w fun e w' => e = .returned (.string (mkB (quoteB k))) ∧ Below w.heap.size w w' := by
  refine enter (fn := Tryd.f45) (c := B45) [.so (mkB k)] Tryd.func45 rfl rfl ?_
  refine At.to (noF_stable) (noF_fewer) 0 300 [0, 3, 4] 1 ⟨.code (sub B45 [1, 1, 0, 1, 4]), [.block 0, .seq (sub B45 [1, 1, 1])], [(0, .so (mkB k)), (3, .ls 0 0 1 1), (4, .v (.int .i64 0))], [([.v (.int IntKind.u8 34)], 5)]⟩ (by kernel_rfl) (by kernel_rfl) ?_
  refine At.lsRow1 3 [0, 4] 0 1 5 1 [.v (.int .u8 34)] [.int .u8 34] rfl rfl rfl rfl rfl (by decide) (fun _ => rfl) (by kernel_rfl) ?_
  intro A
  generalize hR : quoteB k = R
  refine At.canon _ rfl ?_
  refine At.loop (σ := QSt) (sub B45 [1, 1, 0, 1, 4, 4]) (frQR k) locQ (GQR w k R) (muQ k) ⟨0, A, 1, 1, [34]⟩ (by kernel_rfl) (by unfold subFr; kernel_rfl) (by kernel_rfl) (fun _ _ _ _ h => ⟨h, Nat.zero_le _, hR, rfl, (by decide : (1 : Nat) ≤ 1 + 4 * 0)⟩) ?_
  clear hR
  rintro ⟨i, A1, n1, c1, acc⟩
  refine At.pure fun ⟨h1, h2, h3, h4⟩ => ?_
  simp only at h1 h2 h3 h4
  refine At.toJ (RowF.stable) RowF.fewer 0 300 [0, 3, 4, 10] 0 ⟨.code (sub B45 [1, 1, 0, 1, 4, 4, 0, 1]), [.seq (sub B45 [1, 1, 0, 1, 4, 4, 1]), .next (Sx.Next w.heap.size w Tryd.f45.ntmps (frQR k) locQ (GQR w k R) (muQ k) (QSt.mk i A1 n1 c1 acc)), .block 0, .seq (sub B45 [1, 1, 1])], [(0, .so (mkB k)), (3, .sl A1 n1 c1), (4, .io .i64 (↑i : Int)), (10, .bo (decide ((↑i : Int) < (↑(mkB k).size : Int))))], []⟩ (by kernel_rfl) (by kernel_rfl) ?_
  rcases Bool.eq_false_or_eq_true (decide ((↑i : Int) < (↑(mkB k).size : Int))) with b0 | b0
  · refine At.res 10 (decide ((↑i : Int) < (↑(mkB k).size : Int))) true (by kernel_rfl) b0 ?_
    refine At.toJ (RowF.stable) RowF.fewer 0 300 [0, 3, 4, 13, 14] 0 ⟨pops B45 [1, 1, 0, 1, 4, 4, 1, 0, 4, 0] 2, [.seq (sub B45 [1, 1, 0, 1, 4, 4, 1, 0, 4, 1]), .block 1, .seq (sub B45 [1, 1, 0, 1, 4, 4, 1, 1]), .next (Sx.Next w.heap.size w Tryd.f45.ntmps (frQR k) locQ (GQR w k R) (muQ k) (QSt.mk i A1 n1 c1 acc)), .block 0, .seq (sub B45 [1, 1, 1])], [(0, .so (mkB k)), (3, .sl A1 n1 c1), (4, .io .i64 (↑i : Int)), (13, .so (mkB k)), (14, .io .i64 (↑i : Int))], []⟩ (by kernel_rfl) (by kernel_rfl) ?_
    have hi : i < k.length := by have := of_decide_eq_true b0; rw [mkB_size] at this; omega
    clear b0
    obtain ⟨y, hz⟩ : ∃ y, k[i]? = some y := ⟨_, List.getElem?_eq_getElem hi⟩
    have hy := y.toNat_lt
    rw [drop_at hz, List.flatMap_cons] at h2
    refine At.six (mkB k) (i : Int) y (by kernel_rfl) (by omega) (by rw [Int.toNat_natCast]; exact hz) RowF.stable ?_
    refine At.toJ (RowF.stable) RowF.fewer 0 300 [0, 3, 4, 5, 18] 0 ⟨pops B45 [1, 1, 0, 1, 4, 4, 1, 0, 4, 1, 0] 3, [.seq (sub B45 [1, 1, 0, 1, 4, 4, 1, 0, 4, 1, 1]), .block 1, .seq (sub B45 [1, 1, 0, 1, 4, 4, 1, 1]), .next (Sx.Next w.heap.size w Tryd.f45.ntmps (frQR k) locQ (GQR w k R) (muQ k) (QSt.mk i A1 n1 c1 acc)), .block 0, .seq (sub B45 [1, 1, 1])], [(0, .so (mkB k)), (3, .sl A1 n1 c1), (4, .io .i64 (↑i : Int)), (5, .io IntKind.u8 (↑y.toNat : Int)), (18, .bo (decide ((↑y.toNat : Int) ≥ 32)))], []⟩ (by kernel_rfl) (by kernel_rfl) ?_
    rcases Bool.eq_false_or_eq_true (decide ((↑y.toNat : Int) ≥ 32)) with b0 | b0
    · refine At.res 18 (decide ((↑y.toNat : Int) ≥ 32)) true (by kernel_rfl) b0 ?_
      refine At.toJ (RowF.stable) RowF.fewer 0 300 [0, 3, 4, 5, 22] 0 ⟨pops B45 [1, 1, 0, 1, 4, 4, 1, 0, 4, 1, 0] 7, [.seq (sub B45 [1, 1, 0, 1, 4, 4, 1, 0, 4, 1, 1]), .block 1, .seq (sub B45 [1, 1, 0, 1, 4, 4, 1, 1]), .next (Sx.Next w.heap.size w Tryd.f45.ntmps (frQR k) locQ (GQR w k R) (muQ k) (QSt.mk i A1 n1 c1 acc)), .block 0, .seq (sub B45 [1, 1, 1])], [(0, .so (mkB k)), (3, .sl A1 n1 c1), (4, .io .i64 (↑i : Int)), (5, .io IntKind.u8 (↑y.toNat : Int)), (22, .bo (decide ((↑y.toNat : Int) ≤ 126)))], []⟩ (by kernel_rfl) (by kernel_rfl) ?_
      rcases Bool.eq_false_or_eq_true (decide ((↑y.toNat : Int) ≤ 126)) with b1 | b1
      · refine At.res 22 (decide ((↑y.toNat : Int) ≤ 126)) true (by kernel_rfl) b1 ?_
        refine At.toJ (RowF.stable) RowF.fewer 0 300 [0, 3, 4, 5, 26] 0 ⟨pops B45 [1, 1, 0, 1, 4, 4, 1, 0, 4, 1, 0] 11, [.seq (sub B45 [1, 1, 0, 1, 4, 4, 1, 0, 4, 1, 1]), .block 1, .seq (sub B45 [1, 1, 0, 1, 4, 4, 1, 1]), .next (Sx.Next w.heap.size w Tryd.f45.ntmps (frQR k) locQ (GQR w k R) (muQ k) (QSt.mk i A1 n1 c1 acc)), .block 0, .seq (sub B45 [1, 1, 1])], [(0, .so (mkB k)), (3, .sl A1 n1 c1), (4, .io .i64 (↑i : Int)), (5, .io IntKind.u8 (↑y.toNat : Int)), (26, .bo ((↑y.toNat : Int) != 34))], []⟩ (by kernel_rfl) (by kernel_rfl) ?_
        rcases Bool.eq_false_or_eq_true ((↑y.toNat : Int) != 34) with b2 | b2
        · refine At.res 26 ((↑y.toNat : Int) != 34) true (by kernel_rfl) b2 ?_
          refine At.toJ (RowF.stable) RowF.fewer 0 300 [0, 3, 4, 5, 29] 0 ⟨.code (sub B45 [1, 1, 0, 1, 4, 4, 1, 0, 4, 1, 1]), [.block 1, .seq (sub B45 [1, 1, 0, 1, 4, 4, 1, 1]), .next (Sx.Next w.heap.size w Tryd.f45.ntmps (frQR k) locQ (GQR w k R) (muQ k) (QSt.mk i A1 n1 c1 acc)), .block 0, .seq (sub B45 [1, 1, 1])], [(0, .so (mkB k)), (3, .sl A1 n1 c1), (4, .io .i64 (↑i : Int)), (5, .io IntKind.u8 (↑y.toNat : Int)), (29, .bo ((↑y.toNat : Int) != 92))], []⟩ (by kernel_rfl) (by kernel_rfl) ?_
          rcases Bool.eq_false_or_eq_true ((↑y.toNat : Int) != 92) with b3 | b3
          · refine At.res 29 ((↑y.toNat : Int) != 92) true (by kernel_rfl) b3 ?_
            refine At.toJ (RowF.stable) RowF.fewer 0 300 [0, 4, 30, 32] 1 ⟨pops B45 [1, 1, 0, 1, 4, 4, 1, 0, 4, 1, 1, 2] 3, [.block 1, .seq (sub B45 [1, 1, 0, 1, 4, 4, 1, 1]), .next (Sx.Next w.heap.size w Tryd.f45.ntmps (frQR k) locQ (GQR w k R) (muQ k) (QSt.mk i A1 n1 c1 acc)), .block 0, .seq (sub B45 [1, 1, 1])], [(0, .so (mkB k)), (4, .io .i64 (↑i : Int)), (30, .sl A1 n1 c1), (32, .ls 0 0 1 1)], [([.io IntKind.u8 (↑y.toNat : Int)], 5)]⟩ (by kernel_rfl) (by kernel_rfl) ?_
            refine At.app (83) (5) (1) (1) (A1) (n1) (c1) (1) ([.io IntKind.u8 (↑y.toNat : Int)]) _ _ _ _ ([.int IntKind.u8 (↑y.toNat : Int)]) (by kernel_rfl) (fun ρ => by kernel_rfl) (by first | omega | (simp only [Go.maxLen]; omega)) (by first | omega | (simp only [Go.maxLen]; omega)) (by first | omega | (simp only [Go.maxLen]; omega)) fun A4 c4 => ?_
            refine At.toJ (RowF.stable) RowF.fewer 0 300 [0, 3, 4] 0 ⟨.exit .normal, [.next (Sx.Next w.heap.size w Tryd.f45.ntmps (frQR k) locQ (GQR w k R) (muQ k) (QSt.mk i A1 n1 c1 acc)), .block 0, .seq (sub B45 [1, 1, 1])], [(0, .so (mkB k)), (3, .sl A4 (n1 + 1) c4), (4, .io .i64 (IntKind.i64.wrap ((↑i : Int) + 1)))], []⟩ (by kernel_rfl) (by kernel_rfl) ?_
            have hpl : plainC y = true := by
              simp only [plainC, Bool.and_eq_true, decide_eq_true_eq]
              have h32 := of_decide_eq_true b0
              have h126 := of_decide_eq_true b1
              simp at b2 b3
              refine ⟨by omega, by omega, by omega, by omega⟩
            have hq1 : q1 y = [y] := by unfold q1; rw [hpl]; rfl

            have hw3 : IntKind.i64.wrap ((i : Int) + 1) = ((i + 1 : Nat) : Int) := by
              rw [wrap63 (by omega) (by omega)]
              omega
            rw [hw3]
            refine At.next (σ := QSt) ⟨i + 1, A4, n1 + 1, c4, acc ++ [y]⟩ rfl rfl (by unfold subFr; kernel_rfl) (by kernel_rfl) ?_ ?_
            · intro ρ a' w' hi' hf
              exact ⟨by rw [bw_app]; exact hf, by simp only; omega, by rw [← h2, hq1]; simp, by simp only [List.length_append, List.length_singleton]; omega, by simp only; omega⟩
            · simp only [muQ]
              omega
          · refine At.res 29 ((↑y.toNat : Int) != 92) false (by kernel_rfl) b3 ?_
            refine At.toJ (RowF.stable) RowF.fewer 0 300 [0, 4, 5, 34, 36] 0 ⟨pops B45 [1, 1, 0, 1, 4, 4, 1, 0, 4, 1, 1, 3] 3, [.block 1, .seq (sub B45 [1, 1, 0, 1, 4, 4, 1, 1]), .next (Sx.Next w.heap.size w Tryd.f45.ntmps (frQR k) locQ (GQR w k R) (muQ k) (QSt.mk i A1 n1 c1 acc)), .block 0, .seq (sub B45 [1, 1, 1])], [(0, .so (mkB k)), (4, .io .i64 (↑i : Int)), (5, .io IntKind.u8 (↑y.toNat : Int)), (34, .sl A1 n1 c1), (36, .io IntKind.u8 (IntKind.u8.wrap ((↑y.toNat : Int).tdiv 16)))], []⟩ (by kernel_rfl) (by kernel_rfl) ?_
            have hpl : plainC y = false := by
              simp only [plainC]
              first | (have := of_decide_eq_false b0; rw [decide_eq_false (p := 32 ≤ y.toNat) (by omega)]; rfl) | (have := of_decide_eq_false b1; rw [decide_eq_false (p := y.toNat ≤ 126) (by omega), Bool.false_and, Bool.and_false]) | (rw [decide_eq_false (p := y.toNat ≠ 34) (by simp at b2 ⊢; omega), Bool.false_and, Bool.and_false, Bool.and_false]) | (rw [decide_eq_false (p := y.toNat ≠ 92) (by simp at b3 ⊢; omega), Bool.and_false, Bool.and_false, Bool.and_false])
            have hq1 : q1 y = [92, 120, hexB (y.toNat / 16), hexB (y.toNat % 16)] := by unfold q1; rw [hpl]; rfl
            rw [div16 y]
            refine At.call RowF.stable 69 [.io .u8 ((y.toNat / 16 : Nat) : Int)] (.io .u8 ((hexB (y.toNat / 16)).toNat : Int)) (by kernel_rfl) (by kernel_rfl) (by kernel_rfl) (fun _ _ w1 _ _ => hex_any (by omega) w1) ?_
            refine At.toJ (RowF.stable) RowF.fewer 0 300 [0, 4, 34, 37, 39] 0 ⟨pops B45 [1, 1, 0, 1, 4, 4, 1, 0, 4, 1, 1, 3] 6, [.block 1, .seq (sub B45 [1, 1, 0, 1, 4, 4, 1, 1]), .next (Sx.Next w.heap.size w Tryd.f45.ntmps (frQR k) locQ (GQR w k R) (muQ k) (QSt.mk i A1 n1 c1 acc)), .block 0, .seq (sub B45 [1, 1, 1])], [(0, .so (mkB k)), (4, .io .i64 (↑i : Int)), (34, .sl A1 n1 c1), (37, .io IntKind.u8 (↑(hexB (y.toNat / 16)).toNat : Int)), (39, .io IntKind.u8 ((↑y.toNat : Int).tmod 16))], []⟩ (by kernel_rfl) (by kernel_rfl) ?_
            rw [mod16 y]
            refine At.call RowF.stable 69 [.io .u8 ((y.toNat % 16 : Nat) : Int)] (.io .u8 ((hexB (y.toNat % 16)).toNat : Int)) (by kernel_rfl) (by kernel_rfl) (by kernel_rfl) (fun _ _ w1 _ _ => hex_any (by omega) w1) ?_
            refine At.toJ (RowF.stable) RowF.fewer 0 300 [0, 4, 34, 41] 1 ⟨pops B45 [1, 1, 0, 1, 4, 4, 1, 0, 4, 1, 1, 3] 8, [.block 1, .seq (sub B45 [1, 1, 0, 1, 4, 4, 1, 1]), .next (Sx.Next w.heap.size w Tryd.f45.ntmps (frQR k) locQ (GQR w k R) (muQ k) (QSt.mk i A1 n1 c1 acc)), .block 0, .seq (sub B45 [1, 1, 1])], [(0, .so (mkB k)), (4, .io .i64 (↑i : Int)), (34, .sl A1 n1 c1), (41, .ls 0 0 4 4)], [([.v (.int IntKind.u8 92), .v (.int IntKind.u8 120), .io IntKind.u8 (↑(hexB (y.toNat / 16)).toNat : Int), .io IntKind.u8 (↑(hexB (y.toNat % 16)).toNat : Int)], 5)]⟩ (by kernel_rfl) (by kernel_rfl) ?_
            refine At.app (83) (5) (1) (1) (A1) (n1) (c1) (4) ([.v (.int IntKind.u8 92), .v (.int IntKind.u8 120), .io IntKind.u8 (↑(hexB (y.toNat / 16)).toNat : Int), .io IntKind.u8 (↑(hexB (y.toNat % 16)).toNat : Int)]) _ _ _ _ ([.int IntKind.u8 92, .int IntKind.u8 120, .int IntKind.u8 (↑(hexB (y.toNat / 16)).toNat : Int), .int IntKind.u8 (↑(hexB (y.toNat % 16)).toNat : Int)]) (by kernel_rfl) (fun ρ => by kernel_rfl) (by first | omega | (simp only [Go.maxLen]; omega)) (by first | omega | (simp only [Go.maxLen]; omega)) (by first | omega | (simp only [Go.maxLen]; omega)) fun A0 c0 => ?_
            refine At.toJ (RowF.stable) RowF.fewer 0 300 [0, 3, 4] 0 ⟨.exit .normal, [.next (Sx.Next w.heap.size w Tryd.f45.ntmps (frQR k) locQ (GQR w k R) (muQ k) (QSt.mk i A1 n1 c1 acc)), .block 0, .seq (sub B45 [1, 1, 1])], [(0, .so (mkB k)), (3, .sl A0 (n1 + 4) c0), (4, .io .i64 (IntKind.i64.wrap ((↑i : Int) + 1)))], []⟩ (by kernel_rfl) (by kernel_rfl) ?_
            have hw3 : IntKind.i64.wrap ((i : Int) + 1) = ((i + 1 : Nat) : Int) := by
              rw [wrap63 (by omega) (by omega)]
              omega
            rw [hw3]
            refine At.next (σ := QSt) ⟨i + 1, A0, n1 + 4, c0, acc ++ q1 y⟩ rfl rfl (by unfold subFr; kernel_rfl) (by kernel_rfl) ?_ ?_
            · intro ρ a' w' hi' hf
              exact ⟨by rw [hq1, bw_app]; exact hf, by simp only; omega, by rw [← h2]; simp, by rw [hq1]; simp only [List.length_append, List.length_cons, List.length_nil]; omega, by simp only; omega⟩
            · simp only [muQ]
              omega
        · refine At.res 26 ((↑y.toNat : Int) != 34) false (by kernel_rfl) b2 ?_
          refine At.toJ (RowF.stable) RowF.fewer 0 300 [0, 4, 5, 34, 36] 0 ⟨pops B45 [1, 1, 0, 1, 4, 4, 1, 0, 4, 1, 1, 3] 3, [.block 1, .seq (sub B45 [1, 1, 0, 1, 4, 4, 1, 1]), .next (Sx.Next w.heap.size w Tryd.f45.ntmps (frQR k) locQ (GQR w k R) (muQ k) (QSt.mk i A1 n1 c1 acc)), .block 0, .seq (sub B45 [1, 1, 1])], [(0, .so (mkB k)), (4, .io .i64 (↑i : Int)), (5, .io IntKind.u8 (↑y.toNat : Int)), (34, .sl A1 n1 c1), (36, .io IntKind.u8 (IntKind.u8.wrap ((↑y.toNat : Int).tdiv 16)))], []⟩ (by kernel_rfl) (by kernel_rfl) ?_
          have hpl : plainC y = false := by
            simp only [plainC]
            first | (have := of_decide_eq_false b0; rw [decide_eq_false (p := 32 ≤ y.toNat) (by omega)]; rfl) | (have := of_decide_eq_false b1; rw [decide_eq_false (p := y.toNat ≤ 126) (by omega), Bool.false_and, Bool.and_false]) | (rw [decide_eq_false (p := y.toNat ≠ 34) (by simp at b2 ⊢; omega), Bool.false_and, Bool.and_false, Bool.and_false]) | (rw [decide_eq_false (p := y.toNat ≠ 92) (by simp at b3 ⊢; omega), Bool.and_false, Bool.and_false, Bool.and_false])
          have hq1 : q1 y = [92, 120, hexB (y.toNat / 16), hexB (y.toNat % 16)] := by unfold q1; rw [hpl]; rfl
          rw [div16 y]
          refine At.call RowF.stable 69 [.io .u8 ((y.toNat / 16 : Nat) : Int)] (.io .u8 ((hexB (y.toNat / 16)).toNat : Int)) (by kernel_rfl) (by kernel_rfl) (by kernel_rfl) (fun _ _ w1 _ _ => hex_any (by omega) w1) ?_
          refine At.toJ (RowF.stable) RowF.fewer 0 300 [0, 4, 34, 37, 39] 0 ⟨pops B45 [1, 1, 0, 1, 4, 4, 1, 0, 4, 1, 1, 3] 6, [.block 1, .seq (sub B45 [1, 1, 0, 1, 4, 4, 1, 1]), .next (Sx.Next w.heap.size w Tryd.f45.ntmps (frQR k) locQ (GQR w k R) (muQ k) (QSt.mk i A1 n1 c1 acc)), .block 0, .seq (sub B45 [1, 1, 1])], [(0, .so (mkB k)), (4, .io .i64 (↑i : Int)), (34, .sl A1 n1 c1), (37, .io IntKind.u8 (↑(hexB (y.toNat / 16)).toNat : Int)), (39, .io IntKind.u8 ((↑y.toNat : Int).tmod 16))], []⟩ (by kernel_rfl) (by kernel_rfl) ?_
          rw [mod16 y]
          refine At.call RowF.stable 69 [.io .u8 ((y.toNat % 16 : Nat) : Int)] (.io .u8 ((hexB (y.toNat % 16)).toNat : Int)) (by kernel_rfl) (by kernel_rfl) (by kernel_rfl) (fun _ _ w1 _ _ => hex_any (by omega) w1) ?_
          refine At.toJ (RowF.stable) RowF.fewer 0 300 [0, 4, 34, 41] 1 ⟨pops B45 [1, 1, 0, 1, 4, 4, 1, 0, 4, 1, 1, 3] 8, [.block 1, .seq (sub B45 [1, 1, 0, 1, 4, 4, 1, 1]), .next (Sx.Next w.heap.size w Tryd.f45.ntmps (frQR k) locQ (GQR w k R) (muQ k) (QSt.mk i A1 n1 c1 acc)), .block 0, .seq (sub B45 [1, 1, 1])], [(0, .so (mkB k)), (4, .io .i64 (↑i : Int)), (34, .sl A1 n1 c1), (41, .ls 0 0 4 4)], [([.v (.int IntKind.u8 92), .v (.int IntKind.u8 120), .io IntKind.u8 (↑(hexB (y.toNat / 16)).toNat : Int), .io IntKind.u8 (↑(hexB (y.toNat % 16)).toNat : Int)], 5)]⟩ (by kernel_rfl) (by kernel_rfl) ?_
          refine At.app (83) (5) (1) (1) (A1) (n1) (c1) (4) ([.v (.int IntKind.u8 92), .v (.int IntKind.u8 120), .io IntKind.u8 (↑(hexB (y.toNat / 16)).toNat : Int), .io IntKind.u8 (↑(hexB (y.toNat % 16)).toNat : Int)]) _ _ _ _ ([.int IntKind.u8 92, .int IntKind.u8 120, .int IntKind.u8 (↑(hexB (y.toNat / 16)).toNat : Int), .int IntKind.u8 (↑(hexB (y.toNat % 16)).toNat : Int)]) (by kernel_rfl) (fun ρ => by kernel_rfl) (by first | omega | (simp only [Go.maxLen]; omega)) (by first | omega | (simp only [Go.maxLen]; omega)) (by first | omega | (simp only [Go.maxLen]; omega)) fun A0 c0 => ?_
          refine At.toJ (RowF.stable) RowF.fewer 0 300 [0, 3, 4] 0 ⟨.exit .normal, [.next (Sx.Next w.heap.size w Tryd.f45.ntmps (frQR k) locQ (GQR w k R) (muQ k) (QSt.mk i A1 n1 c1 acc)), .block 0, .seq (sub B45 [1, 1, 1])], [(0, .so (mkB k)), (3, .sl A0 (n1 + 4) c0), (4, .io .i64 (IntKind.i64.wrap ((↑i : Int) + 1)))], []⟩ (by kernel_rfl) (by kernel_rfl) ?_
          have hw3 : IntKind.i64.wrap ((i : Int) + 1) = ((i + 1 : Nat) : Int) := by
            rw [wrap63 (by omega) (by omega)]
            omega
          rw [hw3]
          refine At.next (σ := QSt) ⟨i + 1, A0, n1 + 4, c0, acc ++ q1 y⟩ rfl rfl (by unfold subFr; kernel_rfl) (by kernel_rfl) ?_ ?_
          · intro ρ a' w' hi' hf
            exact ⟨by rw [hq1, bw_app]; exact hf, by simp only; omega, by rw [← h2]; simp, by rw [hq1]; simp only [List.length_append, List.length_cons, List.length_nil]; omega, by simp only; omega⟩
          · simp only [muQ]
            omega
      · refine At.res 22 (decide ((↑y.toNat : Int) ≤ 126)) false (by kernel_rfl) b1 ?_
        refine At.toJ (RowF.stable) RowF.fewer 0 300 [0, 4, 5, 34, 36] 0 ⟨pops B45 [1, 1, 0, 1, 4, 4, 1, 0, 4, 1, 1, 3] 3, [.block 1, .seq (sub B45 [1, 1, 0, 1, 4, 4, 1, 1]), .next (Sx.Next w.heap.size w Tryd.f45.ntmps (frQR k) locQ (GQR w k R) (muQ k) (QSt.mk i A1 n1 c1 acc)), .block 0, .seq (sub B45 [1, 1, 1])], [(0, .so (mkB k)), (4, .io .i64 (↑i : Int)), (5, .io IntKind.u8 (↑y.toNat : Int)), (34, .sl A1 n1 c1), (36, .io IntKind.u8 (IntKind.u8.wrap ((↑y.toNat : Int).tdiv 16)))], []⟩ (by kernel_rfl) (by kernel_rfl) ?_
        have hpl : plainC y = false := by
          simp only [plainC]
          first | (have := of_decide_eq_false b0; rw [decide_eq_false (p := 32 ≤ y.toNat) (by omega)]; rfl) | (have := of_decide_eq_false b1; rw [decide_eq_false (p := y.toNat ≤ 126) (by omega), Bool.false_and, Bool.and_false]) | (rw [decide_eq_false (p := y.toNat ≠ 34) (by simp at b2 ⊢; omega), Bool.false_and, Bool.and_false, Bool.and_false]) | (rw [decide_eq_false (p := y.toNat ≠ 92) (by simp at b3 ⊢; omega), Bool.and_false, Bool.and_false, Bool.and_false])
        have hq1 : q1 y = [92, 120, hexB (y.toNat / 16), hexB (y.toNat % 16)] := by unfold q1; rw [hpl]; rfl
        rw [div16 y]
        refine At.call RowF.stable 69 [.io .u8 ((y.toNat / 16 : Nat) : Int)] (.io .u8 ((hexB (y.toNat / 16)).toNat : Int)) (by kernel_rfl) (by kernel_rfl) (by kernel_rfl) (fun _ _ w1 _ _ => hex_any (by omega) w1) ?_
        refine At.toJ (RowF.stable) RowF.fewer 0 300 [0, 4, 34, 37, 39] 0 ⟨pops B45 [1, 1, 0, 1, 4, 4, 1, 0, 4, 1, 1, 3] 6, [.block 1, .seq (sub B45 [1, 1, 0, 1, 4, 4, 1, 1]), .next (Sx.Next w.heap.size w Tryd.f45.ntmps (frQR k) locQ (GQR w k R) (muQ k) (QSt.mk i A1 n1 c1 acc)), .block 0, .seq (sub B45 [1, 1, 1])], [(0, .so (mkB k)), (4, .io .i64 (↑i : Int)), (34, .sl A1 n1 c1), (37, .io IntKind.u8 (↑(hexB (y.toNat / 16)).toNat : Int)), (39, .io IntKind.u8 ((↑y.toNat : Int).tmod 16))], []⟩ (by kernel_rfl) (by kernel_rfl) ?_
        rw [mod16 y]
        refine At.call RowF.stable 69 [.io .u8 ((y.toNat % 16 : Nat) : Int)] (.io .u8 ((hexB (y.toNat % 16)).toNat : Int)) (by kernel_rfl) (by kernel_rfl) (by kernel_rfl) (fun _ _ w1 _ _ => hex_any (by omega) w1) ?_
        refine At.toJ (RowF.stable) RowF.fewer 0 300 [0, 4, 34, 41] 1 ⟨pops B45 [1, 1, 0, 1, 4, 4, 1, 0, 4, 1, 1, 3] 8, [.block 1, .seq (sub B45 [1, 1, 0, 1, 4, 4, 1, 1]), .next (Sx.Next w.heap.size w Tryd.f45.ntmps (frQR k) locQ (GQR w k R) (muQ k) (QSt.mk i A1 n1 c1 acc)), .block 0, .seq (sub B45 [1, 1, 1])], [(0, .so (mkB k)), (4, .io .i64 (↑i : Int)), (34, .sl A1 n1 c1), (41, .ls 0 0 4 4)], [([.v (.int IntKind.u8 92), .v (.int IntKind.u8 120), .io IntKind.u8 (↑(hexB (y.toNat / 16)).toNat : Int), .io IntKind.u8 (↑(hexB (y.toNat % 16)).toNat : Int)], 5)]⟩ (by kernel_rfl) (by kernel_rfl) ?_
        refine At.app (83) (5) (1) (1) (A1) (n1) (c1) (4) ([.v (.int IntKind.u8 92), .v (.int IntKind.u8 120), .io IntKind.u8 (↑(hexB (y.toNat / 16)).toNat : Int), .io IntKind.u8 (↑(hexB (y.toNat % 16)).toNat : Int)]) _ _ _ _ ([.int IntKind.u8 92, .int IntKind.u8 120, .int IntKind.u8 (↑(hexB (y.toNat / 16)).toNat : Int), .int IntKind.u8 (↑(hexB (y.toNat % 16)).toNat : Int)]) (by kernel_rfl) (fun ρ => by kernel_rfl) (by first | omega | (simp only [Go.maxLen]; omega)) (by first | omega | (simp only [Go.maxLen]; omega)) (by first | omega | (simp only [Go.maxLen]; omega)) fun A0 c0 => ?_
        refine At.toJ (RowF.stable) RowF.fewer 0 300 [0, 3, 4] 0 ⟨.exit .normal, [.next (Sx.Next w.heap.size w Tryd.f45.ntmps (frQR k) locQ (GQR w k R) (muQ k) (QSt.mk i A1 n1 c1 acc)), .block 0, .seq (sub B45 [1, 1, 1])], [(0, .so (mkB k)), (3, .sl A0 (n1 + 4) c0), (4, .io .i64 (IntKind.i64.wrap ((↑i : Int) + 1)))], []⟩ (by kernel_rfl) (by kernel_rfl) ?_
        have hw3 : IntKind.i64.wrap ((i : Int) + 1) = ((i + 1 : Nat) : Int) := by
          rw [wrap63 (by omega) (by omega)]
          omega
        rw [hw3]
        refine At.next (σ := QSt) ⟨i + 1, A0, n1 + 4, c0, acc ++ q1 y⟩ rfl rfl (by unfold subFr; kernel_rfl) (by kernel_rfl) ?_ ?_
        · intro ρ a' w' hi' hf
          exact ⟨by rw [hq1, bw_app]; exact hf, by simp only; omega, by rw [← h2]; simp, by rw [hq1]; simp only [List.length_append, List.length_cons, List.length_nil]; omega, by simp only; omega⟩
        · simp only [muQ]
          omega
    · refine At.res 18 (decide ((↑y.toNat : Int) ≥ 32)) false (by kernel_rfl) b0 ?_
      refine At.toJ (RowF.stable) RowF.fewer 0 300 [0, 4, 5, 34, 36] 0 ⟨pops B45 [1, 1, 0, 1, 4, 4, 1, 0, 4, 1, 1, 3] 3, [.block 1, .seq (sub B45 [1, 1, 0, 1, 4, 4, 1, 1]), .next (Sx.Next w.heap.size w Tryd.f45.ntmps (frQR k) locQ (GQR w k R) (muQ k) (QSt.mk i A1 n1 c1 acc)), .block 0, .seq (sub B45 [1, 1, 1])], [(0, .so (mkB k)), (4, .io .i64 (↑i : Int)), (5, .io IntKind.u8 (↑y.toNat : Int)), (34, .sl A1 n1 c1), (36, .io IntKind.u8 (IntKind.u8.wrap ((↑y.toNat : Int).tdiv 16)))], []⟩ (by kernel_rfl) (by kernel_rfl) ?_
      have hpl : plainC y = false := by
        simp only [plainC]
        first | (have := of_decide_eq_false b0; rw [decide_eq_false (p := 32 ≤ y.toNat) (by omega)]; rfl) | (have := of_decide_eq_false b1; rw [decide_eq_false (p := y.toNat ≤ 126) (by omega), Bool.false_and, Bool.and_false]) | (rw [decide_eq_false (p := y.toNat ≠ 34) (by simp at b2 ⊢; omega), Bool.false_and, Bool.and_false, Bool.and_false]) | (rw [decide_eq_false (p := y.toNat ≠ 92) (by simp at b3 ⊢; omega), Bool.and_false, Bool.and_false, Bool.and_false])
      have hq1 : q1 y = [92, 120, hexB (y.toNat / 16), hexB (y.toNat % 16)] := by unfold q1; rw [hpl]; rfl
      rw [div16 y]
      refine At.call RowF.stable 69 [.io .u8 ((y.toNat / 16 : Nat) : Int)] (.io .u8 ((hexB (y.toNat / 16)).toNat : Int)) (by kernel_rfl) (by kernel_rfl) (by kernel_rfl) (fun _ _ w1 _ _ => hex_any (by omega) w1) ?_
      refine At.toJ (RowF.stable) RowF.fewer 0 300 [0, 4, 34, 37, 39] 0 ⟨pops B45 [1, 1, 0, 1, 4, 4, 1, 0, 4, 1, 1, 3] 6, [.block 1, .seq (sub B45 [1, 1, 0, 1, 4, 4, 1, 1]), .next (Sx.Next w.heap.size w Tryd.f45.ntmps (frQR k) locQ (GQR w k R) (muQ k) (QSt.mk i A1 n1 c1 acc)), .block 0, .seq (sub B45 [1, 1, 1])], [(0, .so (mkB k)), (4, .io .i64 (↑i : Int)), (34, .sl A1 n1 c1), (37, .io IntKind.u8 (↑(hexB (y.toNat / 16)).toNat : Int)), (39, .io IntKind.u8 ((↑y.toNat : Int).tmod 16))], []⟩ (by kernel_rfl) (by kernel_rfl) ?_
      rw [mod16 y]
      refine At.call RowF.stable 69 [.io .u8 ((y.toNat % 16 : Nat) : Int)] (.io .u8 ((hexB (y.toNat % 16)).toNat : Int)) (by kernel_rfl) (by kernel_rfl) (by kernel_rfl) (fun _ _ w1 _ _ => hex_any (by omega) w1) ?_
      refine At.toJ (RowF.stable) RowF.fewer 0 300 [0, 4, 34, 41] 1 ⟨pops B45 [1, 1, 0, 1, 4, 4, 1, 0, 4, 1, 1, 3] 8, [.block 1, .seq (sub B45 [1, 1, 0, 1, 4, 4, 1, 1]), .next (Sx.Next w.heap.size w Tryd.f45.ntmps (frQR k) locQ (GQR w k R) (muQ k) (QSt.mk i A1 n1 c1 acc)), .block 0, .seq (sub B45 [1, 1, 1])], [(0, .so (mkB k)), (4, .io .i64 (↑i : Int)), (34, .sl A1 n1 c1), (41, .ls 0 0 4 4)], [([.v (.int IntKind.u8 92), .v (.int IntKind.u8 120), .io IntKind.u8 (↑(hexB (y.toNat / 16)).toNat : Int), .io IntKind.u8 (↑(hexB (y.toNat % 16)).toNat : Int)], 5)]⟩ (by kernel_rfl) (by kernel_rfl) ?_
      refine At.app (83) (5) (1) (1) (A1) (n1) (c1) (4) ([.v (.int IntKind.u8 92), .v (.int IntKind.u8 120), .io IntKind.u8 (↑(hexB (y.toNat / 16)).toNat : Int), .io IntKind.u8 (↑(hexB (y.toNat % 16)).toNat : Int)]) _ _ _ _ ([.int IntKind.u8 92, .int IntKind.u8 120, .int IntKind.u8 (↑(hexB (y.toNat / 16)).toNat : Int), .int IntKind.u8 (↑(hexB (y.toNat % 16)).toNat : Int)]) (by kernel_rfl) (fun ρ => by kernel_rfl) (by first | omega | (simp only [Go.maxLen]; omega)) (by first | omega | (simp only [Go.maxLen]; omega)) (by first | omega | (simp only [Go.maxLen]; omega)) fun A0 c0 => ?_
      refine At.toJ (RowF.stable) RowF.fewer 0 300 [0, 3, 4] 0 ⟨.exit .normal, [.next (Sx.Next w.heap.size w Tryd.f45.ntmps (frQR k) locQ (GQR w k R) (muQ k) (QSt.mk i A1 n1 c1 acc)), .block 0, .seq (sub B45 [1, 1, 1])], [(0, .so (mkB k)), (3, .sl A0 (n1 + 4) c0), (4, .io .i64 (IntKind.i64.wrap ((↑i : Int) + 1)))], []⟩ (by kernel_rfl) (by kernel_rfl) ?_
      have hw3 : IntKind.i64.wrap ((i : Int) + 1) = ((i + 1 : Nat) : Int) := by
        rw [wrap63 (by omega) (by omega)]
        omega
      rw [hw3]
      refine At.next (σ := QSt) ⟨i + 1, A0, n1 + 4, c0, acc ++ q1 y⟩ rfl rfl (by unfold subFr; kernel_rfl) (by kernel_rfl) ?_ ?_
      · intro ρ a' w' hi' hf
        exact ⟨by rw [hq1, bw_app]; exact hf, by simp only; omega, by rw [← h2]; simp, by rw [hq1]; simp only [List.length_append, List.length_cons, List.length_nil]; omega, by simp only; omega⟩
      · simp only [muQ]
        omega
  · refine At.res 10 (decide ((↑i : Int) < (↑(mkB k).size : Int))) false (by kernel_rfl) b0 ?_
    refine At.toJ (RowF.stable) RowF.fewer 0 300 [43, 44] 1 ⟨pops B45 [1, 1, 1, 0] 2, [.seq (sub B45 [1, 1, 1, 1])], [(43, .sl A1 n1 c1), (44, .ls 0 0 1 1)], [([.v (.int IntKind.u8 34)], 5)]⟩ (by kernel_rfl) (by kernel_rfl) ?_
    refine At.app (83) (5) (1) (1) (A1) (n1) (c1) (1) ([.v (.int IntKind.u8 34)]) _ _ _ _ ([.int IntKind.u8 34]) (by kernel_rfl) (fun ρ => by kernel_rfl) (by first | omega | (simp only [Go.maxLen]; omega)) (by first | omega | (simp only [Go.maxLen]; omega)) (by first | omega | (simp only [Go.maxLen]; omega)) fun A1 c1 => ?_
    refine At.toJ (RowF.stable) RowF.fewer 0 300 [45] 0 ⟨pops B45 [1, 1, 1, 0] 3, [.seq (sub B45 [1, 1, 1, 1])], [(45, .sl A1 (n1 + 1) c1)], []⟩ (by kernel_rfl) (by kernel_rfl) ?_
    have hi : ¬ (i : Int) < ((mkB k).size : Int) := of_decide_eq_false b0
    rw [mkB_size] at hi
    have hd : k.drop i = [] := List.drop_eq_nil_of_le (by omega)
    rw [hd, List.flatMap_nil, List.nil_append] at h2
    refine At.mono (F' := RowF w (fun _ => False) [] w.heap.size 5 1 A1 (n1 + 1) c1 (bw (acc ++ [34]))) (fun ρ w1 h => by rw [bw_app]; exact h) ?_
    refine At.cvy A1 (n1 + 1) c1 ((acc ++ [34]).map UInt8.toNat) (.so (mkB (acc ++ [34]))) (by kernel_rfl) RowF.stable (fun ρ => by rw [strOf_map]; rfl) (fun ρ w1 hm hf => row_cw hf.1.1) ?_
    refine At.toJ (RowF.stable) RowF.fewer 0 300 [2] 0 ⟨.exit .ret, [], [(2, .so (mkB (acc ++ [34])))], []⟩ (by kernel_rfl) (by kernel_rfl) ?_
    refine At.ret (by kernel_rfl) (.so (mkB (acc ++ [34]))) (by kernel_rfl) ?_
    intro ρ w9 hm hf
    exact ⟨by rw [← h2]; rfl, hm.below⟩

end Go.Proofs.YtkjnbafdmjakgaaDoor
