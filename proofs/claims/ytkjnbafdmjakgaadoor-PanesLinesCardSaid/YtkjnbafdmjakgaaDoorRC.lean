import Derived.Test.YtkjnbafdmjakgaaDoorRB
set_option linter.unusedSimpArgs false
set_option linter.unusedVariables false
namespace Go.Proofs.YtkjnbafdmjakgaaDoor
open Go.RowKit Go.Sx

theorem numR_no {c : UInt8} {r : List UInt8} (hc : c ≠ 45) (h : c :: r = [] ∨ 20 < (c :: r).length) : numR (c :: r) = none := by
  unfold numR
  split
  · rename_i r' e
    injection e with e _
    exact absurd e hc
  · rw [if_pos h]
theorem numR_yes {c : UInt8} {r : List UInt8} (hc : c ≠ 45) (h : ¬ 20 < (c :: r).length) : numR (c :: r) = numEnd false (c :: r) (numGo 0 ((c :: r).drop 0)) := by
  unfold numR
  split
  · rename_i r' e
    injection e with e _
    exact absurd e hc
  · rw [if_neg (by rw [not_or]; exact ⟨by simp, h⟩)]
    rfl
structure NSt where
  i : Nat
  n : Nat
def frN (s : List UInt8) (fm : Int) : NSt → Fr
  | ⟨i, n⟩ => [(0, .so (mkB s)), (4, .io .u64 (n : Int)), (5, .io .i64 fm), (6, .io .i64 (i : Int))]
def locN (_ : NSt) : Sx.Loc := []
def GN (s : List UInt8) (fm : Nat) (R : Option Nat) (x : NSt) (ρ : List Nat) (w : World) : Prop := noF ρ w ∧ (fm ≤ x.i ∧ x.i ≤ s.length ∧ numGo x.n (s.drop x.i) = R ∧ x.n < 18446744073709551616)
def muN (s : List UInt8) (x : NSt) : Nat := s.length - x.i
theorem stepN {n y : Nat} (h1 : 48 ≤ y) (h2 : y ≤ 57) (h3 : n ≤ 922337203685477580) : IntKind.u64.wrap (IntKind.u64.wrap ((n : Int) * 10) + IntKind.u64.wrap (IntKind.u8.wrap ((y : Int) - 48))) = ((n * 10 + (y - 48) : Nat) : Int) := by
  simp only [IntKind.wrap, IntKind.bits, IntKind.signed]
  simp
  omega
theorem negw (n : Nat) : IntKind.i64.wrap (0 - (n : Int)) = IntKind.i64.wrap (0 - IntKind.i64.wrap (n : Int)) := by
  simp only [IntKind.wrap, IntKind.bits, IntKind.signed]
  simp
  omega
theorem strB (x y : List UInt8) : ((mkB x).toList == (mkB y).toList) = decide (x = y) := by
  rw [ByteArray.toList_eq, ByteArray.toList_eq, Bool.eq_iff_iff, beq_iff_eq, decide_eq_true_eq]
  exact ⟨fun h => by simpa [mkB] using h, fun h => by rw [h]⟩
def numV : Option Int → Value
  | some x => .tuple #[.int .i64 x, .bool true]
  | none => .tuple #[.int .i64 0, .bool false]

noncomputable def B37 : Code := (Tryd.f37.body).getD .skip
set_option maxHeartbeats 20000000 in
set_option maxRecDepth 100000 in
theorem rnumber_any (s : List UInt8) (hs : s.length ≤ 1048576) (w : World) :
    Calls Tryd.prog 37 #[.string (mkB s)] w fun e w' => e = .returned (numV (numR s)) ∧ Below w.heap.size w w' := by
  match s, hs with
  | [], hs =>
    refine enter (fn := Tryd.f37) (c := B37) [.so (mkB [])] Tryd.func37 rfl rfl ?_
    refine At.to (noF_stable) (noF_fewer) 20 300 [0, 4, 5, 10] 0 ⟨pops B37 [1, 1, 1, 0, 0] 3, [.seq (sub B37 [1, 1, 1, 0, 1]), .seq (sub B37 [1, 1, 1, 1])], [(0, .so (mkB [])), (4, .v (.int IntKind.u64 0)), (5, .v (.int .i64 0)), (10, .bo false)], []⟩ (by kernel_rfl) (by kernel_rfl) ?_
    refine At.res 10 (false) false (by kernel_rfl) (by first | assumption | (simp only [*]; done) | (simp [*]; done)) ?_
    refine At.to (noF_stable) (noF_fewer) 20 300 [0, 4, 5, 19] 0 ⟨pops B37 [1, 1, 1, 1, 0, 0] 5, [.seq (sub B37 [1, 1, 1, 1, 0, 1]), .seq (sub B37 [1, 1, 1, 1, 1])], [(0, .so (mkB [])), (4, .v (.int IntKind.u64 0)), (5, .v (.int .i64 0)), (19, .bo true)], []⟩ (by kernel_rfl) (by kernel_rfl) ?_
    refine At.res 19 (true) true (by kernel_rfl) (by first | assumption | (simp only [*]; done) | (simp [*]; done)) ?_
    refine At.to (noF_stable) (noF_fewer) 20 300 [2, 3] 0 ⟨.exit .ret, [], [(2, .v (.int .i64 0)), (3, .v (.bool false))], []⟩ (by kernel_rfl) (by kernel_rfl) ?_
    refine At.ret (by kernel_rfl) (.tup [.v (.int .i64 0), .v (.bool false)]) (by kernel_rfl) ?_
    intro ρ w9 hm hf
    exact ⟨rfl, hm.below⟩
  | c :: r, hs =>
    by_cases hc : c = 45
    · subst hc
      have en : (!(mkB (45 :: r)).toList == (ByteArray.mk #[]).toList) = true := by rw [ByteArray.toList_eq, ByteArray.toList_eq]; rfl
      have e45 : (((45 : UInt8).toNat : Int) == 45) = true := by decide
      refine enter (fn := Tryd.f37) (c := B37) [.so (mkB (45 :: r))] Tryd.func37 rfl rfl ?_
      refine At.to (noF_stable) (noF_fewer) 0 300 [0, 4, 5, 10] 0 ⟨pops B37 [1, 1, 1, 0, 0] 3, [.seq (sub B37 [1, 1, 1, 0, 1]), .seq (sub B37 [1, 1, 1, 1])], [(0, .so (mkB (45 :: r))), (4, .v (.int IntKind.u64 0)), (5, .v (.int .i64 0)), (10, .bo !(mkB (45 :: r)).toList == (ByteArray.mk #[]).toList)], []⟩ (by kernel_rfl) (by kernel_rfl) ?_
      refine At.res 10 (!(mkB (45 :: r)).toList == (ByteArray.mk #[]).toList) true (by kernel_rfl) en ?_
      refine At.to (noF_stable) (noF_fewer) 0 300 [0, 4, 5, 10, 11] 0 ⟨pops B37 [1, 1, 1, 0, 0] 4, [.seq (sub B37 [1, 1, 1, 0, 1]), .seq (sub B37 [1, 1, 1, 1])], [(0, .so (mkB (45 :: r))), (4, .v (.int IntKind.u64 0)), (5, .v (.int .i64 0)), (10, .v (.bool true)), (11, .so (mkB (45 :: r)))], []⟩ (by kernel_rfl) (by kernel_rfl) ?_
      refine At.six (mkB (45 :: r)) 0 45 (by kernel_rfl) (by omega) rfl noF_stable ?_
      refine At.to (noF_stable) (noF_fewer) 0 300 [0, 4, 5, 14] 0 ⟨.code (sub B37 [1, 1, 1, 0, 1]), [.seq (sub B37 [1, 1, 1, 1])], [(0, .so (mkB (45 :: r))), (4, .v (.int IntKind.u64 0)), (5, .v (.int .i64 0)), (14, .bo true)], []⟩ (by kernel_rfl) (by kernel_rfl) ?_
      refine At.res 14 (true) true (by kernel_rfl) (by first | assumption | (simp only [*]; done) | (simp [*]; done)) ?_
      refine At.to (noF_stable) (noF_fewer) 0 300 [0, 4, 5, 19] 0 ⟨pops B37 [1, 1, 1, 1, 0, 0] 5, [.seq (sub B37 [1, 1, 1, 1, 0, 1]), .seq (sub B37 [1, 1, 1, 1, 1])], [(0, .so (mkB (45 :: r))), (4, .v (.int IntKind.u64 0)), (5, .v (.int .i64 1)), (19, .bo ((↑(mkB (45 :: r)).size : Int) == 1))], []⟩ (by kernel_rfl) (by kernel_rfl) ?_
      rcases Bool.eq_false_or_eq_true ((↑(mkB (45 :: r)).size : Int) == 1) with b0 | b0
      · refine At.res 19 ((↑(mkB (45 :: r)).size : Int) == 1) true (by kernel_rfl) b0 ?_
        refine At.to (noF_stable) (noF_fewer) 0 300 [2, 3] 0 ⟨.exit .ret, [], [(2, .v (.int .i64 0)), (3, .v (.bool false))], []⟩ (by kernel_rfl) (by kernel_rfl) ?_
        refine At.ret (by kernel_rfl) (.tup [.v (.int .i64 0), .v (.bool false)]) (by kernel_rfl) ?_
        have hr : r = [] := by
          have h := b0
          simp [mkB_size] at h
          first | exact h | (exact List.eq_nil_of_length_eq_zero (by omega))
        rw [show numR (45 :: r) = none from if_pos (Or.inl hr)]
        intro ρ w9 hm hf
        exact ⟨rfl, hm.below⟩
      · refine At.res 19 ((↑(mkB (45 :: r)).size : Int) == 1) false (by kernel_rfl) b0 ?_
        refine At.to (noF_stable) (noF_fewer) 0 300 [0, 4, 5, 23] 0 ⟨.code (sub B37 [1, 1, 1, 1, 0, 1]), [.seq (sub B37 [1, 1, 1, 1, 1])], [(0, .so (mkB (45 :: r))), (4, .v (.int IntKind.u64 0)), (5, .v (.int .i64 1)), (23, .bo (decide ((↑(mkB (45 :: r)).size : Int) > 20)))], []⟩ (by kernel_rfl) (by kernel_rfl) ?_
        rcases Bool.eq_false_or_eq_true (decide ((↑(mkB (45 :: r)).size : Int) > 20)) with b1 | b1
        · refine At.res 23 (decide ((↑(mkB (45 :: r)).size : Int) > 20)) true (by kernel_rfl) b1 ?_
          refine At.to (noF_stable) (noF_fewer) 0 300 [2, 3] 0 ⟨.exit .ret, [], [(2, .v (.int .i64 0)), (3, .v (.bool false))], []⟩ (by kernel_rfl) (by kernel_rfl) ?_
          refine At.ret (by kernel_rfl) (.tup [.v (.int .i64 0), .v (.bool false)]) (by kernel_rfl) ?_
          have hlen := of_decide_eq_true b1
          rw [mkB_size] at hlen
          rw [show numR (45 :: r) = none from if_pos (Or.inr (by omega))]
          intro ρ w9 hm hf
          exact ⟨rfl, hm.below⟩
        · refine At.res 23 (decide ((↑(mkB (45 :: r)).size : Int) > 20)) false (by kernel_rfl) b1 ?_
          refine At.to (noF_stable) (noF_fewer) 0 300 [0, 4, 5, 6] 0 ⟨.code (sub B37 [1, 1, 1, 1, 1, 0, 1, 4]), [.block 0, .seq (sub B37 [1, 1, 1, 1, 1, 1])], [(0, .so (mkB (45 :: r))), (4, .v (.int IntKind.u64 0)), (5, .v (.int .i64 1)), (6, .v (.int .i64 1))], []⟩ (by kernel_rfl) (by kernel_rfl) ?_
          have hlen := of_decide_eq_false b1
          rw [mkB_size] at hlen
          have hnr : numR (45 :: r) = numEnd true (45 :: r) (numGo 0 ((45 :: r).drop 1)) := if_neg (by
              rw [not_or]
              refine ⟨fun hr => ?_, by omega⟩
              subst hr
              exact absurd b0 (by decide +kernel))
          rw [hnr]
          clear b0 b1 hnr
          generalize hR : numGo 0 ((45 :: r).drop 1) = R
          refine At.canon _ rfl ?_
          refine At.loop (σ := NSt) (sub B37 [1, 1, 1, 1, 1, 0, 1, 4, 4]) (frN (45 :: r) 1) locN (GN (45 :: r) 1 R) (muN (45 :: r)) ⟨1, 0⟩ (by kernel_rfl) (by unfold subFr; kernel_rfl) (by kernel_rfl) (fun _ _ _ _ h => ⟨h, Nat.le_refl _, by simp, hR, by decide⟩) ?_
          clear hR
          rintro ⟨i, n⟩
          refine At.pure fun ⟨h1, h2, h3, h4⟩ => ?_
          simp only at h1 h2 h3 h4
          refine At.to (noF_stable) (noF_fewer) 0 300 [0, 4, 5, 6, 28] 0 ⟨.code (sub B37 [1, 1, 1, 1, 1, 0, 1, 4, 4, 0, 1]), [.seq (sub B37 [1, 1, 1, 1, 1, 0, 1, 4, 4, 1]), .next (Sx.Next w.heap.size w Tryd.f37.ntmps (frN (45 :: r) 1) locN (GN (45 :: r) 1 R) (muN (45 :: r)) (NSt.mk i n)), .block 0, .seq (sub B37 [1, 1, 1, 1, 1, 1])], [(0, .so (mkB (45 :: r))), (4, .io IntKind.u64 (↑n : Int)), (5, .io .i64 1), (6, .io .i64 (↑i : Int)), (28, .bo (decide ((↑i : Int) < (↑(mkB (45 :: r)).size : Int))))], []⟩ (by kernel_rfl) (by kernel_rfl) ?_
          rcases Bool.eq_false_or_eq_true (decide ((↑i : Int) < (↑(mkB (45 :: r)).size : Int))) with b0 | b0
          · refine At.res 28 (decide ((↑i : Int) < (↑(mkB (45 :: r)).size : Int))) true (by kernel_rfl) b0 ?_
            refine At.to (noF_stable) (noF_fewer) 0 300 [0, 4, 5, 6, 31, 32] 0 ⟨pops B37 [1, 1, 1, 1, 1, 0, 1, 4, 4, 1, 0, 4, 0, 0] 2, [.seq (sub B37 [1, 1, 1, 1, 1, 0, 1, 4, 4, 1, 0, 4, 0, 1]), .seq (sub B37 [1, 1, 1, 1, 1, 0, 1, 4, 4, 1, 0, 4, 1]), .block 1, .seq (sub B37 [1, 1, 1, 1, 1, 0, 1, 4, 4, 1, 1]), .next (Sx.Next w.heap.size w Tryd.f37.ntmps (frN (45 :: r) 1) locN (GN (45 :: r) 1 R) (muN (45 :: r)) (NSt.mk i n)), .block 0, .seq (sub B37 [1, 1, 1, 1, 1, 1])], [(0, .so (mkB (45 :: r))), (4, .io IntKind.u64 (↑n : Int)), (5, .io .i64 1), (6, .io .i64 (↑i : Int)), (31, .so (mkB (45 :: r))), (32, .io .i64 (↑i : Int))], []⟩ (by kernel_rfl) (by kernel_rfl) ?_
            have hi : i < (45 :: r).length := by have := of_decide_eq_true b0; rw [mkB_size] at this; omega
            clear b0
            obtain ⟨y, hz⟩ : ∃ y, (45 :: r)[i]? = some y := ⟨_, List.getElem?_eq_getElem hi⟩
            have hy := y.toNat_lt
            rw [drop_at hz] at h3

            refine At.six (mkB (45 :: r)) (i : Int) y (by kernel_rfl) (by omega) (by rw [Int.toNat_natCast]; exact hz) noF_stable ?_
            refine At.to (noF_stable) (noF_fewer) 0 300 [0, 4, 5, 6, 35] 0 ⟨pops B37 [1, 1, 1, 1, 1, 0, 1, 4, 4, 1, 0, 4, 0, 0] 5, [.seq (sub B37 [1, 1, 1, 1, 1, 0, 1, 4, 4, 1, 0, 4, 0, 1]), .seq (sub B37 [1, 1, 1, 1, 1, 0, 1, 4, 4, 1, 0, 4, 1]), .block 1, .seq (sub B37 [1, 1, 1, 1, 1, 0, 1, 4, 4, 1, 1]), .next (Sx.Next w.heap.size w Tryd.f37.ntmps (frN (45 :: r) 1) locN (GN (45 :: r) 1 R) (muN (45 :: r)) (NSt.mk i n)), .block 0, .seq (sub B37 [1, 1, 1, 1, 1, 1])], [(0, .so (mkB (45 :: r))), (4, .io IntKind.u64 (↑n : Int)), (5, .io .i64 1), (6, .io .i64 (↑i : Int)), (35, .bo (decide ((↑y.toNat : Int) < 48)))], []⟩ (by kernel_rfl) (by kernel_rfl) ?_
            rcases Bool.eq_false_or_eq_true (decide ((↑y.toNat : Int) < 48)) with b0 | b0
            · refine At.res 35 (decide ((↑y.toNat : Int) < 48)) true (by kernel_rfl) b0 ?_
              refine At.to (noF_stable) (noF_fewer) 0 300 [2, 3] 0 ⟨.exit .ret, [], [(2, .v (.int .i64 0)), (3, .v (.bool false))], []⟩ (by kernel_rfl) (by kernel_rfl) ?_
              refine At.ret (by kernel_rfl) (.tup [.v (.int .i64 0), .v (.bool false)]) (by kernel_rfl) ?_
              have hno : y.toNat < 48 ∨ 57 < y.toNat ∨ 922337203685477580 < n := by have := of_decide_eq_true b0; omega
              rw [numGo, if_pos hno] at h3
              subst h3
              intro ρ w9 hm hf
              exact ⟨rfl, hm.below⟩
            · refine At.res 35 (decide ((↑y.toNat : Int) < 48)) false (by kernel_rfl) b0 ?_
              refine At.to (noF_stable) (noF_fewer) 0 300 [0, 4, 5, 6, 35, 36, 37] 0 ⟨pops B37 [1, 1, 1, 1, 1, 0, 1, 4, 4, 1, 0, 4, 0, 0] 7, [.seq (sub B37 [1, 1, 1, 1, 1, 0, 1, 4, 4, 1, 0, 4, 0, 1]), .seq (sub B37 [1, 1, 1, 1, 1, 0, 1, 4, 4, 1, 0, 4, 1]), .block 1, .seq (sub B37 [1, 1, 1, 1, 1, 0, 1, 4, 4, 1, 1]), .next (Sx.Next w.heap.size w Tryd.f37.ntmps (frN (45 :: r) 1) locN (GN (45 :: r) 1 R) (muN (45 :: r)) (NSt.mk i n)), .block 0, .seq (sub B37 [1, 1, 1, 1, 1, 1])], [(0, .so (mkB (45 :: r))), (4, .io IntKind.u64 (↑n : Int)), (5, .io .i64 1), (6, .io .i64 (↑i : Int)), (35, .v (.bool false)), (36, .so (mkB (45 :: r))), (37, .io .i64 (↑i : Int))], []⟩ (by kernel_rfl) (by kernel_rfl) ?_
              have c48 := of_decide_eq_false b0
              clear b0
              refine At.six (mkB (45 :: r)) (i : Int) y (by kernel_rfl) (by omega) (by rw [Int.toNat_natCast]; exact hz) noF_stable ?_
              refine At.to (noF_stable) (noF_fewer) 0 300 [0, 4, 5, 6, 41] 0 ⟨pops B37 [1, 1, 1, 1, 1, 0, 1, 4, 4, 1, 0, 4, 0, 0] 11, [.seq (sub B37 [1, 1, 1, 1, 1, 0, 1, 4, 4, 1, 0, 4, 0, 1]), .seq (sub B37 [1, 1, 1, 1, 1, 0, 1, 4, 4, 1, 0, 4, 1]), .block 1, .seq (sub B37 [1, 1, 1, 1, 1, 0, 1, 4, 4, 1, 1]), .next (Sx.Next w.heap.size w Tryd.f37.ntmps (frN (45 :: r) 1) locN (GN (45 :: r) 1 R) (muN (45 :: r)) (NSt.mk i n)), .block 0, .seq (sub B37 [1, 1, 1, 1, 1, 1])], [(0, .so (mkB (45 :: r))), (4, .io IntKind.u64 (↑n : Int)), (5, .io .i64 1), (6, .io .i64 (↑i : Int)), (41, .bo (decide ((↑y.toNat : Int) > 57)))], []⟩ (by kernel_rfl) (by kernel_rfl) ?_
              rcases Bool.eq_false_or_eq_true (decide ((↑y.toNat : Int) > 57)) with b0 | b0
              · refine At.res 41 (decide ((↑y.toNat : Int) > 57)) true (by kernel_rfl) b0 ?_
                refine At.to (noF_stable) (noF_fewer) 0 300 [2, 3] 0 ⟨.exit .ret, [], [(2, .v (.int .i64 0)), (3, .v (.bool false))], []⟩ (by kernel_rfl) (by kernel_rfl) ?_
                refine At.ret (by kernel_rfl) (.tup [.v (.int .i64 0), .v (.bool false)]) (by kernel_rfl) ?_
                have hno : y.toNat < 48 ∨ 57 < y.toNat ∨ 922337203685477580 < n := by have := of_decide_eq_true b0; omega
                rw [numGo, if_pos hno] at h3
                subst h3
                intro ρ w9 hm hf
                exact ⟨rfl, hm.below⟩
              · refine At.res 41 (decide ((↑y.toNat : Int) > 57)) false (by kernel_rfl) b0 ?_
                refine At.to (noF_stable) (noF_fewer) 0 300 [0, 4, 5, 6, 44] 0 ⟨.code (sub B37 [1, 1, 1, 1, 1, 0, 1, 4, 4, 1, 0, 4, 0, 1]), [.seq (sub B37 [1, 1, 1, 1, 1, 0, 1, 4, 4, 1, 0, 4, 1]), .block 1, .seq (sub B37 [1, 1, 1, 1, 1, 0, 1, 4, 4, 1, 1]), .next (Sx.Next w.heap.size w Tryd.f37.ntmps (frN (45 :: r) 1) locN (GN (45 :: r) 1 R) (muN (45 :: r)) (NSt.mk i n)), .block 0, .seq (sub B37 [1, 1, 1, 1, 1, 1])], [(0, .so (mkB (45 :: r))), (4, .io IntKind.u64 (↑n : Int)), (5, .io .i64 1), (6, .io .i64 (↑i : Int)), (44, .bo (decide ((↑n : Int) > 922337203685477580)))], []⟩ (by kernel_rfl) (by kernel_rfl) ?_
                rcases Bool.eq_false_or_eq_true (decide ((↑n : Int) > 922337203685477580)) with b1 | b1
                · refine At.res 44 (decide ((↑n : Int) > 922337203685477580)) true (by kernel_rfl) b1 ?_
                  refine At.to (noF_stable) (noF_fewer) 0 300 [2, 3] 0 ⟨.exit .ret, [], [(2, .v (.int .i64 0)), (3, .v (.bool false))], []⟩ (by kernel_rfl) (by kernel_rfl) ?_
                  refine At.ret (by kernel_rfl) (.tup [.v (.int .i64 0), .v (.bool false)]) (by kernel_rfl) ?_
                  have hno : y.toNat < 48 ∨ 57 < y.toNat ∨ 922337203685477580 < n := by have := of_decide_eq_true b1; omega
                  rw [numGo, if_pos hno] at h3
                  subst h3
                  intro ρ w9 hm hf
                  exact ⟨rfl, hm.below⟩
                · refine At.res 44 (decide ((↑n : Int) > 922337203685477580)) false (by kernel_rfl) b1 ?_
                  refine At.to (noF_stable) (noF_fewer) 0 300 [0, 5, 6, 46, 47, 48] 0 ⟨pops B37 [1, 1, 1, 1, 1, 0, 1, 4, 4, 1, 0, 4, 1] 4, [.block 1, .seq (sub B37 [1, 1, 1, 1, 1, 0, 1, 4, 4, 1, 1]), .next (Sx.Next w.heap.size w Tryd.f37.ntmps (frN (45 :: r) 1) locN (GN (45 :: r) 1 R) (muN (45 :: r)) (NSt.mk i n)), .block 0, .seq (sub B37 [1, 1, 1, 1, 1, 1])], [(0, .so (mkB (45 :: r))), (5, .io .i64 1), (6, .io .i64 (↑i : Int)), (46, .io IntKind.u64 (IntKind.u64.wrap ((↑n : Int) * 10))), (47, .so (mkB (45 :: r))), (48, .io .i64 (↑i : Int))], []⟩ (by kernel_rfl) (by kernel_rfl) ?_
                  refine At.six (mkB (45 :: r)) (i : Int) y (by kernel_rfl) (by omega) (by rw [Int.toNat_natCast]; exact hz) noF_stable ?_
                  refine At.to (noF_stable) (noF_fewer) 0 300 [0, 4, 5, 6] 0 ⟨.exit .normal, [.next (Sx.Next w.heap.size w Tryd.f37.ntmps (frN (45 :: r) 1) locN (GN (45 :: r) 1 R) (muN (45 :: r)) (NSt.mk i n)), .block 0, .seq (sub B37 [1, 1, 1, 1, 1, 1])], [(0, .so (mkB (45 :: r))), (4, .io IntKind.u64 (IntKind.u64.wrap (IntKind.u64.wrap ((↑n : Int) * 10) + IntKind.u64.wrap (IntKind.u8.wrap ((↑y.toNat : Int) - 48))))), (5, .io .i64 1), (6, .io .i64 (IntKind.i64.wrap ((↑i : Int) + 1)))], []⟩ (by kernel_rfl) (by kernel_rfl) ?_
                  have hys : ¬ (y.toNat < 48 ∨ 57 < y.toNat ∨ 922337203685477580 < n) := by
                    have := of_decide_eq_false b0
                    have := of_decide_eq_false b1
                    omega
                  rw [numGo, if_neg hys] at h3
                  rw [stepN (by omega) (by omega) (by omega)]
                  have hw3 : IntKind.i64.wrap ((i : Int) + 1) = ((i + 1 : Nat) : Int) := by
                    rw [wrap63 (by omega) (by omega)]
                    omega
                  rw [hw3]
                  refine At.next (σ := NSt) ⟨i + 1, n * 10 + (y.toNat - 48)⟩ rfl rfl (by unfold subFr; kernel_rfl) (by kernel_rfl) ?_ ?_
                  · intro ρ a' w' hi' hf
                    exact ⟨hf, by simp only; omega, by simp only; omega, h3, by simp only; omega⟩
                  · show (45 :: r).length - (i + 1) < (45 :: r).length - i
                    omega
          · refine At.res 28 (decide ((↑i : Int) < (↑(mkB (45 :: r)).size : Int))) false (by kernel_rfl) b0 ?_
            refine At.to (noF_stable) (noF_fewer) 0 300 [0, 7, 56] 0 ⟨.code (sub B37 [1, 1, 1, 1, 1, 1, 1, 0, 1]), [.seq (sub B37 [1, 1, 1, 1, 1, 1, 1, 1])], [(0, .so (mkB (45 :: r))), (7, .io .i64 (IntKind.i64.wrap (↑n : Int))), (56, .bo true)], []⟩ (by kernel_rfl) (by kernel_rfl) ?_
            refine At.res 56 (true) true (by kernel_rfl) (by first | assumption | (simp only [*]; done) | (simp [*]; done)) ?_
            refine At.to (noF_stable) (noF_fewer) 0 300 [0, 7, 59] 0 ⟨pops B37 [1, 1, 1, 1, 1, 1, 1, 1, 0, 0] 1, [.seq (sub B37 [1, 1, 1, 1, 1, 1, 1, 1, 0, 1]), .seq (sub B37 [1, 1, 1, 1, 1, 1, 1, 1, 1])], [(0, .so (mkB (45 :: r))), (7, .io .i64 (IntKind.i64.wrap (0 - IntKind.i64.wrap (↑n : Int)))), (59, .io .i64 (IntKind.i64.wrap (0 - IntKind.i64.wrap (↑n : Int))))], []⟩ (by kernel_rfl) (by kernel_rfl) ?_
            have hi : ¬ (i : Int) < ((mkB (45 :: r)).size : Int) := of_decide_eq_false b0
            rw [mkB_size] at hi
            have hd : (45 :: r).drop i = [] := List.drop_eq_nil_of_le (by omega)
            rw [hd, numGo] at h3
            subst h3
            refine At.to (noF_stable) (noF_fewer) 0 300 [0, 7, 59] 0 ⟨pops B37 [1, 1, 1, 1, 1, 1, 1, 1, 0, 0] 1, [.seq (sub B37 [1, 1, 1, 1, 1, 1, 1, 1, 0, 1]), .seq (sub B37 [1, 1, 1, 1, 1, 1, 1, 1, 1])], [(0, .so (mkB (45 :: r))), (7, .io .i64 (IntKind.i64.wrap (0 - IntKind.i64.wrap (↑n : Int)))), (59, .io .i64 (IntKind.i64.wrap (0 - IntKind.i64.wrap (↑n : Int))))], []⟩ (by kernel_rfl) (by kernel_rfl) ?_
            generalize hX : IntKind.i64.wrap (0 - IntKind.i64.wrap (n : Int)) = x
            have hxi : in64 x := by rw [← hX]; exact wrap_in _
            refine At.call noF_stable 47 [.io .i64 x] (.so (mkB (Lib.itoa x))) (by kernel_rfl) (by kernel_rfl) (by kernel_rfl) (fun _ _ w1 _ _ => rdigits_any x hxi w1) ?_
            refine At.to (noF_stable) (noF_fewer) 0 300 [7, 62] 0 ⟨.code (sub B37 [1, 1, 1, 1, 1, 1, 1, 1, 0, 1]), [.seq (sub B37 [1, 1, 1, 1, 1, 1, 1, 1, 1])], [(7, .io .i64 x), (62, .bo !(mkB (Lib.itoa x)).toList == (mkB (45 :: r)).toList)], []⟩ (by kernel_rfl) (by kernel_rfl) ?_
            rcases Bool.eq_false_or_eq_true (!(mkB (Lib.itoa x)).toList == (mkB (45 :: r)).toList) with b0 | b0
            · refine At.res 62 (!(mkB (Lib.itoa x)).toList == (mkB (45 :: r)).toList) true (by kernel_rfl) b0 ?_
              refine At.to (noF_stable) (noF_fewer) 0 300 [2, 3] 0 ⟨.exit .ret, [], [(2, .v (.int .i64 0)), (3, .v (.bool false))], []⟩ (by kernel_rfl) (by kernel_rfl) ?_
              refine At.ret (by kernel_rfl) (.tup [.v (.int .i64 0), .v (.bool false)]) (by kernel_rfl) ?_
              have hne : Lib.itoa x ≠ 45 :: r := fun e => by
                rw [strB, e] at b0
                simp at b0
              rw [show numEnd true (45 :: r) (some n) = none from by simp only [numEnd, cond_true, cond_false]; rw [hX, if_neg hne]]
              intro ρ w9 hm hf
              exact ⟨rfl, hm.below⟩
            · refine At.res 62 (!(mkB (Lib.itoa x)).toList == (mkB (45 :: r)).toList) false (by kernel_rfl) b0 ?_
              refine At.to (noF_stable) (noF_fewer) 0 300 [2, 3] 0 ⟨.exit .ret, [], [(2, .io .i64 x), (3, .v (.bool true))], []⟩ (by kernel_rfl) (by kernel_rfl) ?_
              refine At.ret (by kernel_rfl) (.tup [.io .i64 x, .v (.bool true)]) (by kernel_rfl) ?_
              have hne : Lib.itoa x = 45 :: r := by
                rw [strB] at b0
                simpa using b0
              rw [show numEnd true (45 :: r) (some n) = some x from by simp only [numEnd, cond_true, cond_false]; rw [hX, if_pos hne]]
              intro ρ w9 hm hf
              exact ⟨rfl, hm.below⟩
    · have en : (!(mkB (c :: r)).toList == (ByteArray.mk #[]).toList) = true := by rw [ByteArray.toList_eq, ByteArray.toList_eq]; rfl
      have e45 : ((c.toNat : Int) == 45) = false := beq_false_of_ne fun e => hc (UInt8.toNat_inj.1 (by show c.toNat = 45; omega))
      refine enter (fn := Tryd.f37) (c := B37) [.so (mkB (c :: r))] Tryd.func37 rfl rfl ?_
      refine At.to (noF_stable) (noF_fewer) 0 300 [0, 4, 5, 10] 0 ⟨pops B37 [1, 1, 1, 0, 0] 3, [.seq (sub B37 [1, 1, 1, 0, 1]), .seq (sub B37 [1, 1, 1, 1])], [(0, .so (mkB (c :: r))), (4, .v (.int IntKind.u64 0)), (5, .v (.int .i64 0)), (10, .bo !(mkB (c :: r)).toList == (ByteArray.mk #[]).toList)], []⟩ (by kernel_rfl) (by kernel_rfl) ?_
      refine At.res 10 (!(mkB (c :: r)).toList == (ByteArray.mk #[]).toList) true (by kernel_rfl) en ?_
      refine At.to (noF_stable) (noF_fewer) 0 300 [0, 4, 5, 10, 11] 0 ⟨pops B37 [1, 1, 1, 0, 0] 4, [.seq (sub B37 [1, 1, 1, 0, 1]), .seq (sub B37 [1, 1, 1, 1])], [(0, .so (mkB (c :: r))), (4, .v (.int IntKind.u64 0)), (5, .v (.int .i64 0)), (10, .v (.bool true)), (11, .so (mkB (c :: r)))], []⟩ (by kernel_rfl) (by kernel_rfl) ?_
      refine At.six (mkB (c :: r)) 0 c (by kernel_rfl) (by omega) rfl noF_stable ?_
      refine At.to (noF_stable) (noF_fewer) 0 300 [0, 4, 5, 14] 0 ⟨.code (sub B37 [1, 1, 1, 0, 1]), [.seq (sub B37 [1, 1, 1, 1])], [(0, .so (mkB (c :: r))), (4, .v (.int IntKind.u64 0)), (5, .v (.int .i64 0)), (14, .bo ((↑c.toNat : Int) == 45))], []⟩ (by kernel_rfl) (by kernel_rfl) ?_
      refine At.res 14 ((↑c.toNat : Int) == 45) false (by kernel_rfl) e45 ?_
      refine At.to (noF_stable) (noF_fewer) 0 300 [0, 4, 5, 19] 0 ⟨pops B37 [1, 1, 1, 1, 0, 0] 5, [.seq (sub B37 [1, 1, 1, 1, 0, 1]), .seq (sub B37 [1, 1, 1, 1, 1])], [(0, .so (mkB (c :: r))), (4, .v (.int IntKind.u64 0)), (5, .v (.int .i64 0)), (19, .bo false)], []⟩ (by kernel_rfl) (by kernel_rfl) ?_
      refine At.res 19 (false) false (by kernel_rfl) (by first | assumption | (simp only [*]; done) | (simp [*]; done)) ?_
      refine At.to (noF_stable) (noF_fewer) 0 300 [0, 4, 5, 23] 0 ⟨.code (sub B37 [1, 1, 1, 1, 0, 1]), [.seq (sub B37 [1, 1, 1, 1, 1])], [(0, .so (mkB (c :: r))), (4, .v (.int IntKind.u64 0)), (5, .v (.int .i64 0)), (23, .bo (decide ((↑(mkB (c :: r)).size : Int) > 20)))], []⟩ (by kernel_rfl) (by kernel_rfl) ?_
      rcases Bool.eq_false_or_eq_true (decide ((↑(mkB (c :: r)).size : Int) > 20)) with b0 | b0
      · refine At.res 23 (decide ((↑(mkB (c :: r)).size : Int) > 20)) true (by kernel_rfl) b0 ?_
        refine At.to (noF_stable) (noF_fewer) 0 300 [2, 3] 0 ⟨.exit .ret, [], [(2, .v (.int .i64 0)), (3, .v (.bool false))], []⟩ (by kernel_rfl) (by kernel_rfl) ?_
        refine At.ret (by kernel_rfl) (.tup [.v (.int .i64 0), .v (.bool false)]) (by kernel_rfl) ?_
        have hlen := of_decide_eq_true b0
        rw [mkB_size] at hlen
        rw [show numR (c :: r) = none from numR_no hc (Or.inr (by omega))]
        intro ρ w9 hm hf
        exact ⟨rfl, hm.below⟩
      · refine At.res 23 (decide ((↑(mkB (c :: r)).size : Int) > 20)) false (by kernel_rfl) b0 ?_
        refine At.to (noF_stable) (noF_fewer) 0 300 [0, 4, 5, 6] 0 ⟨.code (sub B37 [1, 1, 1, 1, 1, 0, 1, 4]), [.block 0, .seq (sub B37 [1, 1, 1, 1, 1, 1])], [(0, .so (mkB (c :: r))), (4, .v (.int IntKind.u64 0)), (5, .v (.int .i64 0)), (6, .v (.int .i64 0))], []⟩ (by kernel_rfl) (by kernel_rfl) ?_
        have hlen := of_decide_eq_false b0
        rw [mkB_size] at hlen
        have hnr : numR (c :: r) = numEnd false (c :: r) (numGo 0 ((c :: r).drop 0)) := numR_yes hc (by omega)
        rw [hnr]
        clear b0 hnr
        generalize hR : numGo 0 ((c :: r).drop 0) = R
        refine At.canon _ rfl ?_
        refine At.loop (σ := NSt) (sub B37 [1, 1, 1, 1, 1, 0, 1, 4, 4]) (frN (c :: r) 0) locN (GN (c :: r) 0 R) (muN (c :: r)) ⟨0, 0⟩ (by kernel_rfl) (by unfold subFr; kernel_rfl) (by kernel_rfl) (fun _ _ _ _ h => ⟨h, Nat.le_refl _, by simp, hR, by decide⟩) ?_
        clear hR
        rintro ⟨i, n⟩
        refine At.pure fun ⟨h1, h2, h3, h4⟩ => ?_
        simp only at h1 h2 h3 h4
        refine At.to (noF_stable) (noF_fewer) 0 300 [0, 4, 5, 6, 28] 0 ⟨.code (sub B37 [1, 1, 1, 1, 1, 0, 1, 4, 4, 0, 1]), [.seq (sub B37 [1, 1, 1, 1, 1, 0, 1, 4, 4, 1]), .next (Sx.Next w.heap.size w Tryd.f37.ntmps (frN (c :: r) 0) locN (GN (c :: r) 0 R) (muN (c :: r)) (NSt.mk i n)), .block 0, .seq (sub B37 [1, 1, 1, 1, 1, 1])], [(0, .so (mkB (c :: r))), (4, .io IntKind.u64 (↑n : Int)), (5, .io .i64 0), (6, .io .i64 (↑i : Int)), (28, .bo (decide ((↑i : Int) < (↑(mkB (c :: r)).size : Int))))], []⟩ (by kernel_rfl) (by kernel_rfl) ?_
        rcases Bool.eq_false_or_eq_true (decide ((↑i : Int) < (↑(mkB (c :: r)).size : Int))) with b0 | b0
        · refine At.res 28 (decide ((↑i : Int) < (↑(mkB (c :: r)).size : Int))) true (by kernel_rfl) b0 ?_
          refine At.to (noF_stable) (noF_fewer) 0 300 [0, 4, 5, 6, 31, 32] 0 ⟨pops B37 [1, 1, 1, 1, 1, 0, 1, 4, 4, 1, 0, 4, 0, 0] 2, [.seq (sub B37 [1, 1, 1, 1, 1, 0, 1, 4, 4, 1, 0, 4, 0, 1]), .seq (sub B37 [1, 1, 1, 1, 1, 0, 1, 4, 4, 1, 0, 4, 1]), .block 1, .seq (sub B37 [1, 1, 1, 1, 1, 0, 1, 4, 4, 1, 1]), .next (Sx.Next w.heap.size w Tryd.f37.ntmps (frN (c :: r) 0) locN (GN (c :: r) 0 R) (muN (c :: r)) (NSt.mk i n)), .block 0, .seq (sub B37 [1, 1, 1, 1, 1, 1])], [(0, .so (mkB (c :: r))), (4, .io IntKind.u64 (↑n : Int)), (5, .io .i64 0), (6, .io .i64 (↑i : Int)), (31, .so (mkB (c :: r))), (32, .io .i64 (↑i : Int))], []⟩ (by kernel_rfl) (by kernel_rfl) ?_
          have hi : i < (c :: r).length := by have := of_decide_eq_true b0; rw [mkB_size] at this; omega
          clear b0
          obtain ⟨y, hz⟩ : ∃ y, (c :: r)[i]? = some y := ⟨_, List.getElem?_eq_getElem hi⟩
          have hy := y.toNat_lt
          rw [drop_at hz] at h3

          refine At.six (mkB (c :: r)) (i : Int) y (by kernel_rfl) (by omega) (by rw [Int.toNat_natCast]; exact hz) noF_stable ?_
          refine At.to (noF_stable) (noF_fewer) 0 300 [0, 4, 5, 6, 35] 0 ⟨pops B37 [1, 1, 1, 1, 1, 0, 1, 4, 4, 1, 0, 4, 0, 0] 5, [.seq (sub B37 [1, 1, 1, 1, 1, 0, 1, 4, 4, 1, 0, 4, 0, 1]), .seq (sub B37 [1, 1, 1, 1, 1, 0, 1, 4, 4, 1, 0, 4, 1]), .block 1, .seq (sub B37 [1, 1, 1, 1, 1, 0, 1, 4, 4, 1, 1]), .next (Sx.Next w.heap.size w Tryd.f37.ntmps (frN (c :: r) 0) locN (GN (c :: r) 0 R) (muN (c :: r)) (NSt.mk i n)), .block 0, .seq (sub B37 [1, 1, 1, 1, 1, 1])], [(0, .so (mkB (c :: r))), (4, .io IntKind.u64 (↑n : Int)), (5, .io .i64 0), (6, .io .i64 (↑i : Int)), (35, .bo (decide ((↑y.toNat : Int) < 48)))], []⟩ (by kernel_rfl) (by kernel_rfl) ?_
          rcases Bool.eq_false_or_eq_true (decide ((↑y.toNat : Int) < 48)) with b0 | b0
          · refine At.res 35 (decide ((↑y.toNat : Int) < 48)) true (by kernel_rfl) b0 ?_
            refine At.to (noF_stable) (noF_fewer) 0 300 [2, 3] 0 ⟨.exit .ret, [], [(2, .v (.int .i64 0)), (3, .v (.bool false))], []⟩ (by kernel_rfl) (by kernel_rfl) ?_
            refine At.ret (by kernel_rfl) (.tup [.v (.int .i64 0), .v (.bool false)]) (by kernel_rfl) ?_
            have hno : y.toNat < 48 ∨ 57 < y.toNat ∨ 922337203685477580 < n := by have := of_decide_eq_true b0; omega
            rw [numGo, if_pos hno] at h3
            subst h3
            intro ρ w9 hm hf
            exact ⟨rfl, hm.below⟩
          · refine At.res 35 (decide ((↑y.toNat : Int) < 48)) false (by kernel_rfl) b0 ?_
            refine At.to (noF_stable) (noF_fewer) 0 300 [0, 4, 5, 6, 35, 36, 37] 0 ⟨pops B37 [1, 1, 1, 1, 1, 0, 1, 4, 4, 1, 0, 4, 0, 0] 7, [.seq (sub B37 [1, 1, 1, 1, 1, 0, 1, 4, 4, 1, 0, 4, 0, 1]), .seq (sub B37 [1, 1, 1, 1, 1, 0, 1, 4, 4, 1, 0, 4, 1]), .block 1, .seq (sub B37 [1, 1, 1, 1, 1, 0, 1, 4, 4, 1, 1]), .next (Sx.Next w.heap.size w Tryd.f37.ntmps (frN (c :: r) 0) locN (GN (c :: r) 0 R) (muN (c :: r)) (NSt.mk i n)), .block 0, .seq (sub B37 [1, 1, 1, 1, 1, 1])], [(0, .so (mkB (c :: r))), (4, .io IntKind.u64 (↑n : Int)), (5, .io .i64 0), (6, .io .i64 (↑i : Int)), (35, .v (.bool false)), (36, .so (mkB (c :: r))), (37, .io .i64 (↑i : Int))], []⟩ (by kernel_rfl) (by kernel_rfl) ?_
            have c48 := of_decide_eq_false b0
            clear b0
            refine At.six (mkB (c :: r)) (i : Int) y (by kernel_rfl) (by omega) (by rw [Int.toNat_natCast]; exact hz) noF_stable ?_
            refine At.to (noF_stable) (noF_fewer) 0 300 [0, 4, 5, 6, 41] 0 ⟨pops B37 [1, 1, 1, 1, 1, 0, 1, 4, 4, 1, 0, 4, 0, 0] 11, [.seq (sub B37 [1, 1, 1, 1, 1, 0, 1, 4, 4, 1, 0, 4, 0, 1]), .seq (sub B37 [1, 1, 1, 1, 1, 0, 1, 4, 4, 1, 0, 4, 1]), .block 1, .seq (sub B37 [1, 1, 1, 1, 1, 0, 1, 4, 4, 1, 1]), .next (Sx.Next w.heap.size w Tryd.f37.ntmps (frN (c :: r) 0) locN (GN (c :: r) 0 R) (muN (c :: r)) (NSt.mk i n)), .block 0, .seq (sub B37 [1, 1, 1, 1, 1, 1])], [(0, .so (mkB (c :: r))), (4, .io IntKind.u64 (↑n : Int)), (5, .io .i64 0), (6, .io .i64 (↑i : Int)), (41, .bo (decide ((↑y.toNat : Int) > 57)))], []⟩ (by kernel_rfl) (by kernel_rfl) ?_
            rcases Bool.eq_false_or_eq_true (decide ((↑y.toNat : Int) > 57)) with b0 | b0
            · refine At.res 41 (decide ((↑y.toNat : Int) > 57)) true (by kernel_rfl) b0 ?_
              refine At.to (noF_stable) (noF_fewer) 0 300 [2, 3] 0 ⟨.exit .ret, [], [(2, .v (.int .i64 0)), (3, .v (.bool false))], []⟩ (by kernel_rfl) (by kernel_rfl) ?_
              refine At.ret (by kernel_rfl) (.tup [.v (.int .i64 0), .v (.bool false)]) (by kernel_rfl) ?_
              have hno : y.toNat < 48 ∨ 57 < y.toNat ∨ 922337203685477580 < n := by have := of_decide_eq_true b0; omega
              rw [numGo, if_pos hno] at h3
              subst h3
              intro ρ w9 hm hf
              exact ⟨rfl, hm.below⟩
            · refine At.res 41 (decide ((↑y.toNat : Int) > 57)) false (by kernel_rfl) b0 ?_
              refine At.to (noF_stable) (noF_fewer) 0 300 [0, 4, 5, 6, 44] 0 ⟨.code (sub B37 [1, 1, 1, 1, 1, 0, 1, 4, 4, 1, 0, 4, 0, 1]), [.seq (sub B37 [1, 1, 1, 1, 1, 0, 1, 4, 4, 1, 0, 4, 1]), .block 1, .seq (sub B37 [1, 1, 1, 1, 1, 0, 1, 4, 4, 1, 1]), .next (Sx.Next w.heap.size w Tryd.f37.ntmps (frN (c :: r) 0) locN (GN (c :: r) 0 R) (muN (c :: r)) (NSt.mk i n)), .block 0, .seq (sub B37 [1, 1, 1, 1, 1, 1])], [(0, .so (mkB (c :: r))), (4, .io IntKind.u64 (↑n : Int)), (5, .io .i64 0), (6, .io .i64 (↑i : Int)), (44, .bo (decide ((↑n : Int) > 922337203685477580)))], []⟩ (by kernel_rfl) (by kernel_rfl) ?_
              rcases Bool.eq_false_or_eq_true (decide ((↑n : Int) > 922337203685477580)) with b1 | b1
              · refine At.res 44 (decide ((↑n : Int) > 922337203685477580)) true (by kernel_rfl) b1 ?_
                refine At.to (noF_stable) (noF_fewer) 0 300 [2, 3] 0 ⟨.exit .ret, [], [(2, .v (.int .i64 0)), (3, .v (.bool false))], []⟩ (by kernel_rfl) (by kernel_rfl) ?_
                refine At.ret (by kernel_rfl) (.tup [.v (.int .i64 0), .v (.bool false)]) (by kernel_rfl) ?_
                have hno : y.toNat < 48 ∨ 57 < y.toNat ∨ 922337203685477580 < n := by have := of_decide_eq_true b1; omega
                rw [numGo, if_pos hno] at h3
                subst h3
                intro ρ w9 hm hf
                exact ⟨rfl, hm.below⟩
              · refine At.res 44 (decide ((↑n : Int) > 922337203685477580)) false (by kernel_rfl) b1 ?_
                refine At.to (noF_stable) (noF_fewer) 0 300 [0, 5, 6, 46, 47, 48] 0 ⟨pops B37 [1, 1, 1, 1, 1, 0, 1, 4, 4, 1, 0, 4, 1] 4, [.block 1, .seq (sub B37 [1, 1, 1, 1, 1, 0, 1, 4, 4, 1, 1]), .next (Sx.Next w.heap.size w Tryd.f37.ntmps (frN (c :: r) 0) locN (GN (c :: r) 0 R) (muN (c :: r)) (NSt.mk i n)), .block 0, .seq (sub B37 [1, 1, 1, 1, 1, 1])], [(0, .so (mkB (c :: r))), (5, .io .i64 0), (6, .io .i64 (↑i : Int)), (46, .io IntKind.u64 (IntKind.u64.wrap ((↑n : Int) * 10))), (47, .so (mkB (c :: r))), (48, .io .i64 (↑i : Int))], []⟩ (by kernel_rfl) (by kernel_rfl) ?_
                refine At.six (mkB (c :: r)) (i : Int) y (by kernel_rfl) (by omega) (by rw [Int.toNat_natCast]; exact hz) noF_stable ?_
                refine At.to (noF_stable) (noF_fewer) 0 300 [0, 4, 5, 6] 0 ⟨.exit .normal, [.next (Sx.Next w.heap.size w Tryd.f37.ntmps (frN (c :: r) 0) locN (GN (c :: r) 0 R) (muN (c :: r)) (NSt.mk i n)), .block 0, .seq (sub B37 [1, 1, 1, 1, 1, 1])], [(0, .so (mkB (c :: r))), (4, .io IntKind.u64 (IntKind.u64.wrap (IntKind.u64.wrap ((↑n : Int) * 10) + IntKind.u64.wrap (IntKind.u8.wrap ((↑y.toNat : Int) - 48))))), (5, .io .i64 0), (6, .io .i64 (IntKind.i64.wrap ((↑i : Int) + 1)))], []⟩ (by kernel_rfl) (by kernel_rfl) ?_
                have hys : ¬ (y.toNat < 48 ∨ 57 < y.toNat ∨ 922337203685477580 < n) := by
                  have := of_decide_eq_false b0
                  have := of_decide_eq_false b1
                  omega
                rw [numGo, if_neg hys] at h3
                rw [stepN (by omega) (by omega) (by omega)]
                have hw3 : IntKind.i64.wrap ((i : Int) + 1) = ((i + 1 : Nat) : Int) := by
                  rw [wrap63 (by omega) (by omega)]
                  omega
                rw [hw3]
                refine At.next (σ := NSt) ⟨i + 1, n * 10 + (y.toNat - 48)⟩ rfl rfl (by unfold subFr; kernel_rfl) (by kernel_rfl) ?_ ?_
                · intro ρ a' w' hi' hf
                  exact ⟨hf, by simp only; omega, by simp only; omega, h3, by simp only; omega⟩
                · show (c :: r).length - (i + 1) < (c :: r).length - i
                  omega
        · refine At.res 28 (decide ((↑i : Int) < (↑(mkB (c :: r)).size : Int))) false (by kernel_rfl) b0 ?_
          refine At.to (noF_stable) (noF_fewer) 0 300 [0, 7, 56] 0 ⟨.code (sub B37 [1, 1, 1, 1, 1, 1, 1, 0, 1]), [.seq (sub B37 [1, 1, 1, 1, 1, 1, 1, 1])], [(0, .so (mkB (c :: r))), (7, .io .i64 (IntKind.i64.wrap (↑n : Int))), (56, .bo false)], []⟩ (by kernel_rfl) (by kernel_rfl) ?_
          refine At.res 56 (false) false (by kernel_rfl) (by first | assumption | (simp only [*]; done) | (simp [*]; done)) ?_
          refine At.to (noF_stable) (noF_fewer) 0 300 [0, 7, 59] 0 ⟨pops B37 [1, 1, 1, 1, 1, 1, 1, 1, 0, 0] 1, [.seq (sub B37 [1, 1, 1, 1, 1, 1, 1, 1, 0, 1]), .seq (sub B37 [1, 1, 1, 1, 1, 1, 1, 1, 1])], [(0, .so (mkB (c :: r))), (7, .io .i64 (IntKind.i64.wrap (↑n : Int))), (59, .io .i64 (IntKind.i64.wrap (↑n : Int)))], []⟩ (by kernel_rfl) (by kernel_rfl) ?_
          have hi : ¬ (i : Int) < ((mkB (c :: r)).size : Int) := of_decide_eq_false b0
          rw [mkB_size] at hi
          have hd : (c :: r).drop i = [] := List.drop_eq_nil_of_le (by omega)
          rw [hd, numGo] at h3
          subst h3
          refine At.to (noF_stable) (noF_fewer) 0 300 [0, 7, 59] 0 ⟨pops B37 [1, 1, 1, 1, 1, 1, 1, 1, 0, 0] 1, [.seq (sub B37 [1, 1, 1, 1, 1, 1, 1, 1, 0, 1]), .seq (sub B37 [1, 1, 1, 1, 1, 1, 1, 1, 1])], [(0, .so (mkB (c :: r))), (7, .io .i64 (IntKind.i64.wrap (↑n : Int))), (59, .io .i64 (IntKind.i64.wrap (↑n : Int)))], []⟩ (by kernel_rfl) (by kernel_rfl) ?_
          generalize hX : IntKind.i64.wrap (n : Int) = x
          have hxi : in64 x := by rw [← hX]; exact wrap_in _
          refine At.call noF_stable 47 [.io .i64 x] (.so (mkB (Lib.itoa x))) (by kernel_rfl) (by kernel_rfl) (by kernel_rfl) (fun _ _ w1 _ _ => rdigits_any x hxi w1) ?_
          refine At.to (noF_stable) (noF_fewer) 0 300 [7, 62] 0 ⟨.code (sub B37 [1, 1, 1, 1, 1, 1, 1, 1, 0, 1]), [.seq (sub B37 [1, 1, 1, 1, 1, 1, 1, 1, 1])], [(7, .io .i64 x), (62, .bo !(mkB (Lib.itoa x)).toList == (mkB (c :: r)).toList)], []⟩ (by kernel_rfl) (by kernel_rfl) ?_
          rcases Bool.eq_false_or_eq_true (!(mkB (Lib.itoa x)).toList == (mkB (c :: r)).toList) with b0 | b0
          · refine At.res 62 (!(mkB (Lib.itoa x)).toList == (mkB (c :: r)).toList) true (by kernel_rfl) b0 ?_
            refine At.to (noF_stable) (noF_fewer) 0 300 [2, 3] 0 ⟨.exit .ret, [], [(2, .v (.int .i64 0)), (3, .v (.bool false))], []⟩ (by kernel_rfl) (by kernel_rfl) ?_
            refine At.ret (by kernel_rfl) (.tup [.v (.int .i64 0), .v (.bool false)]) (by kernel_rfl) ?_
            have hne : Lib.itoa x ≠ c :: r := fun e => by
              rw [strB, e] at b0
              simp at b0
            rw [show numEnd false (c :: r) (some n) = none from by simp only [numEnd, cond_true, cond_false]; rw [hX, if_neg hne]]
            intro ρ w9 hm hf
            exact ⟨rfl, hm.below⟩
          · refine At.res 62 (!(mkB (Lib.itoa x)).toList == (mkB (c :: r)).toList) false (by kernel_rfl) b0 ?_
            refine At.to (noF_stable) (noF_fewer) 0 300 [2, 3] 0 ⟨.exit .ret, [], [(2, .io .i64 x), (3, .v (.bool true))], []⟩ (by kernel_rfl) (by kernel_rfl) ?_
            refine At.ret (by kernel_rfl) (.tup [.io .i64 x, .v (.bool true)]) (by kernel_rfl) ?_
            have hne : Lib.itoa x = c :: r := by
              rw [strB] at b0
              simpa using b0
            rw [show numEnd false (c :: r) (some n) = some x from by simp only [numEnd, cond_true, cond_false]; rw [hX, if_pos hne]]
            intro ρ w9 hm hf
            exact ⟨rfl, hm.below⟩

end Go.Proofs.YtkjnbafdmjakgaaDoor
