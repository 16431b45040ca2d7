import Derived.Test.YtkjnbafdmjakgaaDoorRA
set_option linter.unusedSimpArgs false
set_option linter.unusedVariables false
namespace Go.Proofs.YtkjnbafdmjakgaaDoor
open Go.RowKit Go.Sx

theorem dch_all : ∀ z : Fin 10, IntKind.u8.wrap (IntKind.u64.wrap (48 + ((z.val : Nat) : Int))) = ((48 + z.val : Nat) : Int) := by decide +kernel
theorem q10 (n : Nat) (h : n < 18446744073709551616) : IntKind.u64.wrap ((n : Int).tdiv 10) = ((n / 10 : Nat) : Int) := by
  rw [Int.tdiv_eq_ediv_of_nonneg (by omega)]
  simp only [IntKind.wrap, IntKind.bits, IntKind.signed]
  simp
  omega
theorem two_byte {n j b : Nat} {ρ : List Nat} (hj : [48 + n % 10][j]? = some b) : (([.io .u8 (IntKind.u8.wrap (IntKind.u64.wrap (48 + (n : Int).tmod 10)))] : List SV)[0 + j]?).map (SV.den ρ) = some (.int .u8 (b : Int)) := by
  cases j with
  | zero =>
    simp only [List.getElem?_cons_zero, Option.some.injEq] at hj
    subst hj
    have := dch_all ⟨n % 10, by omega⟩
    simp only at this
    have e : (n : Int).tmod 10 = ((n % 10 : Nat) : Int) := by rw [Int.tmod_eq_emod_of_nonneg (by omega)]; omega
    simp only [Nat.zero_add, List.getElem?_cons_zero, Option.map_some, SV.den, e, this]
  | succ j => simp at hj
theorem one_byte {n j b : Nat} {ρ : List Nat} (hn : n < 10) (hj : [48 + n][j]? = some b) : (([.io .u8 (IntKind.u8.wrap (IntKind.u64.wrap (48 + (n : Int))))] : List SV)[0 + j]?).map (SV.den ρ) = some (.int .u8 (b : Int)) := by
  cases j with
  | zero =>
    simp only [List.getElem?_cons_zero, Option.some.injEq] at hj
    subst hj
    have := dch_all ⟨n, hn⟩
    simp only at this
    simp only [Nat.zero_add, List.getElem?_cons_zero, Option.map_some, SV.den, this]
  | succ j => simp at hj

noncomputable def B70 : Code := (Tryd.f70.body).getD .skip
set_option maxHeartbeats 4000000 in
set_option maxRecDepth 100000 in
theorem digits_any : ∀ (m n : Nat), n ≤ m → n < 18446744073709551616 → ∀ w : World, Calls Tryd.prog 70 #[.int .u64 (n : Int)] w fun e w' => e = .returned (.string (mkB (Lib.decDigits n))) ∧ Below w.heap.size w w' := by
  intro m
  induction m with
  | zero =>
    intro n hn h64 w
    refine enter (fn := Tryd.f70) (c := B70) [.io .u64 (n : Int)] Tryd.func70 rfl rfl ?_
    refine At.to (noF_stable) (noF_fewer) 20 300 [0, 4] 0 ⟨.code (sub B70 [1, 0, 1]), [.seq (sub B70 [1, 1])], [(0, .io IntKind.u64 (↑n : Int)), (4, .bo (decide ((↑n : Int) < 10)))], []⟩ (by kernel_rfl) (by kernel_rfl) ?_
    rcases Bool.eq_false_or_eq_true (decide ((↑n : Int) < 10)) with b0 | b0
    · refine At.res 4 (decide ((↑n : Int) < 10)) true (by kernel_rfl) b0 ?_
      refine At.to (noF_stable) (noF_fewer) 20 300 [8] 1 ⟨pops B70 [1, 0, 1, 2, 0] 4, [.seq (sub B70 [1, 0, 1, 2, 1]), .seq (sub B70 [1, 1])], [(8, .ls 0 0 1 1)], [([.io IntKind.u8 (IntKind.u8.wrap (IntKind.u64.wrap (48 + (↑n : Int))))], 5)]⟩ (by kernel_rfl) (by kernel_rfl) ?_
      have hn10 : n < 10 := by have := of_decide_eq_true b0; omega
      have hd1 := Lib.decDigits_one hn10
      refine At.cvl 0 0 1 1 [48 + n] [.io .u8 (IntKind.u8.wrap (IntKind.u64.wrap (48 + (n : Int))))] 5 (.so (mkB (Lib.decDigits n))) (by kernel_rfl) rfl noF_stable rfl (fun ρ => by rw [hd1, strOf_eq]; rfl) (fun ρ j b hj => one_byte hn10 hj) ?_
      refine At.to (noF_stable) (noF_fewer) 20 300 [2] 0 ⟨.exit .ret, [], [(2, .so (mkB (Lib.decDigits n)))], []⟩ (by kernel_rfl) (by kernel_rfl) ?_
      refine At.ret (by kernel_rfl) (.so (mkB (Lib.decDigits n))) (by kernel_rfl) ?_
      intro ρ w9 hm hf
      exact ⟨rfl, hm.below⟩
    · refine At.res 4 (decide ((↑n : Int) < 10)) false (by kernel_rfl) b0 ?_
      refine At.to (noF_stable) (noF_fewer) 20 300 [0] 0 ⟨.any (opsOf (sub B70 [1, 1, 0])) 11 [], [.seq (sub B70 [1, 0, 1, 2, 1])], [(0, .io IntKind.u64 (↑n : Int))], []⟩ (by kernel_rfl) (by kernel_rfl) ?_
      exfalso
      have := of_decide_eq_false b0
      omega
  | succ m ih =>
    intro n hn h64 w
    refine enter (fn := Tryd.f70) (c := B70) [.io .u64 (n : Int)] Tryd.func70 rfl rfl ?_
    refine At.to (noF_stable) (noF_fewer) 20 300 [0, 4] 0 ⟨.code (sub B70 [1, 0, 1]), [.seq (sub B70 [1, 1])], [(0, .io IntKind.u64 (↑n : Int)), (4, .bo (decide ((↑n : Int) < 10)))], []⟩ (by kernel_rfl) (by kernel_rfl) ?_
    rcases Bool.eq_false_or_eq_true (decide ((↑n : Int) < 10)) with b0 | b0
    · refine At.res 4 (decide ((↑n : Int) < 10)) true (by kernel_rfl) b0 ?_
      refine At.to (noF_stable) (noF_fewer) 20 300 [8] 1 ⟨pops B70 [1, 0, 1, 2, 0] 4, [.seq (sub B70 [1, 0, 1, 2, 1]), .seq (sub B70 [1, 1])], [(8, .ls 0 0 1 1)], [([.io IntKind.u8 (IntKind.u8.wrap (IntKind.u64.wrap (48 + (↑n : Int))))], 5)]⟩ (by kernel_rfl) (by kernel_rfl) ?_
      have hn10 : n < 10 := by have := of_decide_eq_true b0; omega
      have hd1 := Lib.decDigits_one hn10
      refine At.cvl 0 0 1 1 [48 + n] [.io .u8 (IntKind.u8.wrap (IntKind.u64.wrap (48 + (n : Int))))] 5 (.so (mkB (Lib.decDigits n))) (by kernel_rfl) rfl noF_stable rfl (fun ρ => by rw [hd1, strOf_eq]; rfl) (fun ρ j b hj => one_byte hn10 hj) ?_
      refine At.to (noF_stable) (noF_fewer) 20 300 [2] 0 ⟨.exit .ret, [], [(2, .so (mkB (Lib.decDigits n)))], []⟩ (by kernel_rfl) (by kernel_rfl) ?_
      refine At.ret (by kernel_rfl) (.so (mkB (Lib.decDigits n))) (by kernel_rfl) ?_
      intro ρ w9 hm hf
      exact ⟨rfl, hm.below⟩
    · refine At.res 4 (decide ((↑n : Int) < 10)) false (by kernel_rfl) b0 ?_
      refine At.to (noF_stable) (noF_fewer) 20 300 [0] 0 ⟨.any (opsOf (sub B70 [1, 1, 0])) 11 [], [.seq (sub B70 [1, 0, 1, 2, 1])], [(0, .io IntKind.u64 (↑n : Int))], []⟩ (by kernel_rfl) (by kernel_rfl) ?_
      have hn10 : ¬ n < 10 := by have := of_decide_eq_false b0; omega
      refine At.cutN (σ := Unit) (fun _ => [(2, .so (mkB (Lib.decDigits n)))]) (fun _ => []) (fun _ => noF) rfl ?_ (fun _ => ?_)
      · refine At.purify0 (fun e a w h => h.1) 20 ?_
        refine At.to (noF_stable) (noF_fewer) 0 300 [11, 16] 0 ⟨.any (opsOf (sub B70 [1, 1, 0])) 5 [6, 5, 4, 3, 1, 0], [], [(11, .io IntKind.u64 (IntKind.u64.wrap ((↑n : Int).tdiv 10))), (16, .io IntKind.u8 (IntKind.u8.wrap (IntKind.u64.wrap (48 + (↑n : Int).tmod 10))))], []⟩ (by kernel_rfl) (by kernel_rfl) ?_
        refine At.fork [2, 7] rfl (by kernel_rfl) rfl (allOf.cons ?_ (allOf.cons ?_ allOf.nil))
        · refine At.to (noF_stable) (noF_fewer) 0 300 [11, 16] 0 ⟨.ops (opsOf (sub B70 [1, 1, 0])) (((opsOf (sub B70 [1, 1, 0])).toList.drop 2).take 1), [.any (opsOf (sub B70 [1, 1, 0])) 4 [2, 6, 5, 4, 3, 1, 0]], [(11, .io IntKind.u64 (IntKind.u64.wrap ((↑n : Int).tdiv 10))), (16, .io IntKind.u8 (IntKind.u8.wrap (IntKind.u64.wrap (48 + (↑n : Int).tmod 10))))], []⟩ (by kernel_rfl) (by kernel_rfl) ?_
          rw [q10 n (by omega)]
          refine At.call noF_stable 70 [.io .u64 ((n / 10 : Nat) : Int)] (.so (mkB (Lib.decDigits (n / 10)))) (by kernel_rfl) (by kernel_rfl) (by kernel_rfl) (fun _ _ w1 _ _ => ih (n / 10) (by omega) (by omega) w1) ?_
          refine At.to (noF_stable) (noF_fewer) 0 300 [12, 17] 1 ⟨.ops (opsOf (sub B70 [1, 1, 0])) (((opsOf (sub B70 [1, 1, 0])).toList.drop 8).take 1), [.any (opsOf (sub B70 [1, 1, 0])) 2 [8, 7, 2, 6, 5, 4, 3, 1, 0]], [(12, .so (mkB (Lib.decDigits (n / 10)))), (17, .ls 0 0 1 1)], [([.io IntKind.u8 (IntKind.u8.wrap (IntKind.u64.wrap (48 + (↑n : Int).tmod 10)))], 5)]⟩ (by kernel_rfl) (by kernel_rfl) ?_
          refine At.cvl 0 0 1 1 [48 + n % 10] [.io .u8 (IntKind.u8.wrap (IntKind.u64.wrap (48 + (n : Int).tmod 10)))] 5 (.so (mkB [UInt8.ofNat (48 + n % 10)])) (by kernel_rfl) rfl noF_stable rfl (fun ρ => by rw [strOf_eq]; rfl) (fun ρ j b hj => two_byte hj) ?_
          refine At.to (noF_stable) (noF_fewer) 0 300 [12, 18] 0 ⟨.ops (opsOf (sub B70 [1, 1, 0])) (((opsOf (sub B70 [1, 1, 0])).toList.drop 9).take 1), [.any (opsOf (sub B70 [1, 1, 0])) 1 [9, 8, 7, 2, 6, 5, 4, 3, 1, 0]], [(12, .so (mkB (Lib.decDigits (n / 10)))), (18, .so (mkB [UInt8.ofNat (48 + n % 10)]))], []⟩ (by kernel_rfl) (by kernel_rfl) ?_
          refine catW (Lib.decDigits (n / 10)) [UInt8.ofNat (48 + n % 10)] 19 1 (by kernel_rfl) (dec_len (by omega)) (by simp) (by decide) noF_stable fun t ht _ => ?_
          have ht2 : t = Lib.decDigits n := by rw [ht, Lib.decDigits.eq_1 n, dif_neg hn10]
          subst ht2
          refine At.to (noF_stable) (noF_fewer) 0 300 [2] 0 ⟨.exit .normal, [], [(2, .so (mkB (Lib.decDigits n)))], []⟩ (by kernel_rfl) (by kernel_rfl) ?_
          exact At.fin () rfl rfl (by unfold subFr; kernel_rfl) rfl (fun _ _ _ _ h => trivial)
        · refine At.to (noF_stable) (noF_fewer) 0 300 [11, 17] 1 ⟨.any (opsOf (sub B70 [1, 1, 0])) 4 [7, 6, 5, 4, 3, 1, 0], [], [(11, .io IntKind.u64 (IntKind.u64.wrap ((↑n : Int).tdiv 10))), (17, .ls 0 0 1 1)], [([.io IntKind.u8 (IntKind.u8.wrap (IntKind.u64.wrap (48 + (↑n : Int).tmod 10)))], 5)]⟩ (by kernel_rfl) (by kernel_rfl) ?_
          refine At.fork [2, 8] rfl (by kernel_rfl) rfl (allOf.cons ?_ (allOf.cons ?_ allOf.nil))
          · refine At.to (noF_stable) (noF_fewer) 0 300 [11, 17] 1 ⟨.ops (opsOf (sub B70 [1, 1, 0])) (((opsOf (sub B70 [1, 1, 0])).toList.drop 2).take 1), [.any (opsOf (sub B70 [1, 1, 0])) 3 [2, 7, 6, 5, 4, 3, 1, 0]], [(11, .io IntKind.u64 (IntKind.u64.wrap ((↑n : Int).tdiv 10))), (17, .ls 0 0 1 1)], [([.io IntKind.u8 (IntKind.u8.wrap (IntKind.u64.wrap (48 + (↑n : Int).tmod 10)))], 5)]⟩ (by kernel_rfl) (by kernel_rfl) ?_
            rw [q10 n (by omega)]
            refine At.call noF_stable 70 [.io .u64 ((n / 10 : Nat) : Int)] (.so (mkB (Lib.decDigits (n / 10)))) (by kernel_rfl) (by kernel_rfl) (by kernel_rfl) (fun _ _ w1 _ _ => ih (n / 10) (by omega) (by omega) w1) ?_
            refine At.to (noF_stable) (noF_fewer) 0 300 [12, 17] 1 ⟨.ops (opsOf (sub B70 [1, 1, 0])) (((opsOf (sub B70 [1, 1, 0])).toList.drop 8).take 1), [.any (opsOf (sub B70 [1, 1, 0])) 2 [8, 2, 7, 6, 5, 4, 3, 1, 0]], [(12, .so (mkB (Lib.decDigits (n / 10)))), (17, .ls 0 0 1 1)], [([.io IntKind.u8 (IntKind.u8.wrap (IntKind.u64.wrap (48 + (↑n : Int).tmod 10)))], 5)]⟩ (by kernel_rfl) (by kernel_rfl) ?_
            refine At.cvl 0 0 1 1 [48 + n % 10] [.io .u8 (IntKind.u8.wrap (IntKind.u64.wrap (48 + (n : Int).tmod 10)))] 5 (.so (mkB [UInt8.ofNat (48 + n % 10)])) (by kernel_rfl) rfl noF_stable rfl (fun ρ => by rw [strOf_eq]; rfl) (fun ρ j b hj => two_byte hj) ?_
            refine At.to (noF_stable) (noF_fewer) 0 300 [12, 18] 0 ⟨.ops (opsOf (sub B70 [1, 1, 0])) (((opsOf (sub B70 [1, 1, 0])).toList.drop 9).take 1), [.any (opsOf (sub B70 [1, 1, 0])) 1 [9, 8, 2, 7, 6, 5, 4, 3, 1, 0]], [(12, .so (mkB (Lib.decDigits (n / 10)))), (18, .so (mkB [UInt8.ofNat (48 + n % 10)]))], []⟩ (by kernel_rfl) (by kernel_rfl) ?_
            refine catW (Lib.decDigits (n / 10)) [UInt8.ofNat (48 + n % 10)] 19 1 (by kernel_rfl) (dec_len (by omega)) (by simp) (by decide) noF_stable fun t ht _ => ?_
            have ht2 : t = Lib.decDigits n := by rw [ht, Lib.decDigits.eq_1 n, dif_neg hn10]
            subst ht2
            refine At.to (noF_stable) (noF_fewer) 0 300 [2] 0 ⟨.exit .normal, [], [(2, .so (mkB (Lib.decDigits n)))], []⟩ (by kernel_rfl) (by kernel_rfl) ?_
            exact At.fin () rfl rfl (by unfold subFr; kernel_rfl) rfl (fun _ _ _ _ h => trivial)
          · refine At.to (noF_stable) (noF_fewer) 0 300 [11, 17] 1 ⟨.ops (opsOf (sub B70 [1, 1, 0])) (((opsOf (sub B70 [1, 1, 0])).toList.drop 8).take 1), [.any (opsOf (sub B70 [1, 1, 0])) 3 [8, 7, 6, 5, 4, 3, 1, 0]], [(11, .io IntKind.u64 (IntKind.u64.wrap ((↑n : Int).tdiv 10))), (17, .ls 0 0 1 1)], [([.io IntKind.u8 (IntKind.u8.wrap (IntKind.u64.wrap (48 + (↑n : Int).tmod 10)))], 5)]⟩ (by kernel_rfl) (by kernel_rfl) ?_
            refine At.cvl 0 0 1 1 [48 + n % 10] [.io .u8 (IntKind.u8.wrap (IntKind.u64.wrap (48 + (n : Int).tmod 10)))] 5 (.so (mkB [UInt8.ofNat (48 + n % 10)])) (by kernel_rfl) rfl noF_stable rfl (fun ρ => by rw [strOf_eq]; rfl) (fun ρ j b hj => two_byte hj) ?_
            refine At.to (noF_stable) (noF_fewer) 0 300 [11, 18] 0 ⟨.ops (opsOf (sub B70 [1, 1, 0])) (((opsOf (sub B70 [1, 1, 0])).toList.drop 2).take 1), [.any (opsOf (sub B70 [1, 1, 0])) 2 [2, 8, 7, 6, 5, 4, 3, 1, 0]], [(11, .io IntKind.u64 (IntKind.u64.wrap ((↑n : Int).tdiv 10))), (18, .so (mkB [UInt8.ofNat (48 + n % 10)]))], []⟩ (by kernel_rfl) (by kernel_rfl) ?_
            rw [q10 n (by omega)]
            refine At.call noF_stable 70 [.io .u64 ((n / 10 : Nat) : Int)] (.so (mkB (Lib.decDigits (n / 10)))) (by kernel_rfl) (by kernel_rfl) (by kernel_rfl) (fun _ _ w1 _ _ => ih (n / 10) (by omega) (by omega) w1) ?_
            refine At.to (noF_stable) (noF_fewer) 0 300 [12, 18] 0 ⟨.ops (opsOf (sub B70 [1, 1, 0])) (((opsOf (sub B70 [1, 1, 0])).toList.drop 9).take 1), [.any (opsOf (sub B70 [1, 1, 0])) 1 [9, 2, 8, 7, 6, 5, 4, 3, 1, 0]], [(12, .so (mkB (Lib.decDigits (n / 10)))), (18, .so (mkB [UInt8.ofNat (48 + n % 10)]))], []⟩ (by kernel_rfl) (by kernel_rfl) ?_
            refine catW (Lib.decDigits (n / 10)) [UInt8.ofNat (48 + n % 10)] 19 1 (by kernel_rfl) (dec_len (by omega)) (by simp) (by decide) noF_stable fun t ht _ => ?_
            have ht2 : t = Lib.decDigits n := by rw [ht, Lib.decDigits.eq_1 n, dif_neg hn10]
            subst ht2
            refine At.to (noF_stable) (noF_fewer) 0 300 [2] 0 ⟨.exit .normal, [], [(2, .so (mkB (Lib.decDigits n)))], []⟩ (by kernel_rfl) (by kernel_rfl) ?_
            exact At.fin () rfl rfl (by unfold subFr; kernel_rfl) rfl (fun _ _ _ _ h => trivial)
      · refine At.to (noF_stable) (noF_fewer) 0 300 [2] 0 ⟨.exit .ret, [], [(2, .so (mkB (Lib.decDigits n)))], []⟩ (by kernel_rfl) (by kernel_rfl) ?_
        refine At.ret (by kernel_rfl) (.so (mkB (Lib.decDigits n))) (by kernel_rfl) ?_
        intro ρ w9 hm hf
        exact ⟨rfl, hm.below⟩

noncomputable def B36 : Code := (Tryd.f36.body).getD .skip
set_option maxHeartbeats 4000000 in
set_option maxRecDepth 100000 in
theorem rname_any (k : Int) (w : World) : Calls Tryd.prog 36 #[.int .i64 k] w fun e w' => e = .returned (.string (mkB (kindN k))) ∧ Below w.heap.size w w' := by
  refine enter (fn := Tryd.f36) (c := B36) [.io .i64 k] Tryd.func36 rfl rfl ?_
  refine At.to (noF_stable) (noF_fewer) 20 300 [3, 4] 0 ⟨.code (sub B36 [1, 0, 1, 4, 1]), [.block 0, .seq (sub B36 [1, 1])], [(3, .io .i64 k), (4, .bo (k == 1))], []⟩ (by kernel_rfl) (by kernel_rfl) ?_
  rcases Bool.eq_false_or_eq_true (k == 1) with b0 | b0
  · refine At.res 4 (k == 1) true (by kernel_rfl) b0 ?_
    refine At.to (noF_stable) (noF_fewer) 20 300 [2] 0 ⟨.exit .ret, [], [(2, .v (.string (ByteArray.mk #[101, 97, 114, 108, 121])))], []⟩ (by kernel_rfl) (by kernel_rfl) ?_
    refine At.ret (by kernel_rfl) (.v (.string (ByteArray.mk #[101, 97, 114, 108, 121]))) (by kernel_rfl) ?_
    have hk : k = 1 := by simpa using b0
    subst hk
    intro ρ w9 hm hf
    exact ⟨rfl, hm.below⟩
  · refine At.res 4 (k == 1) false (by kernel_rfl) b0 ?_
    refine At.to (noF_stable) (noF_fewer) 20 300 [6] 0 ⟨.code (sub B36 [1, 0, 1, 4, 1, 3, 1]), [.block 0, .seq (sub B36 [1, 1])], [(6, .bo (k == 2))], []⟩ (by kernel_rfl) (by kernel_rfl) ?_
    rcases Bool.eq_false_or_eq_true (k == 2) with b1 | b1
    · refine At.res 6 (k == 2) true (by kernel_rfl) b1 ?_
      refine At.to (noF_stable) (noF_fewer) 20 300 [2] 0 ⟨.exit .ret, [], [(2, .v (.string (ByteArray.mk #[111, 110, 116, 105, 109, 101])))], []⟩ (by kernel_rfl) (by kernel_rfl) ?_
      refine At.ret (by kernel_rfl) (.v (.string (ByteArray.mk #[111, 110, 116, 105, 109, 101]))) (by kernel_rfl) ?_
      have hk : k = 2 := by simpa using b1
      subst hk
      intro ρ w9 hm hf
      exact ⟨rfl, hm.below⟩
    · refine At.res 6 (k == 2) false (by kernel_rfl) b1 ?_
      refine At.to (noF_stable) (noF_fewer) 20 300 [2] 0 ⟨.exit .ret, [], [(2, .v (.string (ByteArray.mk #[108, 97, 116, 101])))], []⟩ (by kernel_rfl) (by kernel_rfl) ?_
      refine At.ret (by kernel_rfl) (.v (.string (ByteArray.mk #[108, 97, 116, 101]))) (by kernel_rfl) ?_
      have h1 : k ≠ 1 := by simpa using b0
      have h2 : k ≠ 2 := by simpa using b1
      intro ρ w9 hm hf
      exact ⟨by rw [show kindN k = [108, 97, 116, 101] by unfold kindN; rw [if_neg h1, if_neg h2]]; rfl, hm.below⟩

noncomputable def B38 : Code := (Tryd.f38.body).getD .skip
set_option maxHeartbeats 4000000 in
set_option maxRecDepth 100000 in
theorem rmay_any (key : ByteArray) (st en kd nt ct sm mn mx : Int) (w : World) : Calls Tryd.prog 38 #[.agg #[.string key, .int .i64 st, .int .i64 en, .int .i64 kd, .int .i64 nt, .int .i64 ct, .int .i64 sm, .int .i64 mn, .int .i64 mx]] w fun e w' => e = .returned (.bool (mayP key kd)) ∧ Below w.heap.size w w' := by
  refine enter (fn := Tryd.f38) (c := B38) [.agg (paneL key st en kd nt ct sm mn mx)] Tryd.func38 rfl rfl ?_
  refine At.to (noF_stable) (noF_fewer) 20 300 [1, 7] 1 ⟨pops B38 [1, 0] 5, [.seq (sub B38 [1, 1])], [(1, .lp 0 0), (7, .bo (decide ((↑key.size : Int) ≤ 256)))], [([.so key, .io .i64 st, .io .i64 en, .io .i64 kd, .io .i64 nt, .io .i64 ct, .io .i64 sm, .io .i64 mn, .io .i64 mx], 29)]⟩ (by kernel_rfl) (by kernel_rfl) ?_
  rcases Bool.eq_false_or_eq_true (decide ((↑key.size : Int) ≤ 256)) with b0 | b0
  · refine At.res 7 (decide ((↑key.size : Int) ≤ 256)) true (by kernel_rfl) b0 ?_
    refine At.to (noF_stable) (noF_fewer) 20 300 [1, 12] 1 ⟨pops B38 [1, 0] 10, [.seq (sub B38 [1, 1])], [(1, .lp 0 0), (12, .bo (decide (kd ≥ 1)))], [([.so key, .io .i64 st, .io .i64 en, .io .i64 kd, .io .i64 nt, .io .i64 ct, .io .i64 sm, .io .i64 mn, .io .i64 mx], 29)]⟩ (by kernel_rfl) (by kernel_rfl) ?_
    rcases Bool.eq_false_or_eq_true (decide (kd ≥ 1)) with b1 | b1
    · refine At.res 12 (decide (kd ≥ 1)) true (by kernel_rfl) b1 ?_
      refine At.to (noF_stable) (noF_fewer) 20 300 [2] 0 ⟨.exit .ret, [], [(2, .bo (decide (kd ≤ 3)))], []⟩ (by kernel_rfl) (by kernel_rfl) ?_
      refine At.ret (by kernel_rfl) (.bo (decide (kd ≤ 3))) (by kernel_rfl) ?_
      intro ρ w9 hm hf
      refine ⟨?_, hm.below⟩
      simp only [mayP, *, Bool.true_and, Bool.false_and]
      rfl
    · refine At.res 12 (decide (kd ≥ 1)) false (by kernel_rfl) b1 ?_
      refine At.to (noF_stable) (noF_fewer) 20 300 [2] 0 ⟨.exit .ret, [], [(2, .v (.bool false))], []⟩ (by kernel_rfl) (by kernel_rfl) ?_
      refine At.ret (by kernel_rfl) (.v (.bool false)) (by kernel_rfl) ?_
      intro ρ w9 hm hf
      refine ⟨?_, hm.below⟩
      simp only [mayP, *, Bool.true_and, Bool.false_and]
      rfl
  · refine At.res 7 (decide ((↑key.size : Int) ≤ 256)) false (by kernel_rfl) b0 ?_
    refine At.to (noF_stable) (noF_fewer) 20 300 [2] 0 ⟨.exit .ret, [], [(2, .v (.bool false))], []⟩ (by kernel_rfl) (by kernel_rfl) ?_
    refine At.ret (by kernel_rfl) (.v (.bool false)) (by kernel_rfl) ?_
    intro ρ w9 hm hf
    refine ⟨?_, hm.below⟩
    simp only [mayP, *, Bool.true_and, Bool.false_and]
    rfl

noncomputable def B47 : Code := (Tryd.f47.body).getD .skip
set_option maxHeartbeats 4000000 in
set_option maxRecDepth 100000 in
theorem rdigits_any (n : Int) (h : in64 n) (w : World) : Calls Tryd.prog 47 #[.int .i64 n] w fun e w' => e = .returned (.string (mkB (Lib.itoa n))) ∧ Below w.heap.size w w' := by
  obtain ⟨h1, h2⟩ := h
  refine enter (fn := Tryd.f47) (c := B47) [.io .i64 n] Tryd.func47 rfl rfl ?_
  refine At.to (noF_stable) (noF_fewer) 20 300 [0, 4] 0 ⟨.code (sub B47 [1, 0, 1]), [.seq (sub B47 [1, 1])], [(0, .io .i64 n), (4, .bo (decide (n < 0)))], []⟩ (by kernel_rfl) (by kernel_rfl) ?_
  rcases Bool.eq_false_or_eq_true (decide (n < 0)) with b0 | b0
  · refine At.res 4 (decide (n < 0)) true (by kernel_rfl) b0 ?_
    refine At.to (noF_stable) (noF_fewer) 20 300 [9] 0 ⟨pops B47 [1, 0, 1, 2, 0] 5, [.seq (sub B47 [1, 0, 1, 2, 1]), .seq (sub B47 [1, 1])], [(9, .io IntKind.u64 (IntKind.u64.wrap (IntKind.u64.wrap (IntKind.i64.wrap (0 - IntKind.i64.wrap (n + 1))) + 1)))], []⟩ (by kernel_rfl) (by kernel_rfl) ?_
    have hn : n < 0 := of_decide_eq_true b0
    have e1 : IntKind.u64.wrap (IntKind.u64.wrap (IntKind.i64.wrap (0 - IntKind.i64.wrap (n + 1))) + 1) = ((n.natAbs : Nat) : Int) := by
      rw [wrap_id (x := n + 1) ⟨by omega, by omega⟩, wrap_id (x := 0 - (n + 1)) ⟨by omega, by omega⟩]
      simp only [IntKind.wrap, IntKind.bits, IntKind.signed]
      simp
      omega
    rw [e1]
    refine At.call noF_stable 70 [.io .u64 ((n.natAbs : Nat) : Int)] (.so (mkB (Lib.decDigits n.natAbs))) (by kernel_rfl) (by kernel_rfl) (by kernel_rfl) (fun _ _ w1 _ _ => digits_any n.natAbs n.natAbs (Nat.le_refl _) (by omega) w1) ?_
    refine At.to (noF_stable) (noF_fewer) 20 300 [10] 0 ⟨pops B47 [1, 0, 1, 2, 0] 6, [.seq (sub B47 [1, 0, 1, 2, 1]), .seq (sub B47 [1, 1])], [(10, .so (mkB (Lib.decDigits n.natAbs)))], []⟩ (by kernel_rfl) (by kernel_rfl) ?_
    refine catW [45] (Lib.decDigits n.natAbs) 1 19 (by kernel_rfl) (by simp) (dec_len (by omega)) (by decide) noF_stable fun t ht _ => ?_
    have ht2 : t = Lib.itoa n := by rw [ht]; unfold Lib.itoa; rw [if_pos hn]; rfl
    subst ht2
    refine At.to (noF_stable) (noF_fewer) 20 300 [2] 0 ⟨.exit .ret, [], [(2, .so (mkB (Lib.itoa n)))], []⟩ (by kernel_rfl) (by kernel_rfl) ?_
    refine At.ret (by kernel_rfl) (.so (mkB (Lib.itoa n))) (by kernel_rfl) ?_
    intro ρ w9 hm hf
    exact ⟨rfl, hm.below⟩
  · refine At.res 4 (decide (n < 0)) false (by kernel_rfl) b0 ?_
    refine At.to (noF_stable) (noF_fewer) 20 300 [13] 0 ⟨pops B47 [1, 1, 0] 2, [.seq (sub B47 [1, 0, 1, 2, 1])], [(13, .io IntKind.u64 (IntKind.u64.wrap n))], []⟩ (by kernel_rfl) (by kernel_rfl) ?_
    have hn : ¬ n < 0 := of_decide_eq_false b0
    have e1 : IntKind.u64.wrap n = ((n.toNat : Nat) : Int) := by
      simp only [IntKind.wrap, IntKind.bits, IntKind.signed]
      simp
      omega
    rw [e1]
    refine At.call noF_stable 70 [.io .u64 ((n.toNat : Nat) : Int)] (.so (mkB (Lib.decDigits n.toNat))) (by kernel_rfl) (by kernel_rfl) (by kernel_rfl) (fun _ _ w1 _ _ => digits_any n.toNat n.toNat (Nat.le_refl _) (by omega) w1) ?_
    refine At.to (noF_stable) (noF_fewer) 20 300 [2] 0 ⟨.exit .ret, [], [(2, .so (mkB (Lib.decDigits n.toNat)))], []⟩ (by kernel_rfl) (by kernel_rfl) ?_
    refine At.ret (by kernel_rfl) (.so (mkB (Lib.decDigits n.toNat))) (by kernel_rfl) ?_
    intro ρ w9 hm hf
    exact ⟨by rw [show Lib.itoa n = Lib.decDigits n.toNat by unfold Lib.itoa; rw [if_neg hn]]; rfl, hm.below⟩

end Go.Proofs.YtkjnbafdmjakgaaDoor
