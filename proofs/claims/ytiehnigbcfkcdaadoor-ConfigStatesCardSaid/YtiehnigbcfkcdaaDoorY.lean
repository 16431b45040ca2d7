import Derived.Test.YtiehnigbcfkcdaaDoorX
set_option linter.unusedSimpArgs false
set_option linter.unusedVariables false
namespace Go.Proofs.YtiehnigbcfkcdaaDoor
open Go.RowKit Go.Sx
noncomputable def B43 : Code := (Tryd.f43.body).getD .skip
set_option maxHeartbeats 4000000 in
set_option maxRecDepth 100000 in
theorem kcopy_some (key : ByteArray) (dr : Int) (a : Addr) (n c : Nat) (ws : List Wn) (hl : ws.length = n) (hn : n * 72 ≤ 140737488351232) (w : World) (hsrc : Src w a (wv ws)) :
    Calls Tryd.prog 43 #[.agg #[.string key, .int .i64 dr, .slice (some a) n c]] w fun e w' => ∃ A' n' c', e = .returned (.agg #[.string key, .int .i64 dr, .slice A' n' c']) ∧ RowF w (fun _ => False) [] w.heap.size 89 9 A' n' c' (wv ws) [] w' := by
  refine enter (fn := Tryd.f43) (c := B43) [.agg [.so key, .io .i64 dr, .sl (some a) n c]] Tryd.func43 rfl rfl ?_
  refine At.to (noF_stable) (noF_fewer) 20 300 [1, 2] 2 ⟨.any (opsOf (sub B43 [1, 0])) 10 [], [.seq (sub B43 [1, 1])], [(1, .lp 0 0), (2, .lp 1 0)], [([.so key, .io .i64 dr, .sl (some a) n c], 50), ([.v (.string (ByteArray.mk #[])), .v (.int .i64 0), .v (.slice none 0 0)], 50)]⟩ (by kernel_rfl) (by kernel_rfl) ?_
  refine At.cutN (σ := Option Addr × Nat) (fun _ => [(2, .lp 1 0)]) (fun x => [([.so key, .io .i64 dr, .sl (some a) n c], 50), ([.so key, .io .i64 dr, .sl x.1 n x.2], 50)]) (fun x => RowF w (fun _ => False) [] w.heap.size 89 9 x.1 n x.2 (wv ws)) rfl ?_ (fun x => ?_)
  · refine At.purify0 (fun e a w h => h.1) 20 ?_
    refine At.to (noF_stable) (noF_fewer) 20 300 [2, 3, 5, 8] 2 ⟨.any (opsOf (sub B43 [1, 0])) 7 [5, 2, 0], [], [(2, .lp 1 0), (3, .lp 0 0), (5, .lp 0 1), (8, .lp 0 2)], [([.so key, .io .i64 dr, .sl (some a) n c], 50), ([.v (.string (ByteArray.mk #[])), .v (.int .i64 0), .v (.slice none 0 0)], 50)]⟩ (by kernel_rfl) (by kernel_rfl) ?_
    refine At.fork [1, 3, 4, 6] rfl (by kernel_rfl) rfl (allOf.cons ?_ (allOf.cons ?_ (allOf.cons ?_ (allOf.cons ?_ allOf.nil))))
    · refine At.to (noF_stable) (noF_fewer) 20 300 [2, 4, 5, 8] 2 ⟨.any (opsOf (sub B43 [1, 0])) 6 [1, 5, 2, 0], [], [(2, .lp 1 0), (4, .so key), (5, .lp 0 1), (8, .lp 0 2)], [([.so key, .io .i64 dr, .sl (some a) n c], 50), ([.v (.string (ByteArray.mk #[])), .v (.int .i64 0), .v (.slice none 0 0)], 50)]⟩ (by kernel_rfl) (by kernel_rfl) ?_
      refine At.fork [3, 4, 6] rfl (by kernel_rfl) rfl (allOf.cons ?_ (allOf.cons ?_ (allOf.cons ?_ allOf.nil)))
      · refine At.to (noF_stable) (noF_fewer) 20 300 [2, 4, 6, 8] 2 ⟨.any (opsOf (sub B43 [1, 0])) 5 [3, 1, 5, 2, 0], [], [(2, .lp 1 0), (4, .so key), (6, .io .i64 dr), (8, .lp 0 2)], [([.so key, .io .i64 dr, .sl (some a) n c], 50), ([.v (.string (ByteArray.mk #[])), .v (.int .i64 0), .v (.slice none 0 0)], 50)]⟩ (by kernel_rfl) (by kernel_rfl) ?_
        refine At.fork [4, 6] rfl (by kernel_rfl) rfl (allOf.cons ?_ (allOf.cons ?_ allOf.nil))
        · refine At.to (noF_stable) (noF_fewer) 20 300 [2, 4, 6, 7, 9] 3 ⟨.ops (opsOf (sub B43 [1, 0])) (((opsOf (sub B43 [1, 0])).toList.drop 7).take 1), [.any (opsOf (sub B43 [1, 0])) 2 [7, 6, 4, 3, 1, 5, 2, 0]], [(2, .lp 1 0), (4, .so key), (6, .io .i64 dr), (7, .ls 2 0 0 0), (9, .sl (some a) n c)], [([.so key, .io .i64 dr, .sl (some a) n c], 50), ([.v (.string (ByteArray.mk #[])), .v (.int .i64 0), .v (.slice none 0 0)], 50), ([], 89)]⟩ (by kernel_rfl) (by kernel_rfl) ?_
          refine At.lsRow 7 [2, 4, 6, 9] 2 89 9 rfl rfl rfl rfl (by kernel_rfl) ?_
          intro A
          refine At.appOut 89 9 72 A 0 0 a n c (fun _ => False) [] w.heap.size [] (wv ws) (by kernel_rfl) (by rw [wv_len, hl]) (wv_one _) (fun ρ w1 hm hf => src_low hsrc hm.below) (by omega) (by simp only [maxLen]; omega) (Nat.le_refl _) ?_
          intro A1 c1
          rw [Nat.zero_add, List.nil_append]
          refine At.toJ (RowF.stable) RowF.fewer 20 300 [2] 2 ⟨.exit .normal, [], [(2, .lp 1 0)], [([.so key, .io .i64 dr, .sl (some a) n c], 50), ([.so key, .io .i64 dr, .sl A1 n c1], 50)]⟩ (by kernel_rfl) (by kernel_rfl) ?_
          exact At.fin (A1, c1) rfl rfl (by unfold subFr; kernel_rfl) rfl (fun _ _ _ _ h => h)
        · refine At.to (noF_stable) (noF_fewer) 20 300 [2, 4, 6, 7, 9] 3 ⟨.ops (opsOf (sub B43 [1, 0])) (((opsOf (sub B43 [1, 0])).toList.drop 7).take 1), [.any (opsOf (sub B43 [1, 0])) 2 [7, 4, 6, 3, 1, 5, 2, 0]], [(2, .lp 1 0), (4, .so key), (6, .io .i64 dr), (7, .ls 2 0 0 0), (9, .sl (some a) n c)], [([.so key, .io .i64 dr, .sl (some a) n c], 50), ([.v (.string (ByteArray.mk #[])), .v (.int .i64 0), .v (.slice none 0 0)], 50), ([], 89)]⟩ (by kernel_rfl) (by kernel_rfl) ?_
          refine At.lsRow 7 [2, 4, 6, 9] 2 89 9 rfl rfl rfl rfl (by kernel_rfl) ?_
          intro A
          refine At.appOut 89 9 72 A 0 0 a n c (fun _ => False) [] w.heap.size [] (wv ws) (by kernel_rfl) (by rw [wv_len, hl]) (wv_one _) (fun ρ w1 hm hf => src_low hsrc hm.below) (by omega) (by simp only [maxLen]; omega) (Nat.le_refl _) ?_
          intro A1 c1
          rw [Nat.zero_add, List.nil_append]
          refine At.toJ (RowF.stable) RowF.fewer 20 300 [2] 2 ⟨.exit .normal, [], [(2, .lp 1 0)], [([.so key, .io .i64 dr, .sl (some a) n c], 50), ([.so key, .io .i64 dr, .sl A1 n c1], 50)]⟩ (by kernel_rfl) (by kernel_rfl) ?_
          exact At.fin (A1, c1) rfl rfl (by unfold subFr; kernel_rfl) rfl (fun _ _ _ _ h => h)
      · refine At.to (noF_stable) (noF_fewer) 20 300 [2, 4, 5, 7, 8] 3 ⟨.any (opsOf (sub B43 [1, 0])) 5 [4, 1, 5, 2, 0], [], [(2, .lp 1 0), (4, .so key), (5, .lp 0 1), (7, .ls 2 0 0 0), (8, .lp 0 2)], [([.so key, .io .i64 dr, .sl (some a) n c], 50), ([.v (.string (ByteArray.mk #[])), .v (.int .i64 0), .v (.slice none 0 0)], 50), ([], 89)]⟩ (by kernel_rfl) (by kernel_rfl) ?_
        refine At.fork [3, 6] rfl (by kernel_rfl) rfl (allOf.cons ?_ (allOf.cons ?_ allOf.nil))
        · refine At.to (noF_stable) (noF_fewer) 20 300 [2, 4, 6, 7, 9] 3 ⟨.ops (opsOf (sub B43 [1, 0])) (((opsOf (sub B43 [1, 0])).toList.drop 7).take 1), [.any (opsOf (sub B43 [1, 0])) 2 [7, 6, 3, 4, 1, 5, 2, 0]], [(2, .lp 1 0), (4, .so key), (6, .io .i64 dr), (7, .ls 2 0 0 0), (9, .sl (some a) n c)], [([.so key, .io .i64 dr, .sl (some a) n c], 50), ([.v (.string (ByteArray.mk #[])), .v (.int .i64 0), .v (.slice none 0 0)], 50), ([], 89)]⟩ (by kernel_rfl) (by kernel_rfl) ?_
          refine At.lsRow 7 [2, 4, 6, 9] 2 89 9 rfl rfl rfl rfl (by kernel_rfl) ?_
          intro A
          refine At.appOut 89 9 72 A 0 0 a n c (fun _ => False) [] w.heap.size [] (wv ws) (by kernel_rfl) (by rw [wv_len, hl]) (wv_one _) (fun ρ w1 hm hf => src_low hsrc hm.below) (by omega) (by simp only [maxLen]; omega) (Nat.le_refl _) ?_
          intro A1 c1
          rw [Nat.zero_add, List.nil_append]
          refine At.toJ (RowF.stable) RowF.fewer 20 300 [2] 2 ⟨.exit .normal, [], [(2, .lp 1 0)], [([.so key, .io .i64 dr, .sl (some a) n c], 50), ([.so key, .io .i64 dr, .sl A1 n c1], 50)]⟩ (by kernel_rfl) (by kernel_rfl) ?_
          exact At.fin (A1, c1) rfl rfl (by unfold subFr; kernel_rfl) rfl (fun _ _ _ _ h => h)
        · refine At.to (noF_stable) (noF_fewer) 20 300 [2, 4, 5, 7, 9] 3 ⟨.any (opsOf (sub B43 [1, 0])) 4 [6, 4, 1, 5, 2, 0], [], [(2, .lp 1 0), (4, .so key), (5, .lp 0 1), (7, .ls 2 0 0 0), (9, .sl (some a) n c)], [([.so key, .io .i64 dr, .sl (some a) n c], 50), ([.v (.string (ByteArray.mk #[])), .v (.int .i64 0), .v (.slice none 0 0)], 50), ([], 89)]⟩ (by kernel_rfl) (by kernel_rfl) ?_
          refine At.fork [3, 7] rfl (by kernel_rfl) rfl (allOf.cons ?_ (allOf.cons ?_ allOf.nil))
          · refine At.to (noF_stable) (noF_fewer) 20 300 [2, 4, 6, 7, 9] 3 ⟨.ops (opsOf (sub B43 [1, 0])) (((opsOf (sub B43 [1, 0])).toList.drop 7).take 1), [.any (opsOf (sub B43 [1, 0])) 2 [7, 3, 6, 4, 1, 5, 2, 0]], [(2, .lp 1 0), (4, .so key), (6, .io .i64 dr), (7, .ls 2 0 0 0), (9, .sl (some a) n c)], [([.so key, .io .i64 dr, .sl (some a) n c], 50), ([.v (.string (ByteArray.mk #[])), .v (.int .i64 0), .v (.slice none 0 0)], 50), ([], 89)]⟩ (by kernel_rfl) (by kernel_rfl) ?_
            refine At.lsRow 7 [2, 4, 6, 9] 2 89 9 rfl rfl rfl rfl (by kernel_rfl) ?_
            intro A
            refine At.appOut 89 9 72 A 0 0 a n c (fun _ => False) [] w.heap.size [] (wv ws) (by kernel_rfl) (by rw [wv_len, hl]) (wv_one _) (fun ρ w1 hm hf => src_low hsrc hm.below) (by omega) (by simp only [maxLen]; omega) (Nat.le_refl _) ?_
            intro A1 c1
            rw [Nat.zero_add, List.nil_append]
            refine At.toJ (RowF.stable) RowF.fewer 20 300 [2] 2 ⟨.exit .normal, [], [(2, .lp 1 0)], [([.so key, .io .i64 dr, .sl (some a) n c], 50), ([.so key, .io .i64 dr, .sl A1 n c1], 50)]⟩ (by kernel_rfl) (by kernel_rfl) ?_
            exact At.fin (A1, c1) rfl rfl (by unfold subFr; kernel_rfl) rfl (fun _ _ _ _ h => h)
          · refine At.to (noF_stable) (noF_fewer) 20 300 [2, 4, 5, 7, 9] 3 ⟨.ops (opsOf (sub B43 [1, 0])) (((opsOf (sub B43 [1, 0])).toList.drop 7).take 1), [.any (opsOf (sub B43 [1, 0])) 3 [7, 6, 4, 1, 5, 2, 0]], [(2, .lp 1 0), (4, .so key), (5, .lp 0 1), (7, .ls 2 0 0 0), (9, .sl (some a) n c)], [([.so key, .io .i64 dr, .sl (some a) n c], 50), ([.v (.string (ByteArray.mk #[])), .v (.int .i64 0), .v (.slice none 0 0)], 50), ([], 89)]⟩ (by kernel_rfl) (by kernel_rfl) ?_
            refine At.lsRow 7 [2, 4, 5, 9] 2 89 9 rfl rfl rfl rfl (by kernel_rfl) ?_
            intro A
            refine At.appOut 89 9 72 A 0 0 a n c (fun _ => False) [] w.heap.size [] (wv ws) (by kernel_rfl) (by rw [wv_len, hl]) (wv_one _) (fun ρ w1 hm hf => src_low hsrc hm.below) (by omega) (by simp only [maxLen]; omega) (Nat.le_refl _) ?_
            intro A1 c1
            rw [Nat.zero_add, List.nil_append]
            refine At.toJ (RowF.stable) RowF.fewer 20 300 [2] 2 ⟨.exit .normal, [], [(2, .lp 1 0)], [([.so key, .io .i64 dr, .sl (some a) n c], 50), ([.so key, .io .i64 dr, .sl A1 n c1], 50)]⟩ (by kernel_rfl) (by kernel_rfl) ?_
            exact At.fin (A1, c1) rfl rfl (by unfold subFr; kernel_rfl) rfl (fun _ _ _ _ h => h)
      · refine At.to (noF_stable) (noF_fewer) 20 300 [2, 4, 5, 9] 2 ⟨.any (opsOf (sub B43 [1, 0])) 5 [6, 1, 5, 2, 0], [], [(2, .lp 1 0), (4, .so key), (5, .lp 0 1), (9, .sl (some a) n c)], [([.so key, .io .i64 dr, .sl (some a) n c], 50), ([.v (.string (ByteArray.mk #[])), .v (.int .i64 0), .v (.slice none 0 0)], 50)]⟩ (by kernel_rfl) (by kernel_rfl) ?_
        refine At.fork [3, 4] rfl (by kernel_rfl) rfl (allOf.cons ?_ (allOf.cons ?_ allOf.nil))
        · refine At.to (noF_stable) (noF_fewer) 20 300 [2, 4, 6, 7, 9] 3 ⟨.ops (opsOf (sub B43 [1, 0])) (((opsOf (sub B43 [1, 0])).toList.drop 7).take 1), [.any (opsOf (sub B43 [1, 0])) 2 [7, 4, 3, 6, 1, 5, 2, 0]], [(2, .lp 1 0), (4, .so key), (6, .io .i64 dr), (7, .ls 2 0 0 0), (9, .sl (some a) n c)], [([.so key, .io .i64 dr, .sl (some a) n c], 50), ([.v (.string (ByteArray.mk #[])), .v (.int .i64 0), .v (.slice none 0 0)], 50), ([], 89)]⟩ (by kernel_rfl) (by kernel_rfl) ?_
          refine At.lsRow 7 [2, 4, 6, 9] 2 89 9 rfl rfl rfl rfl (by kernel_rfl) ?_
          intro A
          refine At.appOut 89 9 72 A 0 0 a n c (fun _ => False) [] w.heap.size [] (wv ws) (by kernel_rfl) (by rw [wv_len, hl]) (wv_one _) (fun ρ w1 hm hf => src_low hsrc hm.below) (by omega) (by simp only [maxLen]; omega) (Nat.le_refl _) ?_
          intro A1 c1
          rw [Nat.zero_add, List.nil_append]
          refine At.toJ (RowF.stable) RowF.fewer 20 300 [2] 2 ⟨.exit .normal, [], [(2, .lp 1 0)], [([.so key, .io .i64 dr, .sl (some a) n c], 50), ([.so key, .io .i64 dr, .sl A1 n c1], 50)]⟩ (by kernel_rfl) (by kernel_rfl) ?_
          exact At.fin (A1, c1) rfl rfl (by unfold subFr; kernel_rfl) rfl (fun _ _ _ _ h => h)
        · refine At.to (noF_stable) (noF_fewer) 20 300 [2, 4, 5, 7, 9] 3 ⟨.any (opsOf (sub B43 [1, 0])) 4 [4, 6, 1, 5, 2, 0], [], [(2, .lp 1 0), (4, .so key), (5, .lp 0 1), (7, .ls 2 0 0 0), (9, .sl (some a) n c)], [([.so key, .io .i64 dr, .sl (some a) n c], 50), ([.v (.string (ByteArray.mk #[])), .v (.int .i64 0), .v (.slice none 0 0)], 50), ([], 89)]⟩ (by kernel_rfl) (by kernel_rfl) ?_
          refine At.fork [3, 7] rfl (by kernel_rfl) rfl (allOf.cons ?_ (allOf.cons ?_ allOf.nil))
          · refine At.to (noF_stable) (noF_fewer) 20 300 [2, 4, 6, 7, 9] 3 ⟨.ops (opsOf (sub B43 [1, 0])) (((opsOf (sub B43 [1, 0])).toList.drop 7).take 1), [.any (opsOf (sub B43 [1, 0])) 2 [7, 3, 4, 6, 1, 5, 2, 0]], [(2, .lp 1 0), (4, .so key), (6, .io .i64 dr), (7, .ls 2 0 0 0), (9, .sl (some a) n c)], [([.so key, .io .i64 dr, .sl (some a) n c], 50), ([.v (.string (ByteArray.mk #[])), .v (.int .i64 0), .v (.slice none 0 0)], 50), ([], 89)]⟩ (by kernel_rfl) (by kernel_rfl) ?_
            refine At.lsRow 7 [2, 4, 6, 9] 2 89 9 rfl rfl rfl rfl (by kernel_rfl) ?_
            intro A
            refine At.appOut 89 9 72 A 0 0 a n c (fun _ => False) [] w.heap.size [] (wv ws) (by kernel_rfl) (by rw [wv_len, hl]) (wv_one _) (fun ρ w1 hm hf => src_low hsrc hm.below) (by omega) (by simp only [maxLen]; omega) (Nat.le_refl _) ?_
            intro A1 c1
            rw [Nat.zero_add, List.nil_append]
            refine At.toJ (RowF.stable) RowF.fewer 20 300 [2] 2 ⟨.exit .normal, [], [(2, .lp 1 0)], [([.so key, .io .i64 dr, .sl (some a) n c], 50), ([.so key, .io .i64 dr, .sl A1 n c1], 50)]⟩ (by kernel_rfl) (by kernel_rfl) ?_
            exact At.fin (A1, c1) rfl rfl (by unfold subFr; kernel_rfl) rfl (fun _ _ _ _ h => h)
          · refine At.to (noF_stable) (noF_fewer) 20 300 [2, 4, 5, 7, 9] 3 ⟨.ops (opsOf (sub B43 [1, 0])) (((opsOf (sub B43 [1, 0])).toList.drop 7).take 1), [.any (opsOf (sub B43 [1, 0])) 3 [7, 4, 6, 1, 5, 2, 0]], [(2, .lp 1 0), (4, .so key), (5, .lp 0 1), (7, .ls 2 0 0 0), (9, .sl (some a) n c)], [([.so key, .io .i64 dr, .sl (some a) n c], 50), ([.v (.string (ByteArray.mk #[])), .v (.int .i64 0), .v (.slice none 0 0)], 50), ([], 89)]⟩ (by kernel_rfl) (by kernel_rfl) ?_
            refine At.lsRow 7 [2, 4, 5, 9] 2 89 9 rfl rfl rfl rfl (by kernel_rfl) ?_
            intro A
            refine At.appOut 89 9 72 A 0 0 a n c (fun _ => False) [] w.heap.size [] (wv ws) (by kernel_rfl) (by rw [wv_len, hl]) (wv_one _) (fun ρ w1 hm hf => src_low hsrc hm.below) (by omega) (by simp only [maxLen]; omega) (Nat.le_refl _) ?_
            intro A1 c1
            rw [Nat.zero_add, List.nil_append]
            refine At.toJ (RowF.stable) RowF.fewer 20 300 [2] 2 ⟨.exit .normal, [], [(2, .lp 1 0)], [([.so key, .io .i64 dr, .sl (some a) n c], 50), ([.so key, .io .i64 dr, .sl A1 n c1], 50)]⟩ (by kernel_rfl) (by kernel_rfl) ?_
            exact At.fin (A1, c1) rfl rfl (by unfold subFr; kernel_rfl) rfl (fun _ _ _ _ h => h)
    · refine At.to (noF_stable) (noF_fewer) 20 300 [2, 3, 6, 8] 2 ⟨.any (opsOf (sub B43 [1, 0])) 6 [3, 5, 2, 0], [], [(2, .lp 1 0), (3, .lp 0 0), (6, .io .i64 dr), (8, .lp 0 2)], [([.so key, .io .i64 dr, .sl (some a) n c], 50), ([.v (.string (ByteArray.mk #[])), .v (.int .i64 0), .v (.slice none 0 0)], 50)]⟩ (by kernel_rfl) (by kernel_rfl) ?_
      refine At.fork [1, 4, 6] rfl (by kernel_rfl) rfl (allOf.cons ?_ (allOf.cons ?_ (allOf.cons ?_ allOf.nil)))
      · refine At.to (noF_stable) (noF_fewer) 20 300 [2, 4, 6, 8] 2 ⟨.any (opsOf (sub B43 [1, 0])) 5 [1, 3, 5, 2, 0], [], [(2, .lp 1 0), (4, .so key), (6, .io .i64 dr), (8, .lp 0 2)], [([.so key, .io .i64 dr, .sl (some a) n c], 50), ([.v (.string (ByteArray.mk #[])), .v (.int .i64 0), .v (.slice none 0 0)], 50)]⟩ (by kernel_rfl) (by kernel_rfl) ?_
        refine At.fork [4, 6] rfl (by kernel_rfl) rfl (allOf.cons ?_ (allOf.cons ?_ allOf.nil))
        · refine At.to (noF_stable) (noF_fewer) 20 300 [2, 4, 6, 7, 9] 3 ⟨.ops (opsOf (sub B43 [1, 0])) (((opsOf (sub B43 [1, 0])).toList.drop 7).take 1), [.any (opsOf (sub B43 [1, 0])) 2 [7, 6, 4, 1, 3, 5, 2, 0]], [(2, .lp 1 0), (4, .so key), (6, .io .i64 dr), (7, .ls 2 0 0 0), (9, .sl (some a) n c)], [([.so key, .io .i64 dr, .sl (some a) n c], 50), ([.v (.string (ByteArray.mk #[])), .v (.int .i64 0), .v (.slice none 0 0)], 50), ([], 89)]⟩ (by kernel_rfl) (by kernel_rfl) ?_
          refine At.lsRow 7 [2, 4, 6, 9] 2 89 9 rfl rfl rfl rfl (by kernel_rfl) ?_
          intro A
          refine At.appOut 89 9 72 A 0 0 a n c (fun _ => False) [] w.heap.size [] (wv ws) (by kernel_rfl) (by rw [wv_len, hl]) (wv_one _) (fun ρ w1 hm hf => src_low hsrc hm.below) (by omega) (by simp only [maxLen]; omega) (Nat.le_refl _) ?_
          intro A1 c1
          rw [Nat.zero_add, List.nil_append]
          refine At.toJ (RowF.stable) RowF.fewer 20 300 [2] 2 ⟨.exit .normal, [], [(2, .lp 1 0)], [([.so key, .io .i64 dr, .sl (some a) n c], 50), ([.so key, .io .i64 dr, .sl A1 n c1], 50)]⟩ (by kernel_rfl) (by kernel_rfl) ?_
          exact At.fin (A1, c1) rfl rfl (by unfold subFr; kernel_rfl) rfl (fun _ _ _ _ h => h)
        · refine At.to (noF_stable) (noF_fewer) 20 300 [2, 4, 6, 7, 9] 3 ⟨.ops (opsOf (sub B43 [1, 0])) (((opsOf (sub B43 [1, 0])).toList.drop 7).take 1), [.any (opsOf (sub B43 [1, 0])) 2 [7, 4, 6, 1, 3, 5, 2, 0]], [(2, .lp 1 0), (4, .so key), (6, .io .i64 dr), (7, .ls 2 0 0 0), (9, .sl (some a) n c)], [([.so key, .io .i64 dr, .sl (some a) n c], 50), ([.v (.string (ByteArray.mk #[])), .v (.int .i64 0), .v (.slice none 0 0)], 50), ([], 89)]⟩ (by kernel_rfl) (by kernel_rfl) ?_
          refine At.lsRow 7 [2, 4, 6, 9] 2 89 9 rfl rfl rfl rfl (by kernel_rfl) ?_
          intro A
          refine At.appOut 89 9 72 A 0 0 a n c (fun _ => False) [] w.heap.size [] (wv ws) (by kernel_rfl) (by rw [wv_len, hl]) (wv_one _) (fun ρ w1 hm hf => src_low hsrc hm.below) (by omega) (by simp only [maxLen]; omega) (Nat.le_refl _) ?_
          intro A1 c1
          rw [Nat.zero_add, List.nil_append]
          refine At.toJ (RowF.stable) RowF.fewer 20 300 [2] 2 ⟨.exit .normal, [], [(2, .lp 1 0)], [([.so key, .io .i64 dr, .sl (some a) n c], 50), ([.so key, .io .i64 dr, .sl A1 n c1], 50)]⟩ (by kernel_rfl) (by kernel_rfl) ?_
          exact At.fin (A1, c1) rfl rfl (by unfold subFr; kernel_rfl) rfl (fun _ _ _ _ h => h)
      · refine At.to (noF_stable) (noF_fewer) 20 300 [2, 3, 6, 7, 8] 3 ⟨.any (opsOf (sub B43 [1, 0])) 5 [4, 3, 5, 2, 0], [], [(2, .lp 1 0), (3, .lp 0 0), (6, .io .i64 dr), (7, .ls 2 0 0 0), (8, .lp 0 2)], [([.so key, .io .i64 dr, .sl (some a) n c], 50), ([.v (.string (ByteArray.mk #[])), .v (.int .i64 0), .v (.slice none 0 0)], 50), ([], 89)]⟩ (by kernel_rfl) (by kernel_rfl) ?_
        refine At.fork [1, 6] rfl (by kernel_rfl) rfl (allOf.cons ?_ (allOf.cons ?_ allOf.nil))
        · refine At.to (noF_stable) (noF_fewer) 20 300 [2, 4, 6, 7, 9] 3 ⟨.ops (opsOf (sub B43 [1, 0])) (((opsOf (sub B43 [1, 0])).toList.drop 7).take 1), [.any (opsOf (sub B43 [1, 0])) 2 [7, 6, 1, 4, 3, 5, 2, 0]], [(2, .lp 1 0), (4, .so key), (6, .io .i64 dr), (7, .ls 2 0 0 0), (9, .sl (some a) n c)], [([.so key, .io .i64 dr, .sl (some a) n c], 50), ([.v (.string (ByteArray.mk #[])), .v (.int .i64 0), .v (.slice none 0 0)], 50), ([], 89)]⟩ (by kernel_rfl) (by kernel_rfl) ?_
          refine At.lsRow 7 [2, 4, 6, 9] 2 89 9 rfl rfl rfl rfl (by kernel_rfl) ?_
          intro A
          refine At.appOut 89 9 72 A 0 0 a n c (fun _ => False) [] w.heap.size [] (wv ws) (by kernel_rfl) (by rw [wv_len, hl]) (wv_one _) (fun ρ w1 hm hf => src_low hsrc hm.below) (by omega) (by simp only [maxLen]; omega) (Nat.le_refl _) ?_
          intro A1 c1
          rw [Nat.zero_add, List.nil_append]
          refine At.toJ (RowF.stable) RowF.fewer 20 300 [2] 2 ⟨.exit .normal, [], [(2, .lp 1 0)], [([.so key, .io .i64 dr, .sl (some a) n c], 50), ([.so key, .io .i64 dr, .sl A1 n c1], 50)]⟩ (by kernel_rfl) (by kernel_rfl) ?_
          exact At.fin (A1, c1) rfl rfl (by unfold subFr; kernel_rfl) rfl (fun _ _ _ _ h => h)
        · refine At.to (noF_stable) (noF_fewer) 20 300 [2, 3, 6, 7, 9] 3 ⟨.any (opsOf (sub B43 [1, 0])) 4 [6, 4, 3, 5, 2, 0], [], [(2, .lp 1 0), (3, .lp 0 0), (6, .io .i64 dr), (7, .ls 2 0 0 0), (9, .sl (some a) n c)], [([.so key, .io .i64 dr, .sl (some a) n c], 50), ([.v (.string (ByteArray.mk #[])), .v (.int .i64 0), .v (.slice none 0 0)], 50), ([], 89)]⟩ (by kernel_rfl) (by kernel_rfl) ?_
          refine At.fork [1, 7] rfl (by kernel_rfl) rfl (allOf.cons ?_ (allOf.cons ?_ allOf.nil))
          · refine At.to (noF_stable) (noF_fewer) 20 300 [2, 4, 6, 7, 9] 3 ⟨.ops (opsOf (sub B43 [1, 0])) (((opsOf (sub B43 [1, 0])).toList.drop 7).take 1), [.any (opsOf (sub B43 [1, 0])) 2 [7, 1, 6, 4, 3, 5, 2, 0]], [(2, .lp 1 0), (4, .so key), (6, .io .i64 dr), (7, .ls 2 0 0 0), (9, .sl (some a) n c)], [([.so key, .io .i64 dr, .sl (some a) n c], 50), ([.v (.string (ByteArray.mk #[])), .v (.int .i64 0), .v (.slice none 0 0)], 50), ([], 89)]⟩ (by kernel_rfl) (by kernel_rfl) ?_
            refine At.lsRow 7 [2, 4, 6, 9] 2 89 9 rfl rfl rfl rfl (by kernel_rfl) ?_
            intro A
            refine At.appOut 89 9 72 A 0 0 a n c (fun _ => False) [] w.heap.size [] (wv ws) (by kernel_rfl) (by rw [wv_len, hl]) (wv_one _) (fun ρ w1 hm hf => src_low hsrc hm.below) (by omega) (by simp only [maxLen]; omega) (Nat.le_refl _) ?_
            intro A1 c1
            rw [Nat.zero_add, List.nil_append]
            refine At.toJ (RowF.stable) RowF.fewer 20 300 [2] 2 ⟨.exit .normal, [], [(2, .lp 1 0)], [([.so key, .io .i64 dr, .sl (some a) n c], 50), ([.so key, .io .i64 dr, .sl A1 n c1], 50)]⟩ (by kernel_rfl) (by kernel_rfl) ?_
            exact At.fin (A1, c1) rfl rfl (by unfold subFr; kernel_rfl) rfl (fun _ _ _ _ h => h)
          · refine At.to (noF_stable) (noF_fewer) 20 300 [2, 3, 6, 7, 9] 3 ⟨.ops (opsOf (sub B43 [1, 0])) (((opsOf (sub B43 [1, 0])).toList.drop 7).take 1), [.any (opsOf (sub B43 [1, 0])) 3 [7, 6, 4, 3, 5, 2, 0]], [(2, .lp 1 0), (3, .lp 0 0), (6, .io .i64 dr), (7, .ls 2 0 0 0), (9, .sl (some a) n c)], [([.so key, .io .i64 dr, .sl (some a) n c], 50), ([.v (.string (ByteArray.mk #[])), .v (.int .i64 0), .v (.slice none 0 0)], 50), ([], 89)]⟩ (by kernel_rfl) (by kernel_rfl) ?_
            refine At.lsRow 7 [2, 3, 6, 9] 2 89 9 rfl rfl rfl rfl (by kernel_rfl) ?_
            intro A
            refine At.appOut 89 9 72 A 0 0 a n c (fun _ => False) [] w.heap.size [] (wv ws) (by kernel_rfl) (by rw [wv_len, hl]) (wv_one _) (fun ρ w1 hm hf => src_low hsrc hm.below) (by omega) (by simp only [maxLen]; omega) (Nat.le_refl _) ?_
            intro A1 c1
            rw [Nat.zero_add, List.nil_append]
            refine At.toJ (RowF.stable) RowF.fewer 20 300 [2] 2 ⟨.exit .normal, [], [(2, .lp 1 0)], [([.so key, .io .i64 dr, .sl (some a) n c], 50), ([.so key, .io .i64 dr, .sl A1 n c1], 50)]⟩ (by kernel_rfl) (by kernel_rfl) ?_
            exact At.fin (A1, c1) rfl rfl (by unfold subFr; kernel_rfl) rfl (fun _ _ _ _ h => h)
      · refine At.to (noF_stable) (noF_fewer) 20 300 [2, 3, 6, 9] 2 ⟨.any (opsOf (sub B43 [1, 0])) 5 [6, 3, 5, 2, 0], [], [(2, .lp 1 0), (3, .lp 0 0), (6, .io .i64 dr), (9, .sl (some a) n c)], [([.so key, .io .i64 dr, .sl (some a) n c], 50), ([.v (.string (ByteArray.mk #[])), .v (.int .i64 0), .v (.slice none 0 0)], 50)]⟩ (by kernel_rfl) (by kernel_rfl) ?_
        refine At.fork [1, 4] rfl (by kernel_rfl) rfl (allOf.cons ?_ (allOf.cons ?_ allOf.nil))
        · refine At.to (noF_stable) (noF_fewer) 20 300 [2, 4, 6, 7, 9] 3 ⟨.ops (opsOf (sub B43 [1, 0])) (((opsOf (sub B43 [1, 0])).toList.drop 7).take 1), [.any (opsOf (sub B43 [1, 0])) 2 [7, 4, 1, 6, 3, 5, 2, 0]], [(2, .lp 1 0), (4, .so key), (6, .io .i64 dr), (7, .ls 2 0 0 0), (9, .sl (some a) n c)], [([.so key, .io .i64 dr, .sl (some a) n c], 50), ([.v (.string (ByteArray.mk #[])), .v (.int .i64 0), .v (.slice none 0 0)], 50), ([], 89)]⟩ (by kernel_rfl) (by kernel_rfl) ?_
          refine At.lsRow 7 [2, 4, 6, 9] 2 89 9 rfl rfl rfl rfl (by kernel_rfl) ?_
          intro A
          refine At.appOut 89 9 72 A 0 0 a n c (fun _ => False) [] w.heap.size [] (wv ws) (by kernel_rfl) (by rw [wv_len, hl]) (wv_one _) (fun ρ w1 hm hf => src_low hsrc hm.below) (by omega) (by simp only [maxLen]; omega) (Nat.le_refl _) ?_
          intro A1 c1
          rw [Nat.zero_add, List.nil_append]
          refine At.toJ (RowF.stable) RowF.fewer 20 300 [2] 2 ⟨.exit .normal, [], [(2, .lp 1 0)], [([.so key, .io .i64 dr, .sl (some a) n c], 50), ([.so key, .io .i64 dr, .sl A1 n c1], 50)]⟩ (by kernel_rfl) (by kernel_rfl) ?_
          exact At.fin (A1, c1) rfl rfl (by unfold subFr; kernel_rfl) rfl (fun _ _ _ _ h => h)
        · refine At.to (noF_stable) (noF_fewer) 20 300 [2, 3, 6, 7, 9] 3 ⟨.any (opsOf (sub B43 [1, 0])) 4 [4, 6, 3, 5, 2, 0], [], [(2, .lp 1 0), (3, .lp 0 0), (6, .io .i64 dr), (7, .ls 2 0 0 0), (9, .sl (some a) n c)], [([.so key, .io .i64 dr, .sl (some a) n c], 50), ([.v (.string (ByteArray.mk #[])), .v (.int .i64 0), .v (.slice none 0 0)], 50), ([], 89)]⟩ (by kernel_rfl) (by kernel_rfl) ?_
          refine At.fork [1, 7] rfl (by kernel_rfl) rfl (allOf.cons ?_ (allOf.cons ?_ allOf.nil))
          · refine At.to (noF_stable) (noF_fewer) 20 300 [2, 4, 6, 7, 9] 3 ⟨.ops (opsOf (sub B43 [1, 0])) (((opsOf (sub B43 [1, 0])).toList.drop 7).take 1), [.any (opsOf (sub B43 [1, 0])) 2 [7, 1, 4, 6, 3, 5, 2, 0]], [(2, .lp 1 0), (4, .so key), (6, .io .i64 dr), (7, .ls 2 0 0 0), (9, .sl (some a) n c)], [([.so key, .io .i64 dr, .sl (some a) n c], 50), ([.v (.string (ByteArray.mk #[])), .v (.int .i64 0), .v (.slice none 0 0)], 50), ([], 89)]⟩ (by kernel_rfl) (by kernel_rfl) ?_
            refine At.lsRow 7 [2, 4, 6, 9] 2 89 9 rfl rfl rfl rfl (by kernel_rfl) ?_
            intro A
            refine At.appOut 89 9 72 A 0 0 a n c (fun _ => False) [] w.heap.size [] (wv ws) (by kernel_rfl) (by rw [wv_len, hl]) (wv_one _) (fun ρ w1 hm hf => src_low hsrc hm.below) (by omega) (by simp only [maxLen]; omega) (Nat.le_refl _) ?_
            intro A1 c1
            rw [Nat.zero_add, List.nil_append]
            refine At.toJ (RowF.stable) RowF.fewer 20 300 [2] 2 ⟨.exit .normal, [], [(2, .lp 1 0)], [([.so key, .io .i64 dr, .sl (some a) n c], 50), ([.so key, .io .i64 dr, .sl A1 n c1], 50)]⟩ (by kernel_rfl) (by kernel_rfl) ?_
            exact At.fin (A1, c1) rfl rfl (by unfold subFr; kernel_rfl) rfl (fun _ _ _ _ h => h)
          · refine At.to (noF_stable) (noF_fewer) 20 300 [2, 3, 6, 7, 9] 3 ⟨.ops (opsOf (sub B43 [1, 0])) (((opsOf (sub B43 [1, 0])).toList.drop 7).take 1), [.any (opsOf (sub B43 [1, 0])) 3 [7, 4, 6, 3, 5, 2, 0]], [(2, .lp 1 0), (3, .lp 0 0), (6, .io .i64 dr), (7, .ls 2 0 0 0), (9, .sl (some a) n c)], [([.so key, .io .i64 dr, .sl (some a) n c], 50), ([.v (.string (ByteArray.mk #[])), .v (.int .i64 0), .v (.slice none 0 0)], 50), ([], 89)]⟩ (by kernel_rfl) (by kernel_rfl) ?_
            refine At.lsRow 7 [2, 3, 6, 9] 2 89 9 rfl rfl rfl rfl (by kernel_rfl) ?_
            intro A
            refine At.appOut 89 9 72 A 0 0 a n c (fun _ => False) [] w.heap.size [] (wv ws) (by kernel_rfl) (by rw [wv_len, hl]) (wv_one _) (fun ρ w1 hm hf => src_low hsrc hm.below) (by omega) (by simp only [maxLen]; omega) (Nat.le_refl _) ?_
            intro A1 c1
            rw [Nat.zero_add, List.nil_append]
            refine At.toJ (RowF.stable) RowF.fewer 20 300 [2] 2 ⟨.exit .normal, [], [(2, .lp 1 0)], [([.so key, .io .i64 dr, .sl (some a) n c], 50), ([.so key, .io .i64 dr, .sl A1 n c1], 50)]⟩ (by kernel_rfl) (by kernel_rfl) ?_
            exact At.fin (A1, c1) rfl rfl (by unfold subFr; kernel_rfl) rfl (fun _ _ _ _ h => h)
    · refine At.to (noF_stable) (noF_fewer) 20 300 [2, 3, 5, 7, 8] 3 ⟨.any (opsOf (sub B43 [1, 0])) 6 [4, 5, 2, 0], [], [(2, .lp 1 0), (3, .lp 0 0), (5, .lp 0 1), (7, .ls 2 0 0 0), (8, .lp 0 2)], [([.so key, .io .i64 dr, .sl (some a) n c], 50), ([.v (.string (ByteArray.mk #[])), .v (.int .i64 0), .v (.slice none 0 0)], 50), ([], 89)]⟩ (by kernel_rfl) (by kernel_rfl) ?_
      refine At.fork [1, 3, 6] rfl (by kernel_rfl) rfl (allOf.cons ?_ (allOf.cons ?_ (allOf.cons ?_ allOf.nil)))
      · refine At.to (noF_stable) (noF_fewer) 20 300 [2, 4, 5, 7, 8] 3 ⟨.any (opsOf (sub B43 [1, 0])) 5 [1, 4, 5, 2, 0], [], [(2, .lp 1 0), (4, .so key), (5, .lp 0 1), (7, .ls 2 0 0 0), (8, .lp 0 2)], [([.so key, .io .i64 dr, .sl (some a) n c], 50), ([.v (.string (ByteArray.mk #[])), .v (.int .i64 0), .v (.slice none 0 0)], 50), ([], 89)]⟩ (by kernel_rfl) (by kernel_rfl) ?_
        refine At.fork [3, 6] rfl (by kernel_rfl) rfl (allOf.cons ?_ (allOf.cons ?_ allOf.nil))
        · refine At.to (noF_stable) (noF_fewer) 20 300 [2, 4, 6, 7, 9] 3 ⟨.ops (opsOf (sub B43 [1, 0])) (((opsOf (sub B43 [1, 0])).toList.drop 7).take 1), [.any (opsOf (sub B43 [1, 0])) 2 [7, 6, 3, 1, 4, 5, 2, 0]], [(2, .lp 1 0), (4, .so key), (6, .io .i64 dr), (7, .ls 2 0 0 0), (9, .sl (some a) n c)], [([.so key, .io .i64 dr, .sl (some a) n c], 50), ([.v (.string (ByteArray.mk #[])), .v (.int .i64 0), .v (.slice none 0 0)], 50), ([], 89)]⟩ (by kernel_rfl) (by kernel_rfl) ?_
          refine At.lsRow 7 [2, 4, 6, 9] 2 89 9 rfl rfl rfl rfl (by kernel_rfl) ?_
          intro A
          refine At.appOut 89 9 72 A 0 0 a n c (fun _ => False) [] w.heap.size [] (wv ws) (by kernel_rfl) (by rw [wv_len, hl]) (wv_one _) (fun ρ w1 hm hf => src_low hsrc hm.below) (by omega) (by simp only [maxLen]; omega) (Nat.le_refl _) ?_
          intro A1 c1
          rw [Nat.zero_add, List.nil_append]
          refine At.toJ (RowF.stable) RowF.fewer 20 300 [2] 2 ⟨.exit .normal, [], [(2, .lp 1 0)], [([.so key, .io .i64 dr, .sl (some a) n c], 50), ([.so key, .io .i64 dr, .sl A1 n c1], 50)]⟩ (by kernel_rfl) (by kernel_rfl) ?_
          exact At.fin (A1, c1) rfl rfl (by unfold subFr; kernel_rfl) rfl (fun _ _ _ _ h => h)
        · refine At.to (noF_stable) (noF_fewer) 20 300 [2, 4, 5, 7, 9] 3 ⟨.any (opsOf (sub B43 [1, 0])) 4 [6, 1, 4, 5, 2, 0], [], [(2, .lp 1 0), (4, .so key), (5, .lp 0 1), (7, .ls 2 0 0 0), (9, .sl (some a) n c)], [([.so key, .io .i64 dr, .sl (some a) n c], 50), ([.v (.string (ByteArray.mk #[])), .v (.int .i64 0), .v (.slice none 0 0)], 50), ([], 89)]⟩ (by kernel_rfl) (by kernel_rfl) ?_
          refine At.fork [3, 7] rfl (by kernel_rfl) rfl (allOf.cons ?_ (allOf.cons ?_ allOf.nil))
          · refine At.to (noF_stable) (noF_fewer) 20 300 [2, 4, 6, 7, 9] 3 ⟨.ops (opsOf (sub B43 [1, 0])) (((opsOf (sub B43 [1, 0])).toList.drop 7).take 1), [.any (opsOf (sub B43 [1, 0])) 2 [7, 3, 6, 1, 4, 5, 2, 0]], [(2, .lp 1 0), (4, .so key), (6, .io .i64 dr), (7, .ls 2 0 0 0), (9, .sl (some a) n c)], [([.so key, .io .i64 dr, .sl (some a) n c], 50), ([.v (.string (ByteArray.mk #[])), .v (.int .i64 0), .v (.slice none 0 0)], 50), ([], 89)]⟩ (by kernel_rfl) (by kernel_rfl) ?_
            refine At.lsRow 7 [2, 4, 6, 9] 2 89 9 rfl rfl rfl rfl (by kernel_rfl) ?_
            intro A
            refine At.appOut 89 9 72 A 0 0 a n c (fun _ => False) [] w.heap.size [] (wv ws) (by kernel_rfl) (by rw [wv_len, hl]) (wv_one _) (fun ρ w1 hm hf => src_low hsrc hm.below) (by omega) (by simp only [maxLen]; omega) (Nat.le_refl _) ?_
            intro A1 c1
            rw [Nat.zero_add, List.nil_append]
            refine At.toJ (RowF.stable) RowF.fewer 20 300 [2] 2 ⟨.exit .normal, [], [(2, .lp 1 0)], [([.so key, .io .i64 dr, .sl (some a) n c], 50), ([.so key, .io .i64 dr, .sl A1 n c1], 50)]⟩ (by kernel_rfl) (by kernel_rfl) ?_
            exact At.fin (A1, c1) rfl rfl (by unfold subFr; kernel_rfl) rfl (fun _ _ _ _ h => h)
          · refine At.to (noF_stable) (noF_fewer) 20 300 [2, 4, 5, 7, 9] 3 ⟨.ops (opsOf (sub B43 [1, 0])) (((opsOf (sub B43 [1, 0])).toList.drop 7).take 1), [.any (opsOf (sub B43 [1, 0])) 3 [7, 6, 1, 4, 5, 2, 0]], [(2, .lp 1 0), (4, .so key), (5, .lp 0 1), (7, .ls 2 0 0 0), (9, .sl (some a) n c)], [([.so key, .io .i64 dr, .sl (some a) n c], 50), ([.v (.string (ByteArray.mk #[])), .v (.int .i64 0), .v (.slice none 0 0)], 50), ([], 89)]⟩ (by kernel_rfl) (by kernel_rfl) ?_
            refine At.lsRow 7 [2, 4, 5, 9] 2 89 9 rfl rfl rfl rfl (by kernel_rfl) ?_
            intro A
            refine At.appOut 89 9 72 A 0 0 a n c (fun _ => False) [] w.heap.size [] (wv ws) (by kernel_rfl) (by rw [wv_len, hl]) (wv_one _) (fun ρ w1 hm hf => src_low hsrc hm.below) (by omega) (by simp only [maxLen]; omega) (Nat.le_refl _) ?_
            intro A1 c1
            rw [Nat.zero_add, List.nil_append]
            refine At.toJ (RowF.stable) RowF.fewer 20 300 [2] 2 ⟨.exit .normal, [], [(2, .lp 1 0)], [([.so key, .io .i64 dr, .sl (some a) n c], 50), ([.so key, .io .i64 dr, .sl A1 n c1], 50)]⟩ (by kernel_rfl) (by kernel_rfl) ?_
            exact At.fin (A1, c1) rfl rfl (by unfold subFr; kernel_rfl) rfl (fun _ _ _ _ h => h)
      · refine At.to (noF_stable) (noF_fewer) 20 300 [2, 3, 6, 7, 8] 3 ⟨.any (opsOf (sub B43 [1, 0])) 5 [3, 4, 5, 2, 0], [], [(2, .lp 1 0), (3, .lp 0 0), (6, .io .i64 dr), (7, .ls 2 0 0 0), (8, .lp 0 2)], [([.so key, .io .i64 dr, .sl (some a) n c], 50), ([.v (.string (ByteArray.mk #[])), .v (.int .i64 0), .v (.slice none 0 0)], 50), ([], 89)]⟩ (by kernel_rfl) (by kernel_rfl) ?_
        refine At.fork [1, 6] rfl (by kernel_rfl) rfl (allOf.cons ?_ (allOf.cons ?_ allOf.nil))
        · refine At.to (noF_stable) (noF_fewer) 20 300 [2, 4, 6, 7, 9] 3 ⟨.ops (opsOf (sub B43 [1, 0])) (((opsOf (sub B43 [1, 0])).toList.drop 7).take 1), [.any (opsOf (sub B43 [1, 0])) 2 [7, 6, 1, 3, 4, 5, 2, 0]], [(2, .lp 1 0), (4, .so key), (6, .io .i64 dr), (7, .ls 2 0 0 0), (9, .sl (some a) n c)], [([.so key, .io .i64 dr, .sl (some a) n c], 50), ([.v (.string (ByteArray.mk #[])), .v (.int .i64 0), .v (.slice none 0 0)], 50), ([], 89)]⟩ (by kernel_rfl) (by kernel_rfl) ?_
          refine At.lsRow 7 [2, 4, 6, 9] 2 89 9 rfl rfl rfl rfl (by kernel_rfl) ?_
          intro A
          refine At.appOut 89 9 72 A 0 0 a n c (fun _ => False) [] w.heap.size [] (wv ws) (by kernel_rfl) (by rw [wv_len, hl]) (wv_one _) (fun ρ w1 hm hf => src_low hsrc hm.below) (by omega) (by simp only [maxLen]; omega) (Nat.le_refl _) ?_
          intro A1 c1
          rw [Nat.zero_add, List.nil_append]
          refine At.toJ (RowF.stable) RowF.fewer 20 300 [2] 2 ⟨.exit .normal, [], [(2, .lp 1 0)], [([.so key, .io .i64 dr, .sl (some a) n c], 50), ([.so key, .io .i64 dr, .sl A1 n c1], 50)]⟩ (by kernel_rfl) (by kernel_rfl) ?_
          exact At.fin (A1, c1) rfl rfl (by unfold subFr; kernel_rfl) rfl (fun _ _ _ _ h => h)
        · refine At.to (noF_stable) (noF_fewer) 20 300 [2, 3, 6, 7, 9] 3 ⟨.any (opsOf (sub B43 [1, 0])) 4 [6, 3, 4, 5, 2, 0], [], [(2, .lp 1 0), (3, .lp 0 0), (6, .io .i64 dr), (7, .ls 2 0 0 0), (9, .sl (some a) n c)], [([.so key, .io .i64 dr, .sl (some a) n c], 50), ([.v (.string (ByteArray.mk #[])), .v (.int .i64 0), .v (.slice none 0 0)], 50), ([], 89)]⟩ (by kernel_rfl) (by kernel_rfl) ?_
          refine At.fork [1, 7] rfl (by kernel_rfl) rfl (allOf.cons ?_ (allOf.cons ?_ allOf.nil))
          · refine At.to (noF_stable) (noF_fewer) 20 300 [2, 4, 6, 7, 9] 3 ⟨.ops (opsOf (sub B43 [1, 0])) (((opsOf (sub B43 [1, 0])).toList.drop 7).take 1), [.any (opsOf (sub B43 [1, 0])) 2 [7, 1, 6, 3, 4, 5, 2, 0]], [(2, .lp 1 0), (4, .so key), (6, .io .i64 dr), (7, .ls 2 0 0 0), (9, .sl (some a) n c)], [([.so key, .io .i64 dr, .sl (some a) n c], 50), ([.v (.string (ByteArray.mk #[])), .v (.int .i64 0), .v (.slice none 0 0)], 50), ([], 89)]⟩ (by kernel_rfl) (by kernel_rfl) ?_
            refine At.lsRow 7 [2, 4, 6, 9] 2 89 9 rfl rfl rfl rfl (by kernel_rfl) ?_
            intro A
            refine At.appOut 89 9 72 A 0 0 a n c (fun _ => False) [] w.heap.size [] (wv ws) (by kernel_rfl) (by rw [wv_len, hl]) (wv_one _) (fun ρ w1 hm hf => src_low hsrc hm.below) (by omega) (by simp only [maxLen]; omega) (Nat.le_refl _) ?_
            intro A1 c1
            rw [Nat.zero_add, List.nil_append]
            refine At.toJ (RowF.stable) RowF.fewer 20 300 [2] 2 ⟨.exit .normal, [], [(2, .lp 1 0)], [([.so key, .io .i64 dr, .sl (some a) n c], 50), ([.so key, .io .i64 dr, .sl A1 n c1], 50)]⟩ (by kernel_rfl) (by kernel_rfl) ?_
            exact At.fin (A1, c1) rfl rfl (by unfold subFr; kernel_rfl) rfl (fun _ _ _ _ h => h)
          · refine At.to (noF_stable) (noF_fewer) 20 300 [2, 3, 6, 7, 9] 3 ⟨.ops (opsOf (sub B43 [1, 0])) (((opsOf (sub B43 [1, 0])).toList.drop 7).take 1), [.any (opsOf (sub B43 [1, 0])) 3 [7, 6, 3, 4, 5, 2, 0]], [(2, .lp 1 0), (3, .lp 0 0), (6, .io .i64 dr), (7, .ls 2 0 0 0), (9, .sl (some a) n c)], [([.so key, .io .i64 dr, .sl (some a) n c], 50), ([.v (.string (ByteArray.mk #[])), .v (.int .i64 0), .v (.slice none 0 0)], 50), ([], 89)]⟩ (by kernel_rfl) (by kernel_rfl) ?_
            refine At.lsRow 7 [2, 3, 6, 9] 2 89 9 rfl rfl rfl rfl (by kernel_rfl) ?_
            intro A
            refine At.appOut 89 9 72 A 0 0 a n c (fun _ => False) [] w.heap.size [] (wv ws) (by kernel_rfl) (by rw [wv_len, hl]) (wv_one _) (fun ρ w1 hm hf => src_low hsrc hm.below) (by omega) (by simp only [maxLen]; omega) (Nat.le_refl _) ?_
            intro A1 c1
            rw [Nat.zero_add, List.nil_append]
            refine At.toJ (RowF.stable) RowF.fewer 20 300 [2] 2 ⟨.exit .normal, [], [(2, .lp 1 0)], [([.so key, .io .i64 dr, .sl (some a) n c], 50), ([.so key, .io .i64 dr, .sl A1 n c1], 50)]⟩ (by kernel_rfl) (by kernel_rfl) ?_
            exact At.fin (A1, c1) rfl rfl (by unfold subFr; kernel_rfl) rfl (fun _ _ _ _ h => h)
      · refine At.to (noF_stable) (noF_fewer) 20 300 [2, 3, 5, 7, 9] 3 ⟨.any (opsOf (sub B43 [1, 0])) 5 [6, 4, 5, 2, 0], [], [(2, .lp 1 0), (3, .lp 0 0), (5, .lp 0 1), (7, .ls 2 0 0 0), (9, .sl (some a) n c)], [([.so key, .io .i64 dr, .sl (some a) n c], 50), ([.v (.string (ByteArray.mk #[])), .v (.int .i64 0), .v (.slice none 0 0)], 50), ([], 89)]⟩ (by kernel_rfl) (by kernel_rfl) ?_
        refine At.fork [1, 3, 7] rfl (by kernel_rfl) rfl (allOf.cons ?_ (allOf.cons ?_ (allOf.cons ?_ allOf.nil)))
        · refine At.to (noF_stable) (noF_fewer) 20 300 [2, 4, 5, 7, 9] 3 ⟨.any (opsOf (sub B43 [1, 0])) 4 [1, 6, 4, 5, 2, 0], [], [(2, .lp 1 0), (4, .so key), (5, .lp 0 1), (7, .ls 2 0 0 0), (9, .sl (some a) n c)], [([.so key, .io .i64 dr, .sl (some a) n c], 50), ([.v (.string (ByteArray.mk #[])), .v (.int .i64 0), .v (.slice none 0 0)], 50), ([], 89)]⟩ (by kernel_rfl) (by kernel_rfl) ?_
          refine At.fork [3, 7] rfl (by kernel_rfl) rfl (allOf.cons ?_ (allOf.cons ?_ allOf.nil))
          · refine At.to (noF_stable) (noF_fewer) 20 300 [2, 4, 6, 7, 9] 3 ⟨.ops (opsOf (sub B43 [1, 0])) (((opsOf (sub B43 [1, 0])).toList.drop 7).take 1), [.any (opsOf (sub B43 [1, 0])) 2 [7, 3, 1, 6, 4, 5, 2, 0]], [(2, .lp 1 0), (4, .so key), (6, .io .i64 dr), (7, .ls 2 0 0 0), (9, .sl (some a) n c)], [([.so key, .io .i64 dr, .sl (some a) n c], 50), ([.v (.string (ByteArray.mk #[])), .v (.int .i64 0), .v (.slice none 0 0)], 50), ([], 89)]⟩ (by kernel_rfl) (by kernel_rfl) ?_
            refine At.lsRow 7 [2, 4, 6, 9] 2 89 9 rfl rfl rfl rfl (by kernel_rfl) ?_
            intro A
            refine At.appOut 89 9 72 A 0 0 a n c (fun _ => False) [] w.heap.size [] (wv ws) (by kernel_rfl) (by rw [wv_len, hl]) (wv_one _) (fun ρ w1 hm hf => src_low hsrc hm.below) (by omega) (by simp only [maxLen]; omega) (Nat.le_refl _) ?_
            intro A1 c1
            rw [Nat.zero_add, List.nil_append]
            refine At.toJ (RowF.stable) RowF.fewer 20 300 [2] 2 ⟨.exit .normal, [], [(2, .lp 1 0)], [([.so key, .io .i64 dr, .sl (some a) n c], 50), ([.so key, .io .i64 dr, .sl A1 n c1], 50)]⟩ (by kernel_rfl) (by kernel_rfl) ?_
            exact At.fin (A1, c1) rfl rfl (by unfold subFr; kernel_rfl) rfl (fun _ _ _ _ h => h)
          · refine At.to (noF_stable) (noF_fewer) 20 300 [2, 4, 5, 7, 9] 3 ⟨.ops (opsOf (sub B43 [1, 0])) (((opsOf (sub B43 [1, 0])).toList.drop 7).take 1), [.any (opsOf (sub B43 [1, 0])) 3 [7, 1, 6, 4, 5, 2, 0]], [(2, .lp 1 0), (4, .so key), (5, .lp 0 1), (7, .ls 2 0 0 0), (9, .sl (some a) n c)], [([.so key, .io .i64 dr, .sl (some a) n c], 50), ([.v (.string (ByteArray.mk #[])), .v (.int .i64 0), .v (.slice none 0 0)], 50), ([], 89)]⟩ (by kernel_rfl) (by kernel_rfl) ?_
            refine At.lsRow 7 [2, 4, 5, 9] 2 89 9 rfl rfl rfl rfl (by kernel_rfl) ?_
            intro A
            refine At.appOut 89 9 72 A 0 0 a n c (fun _ => False) [] w.heap.size [] (wv ws) (by kernel_rfl) (by rw [wv_len, hl]) (wv_one _) (fun ρ w1 hm hf => src_low hsrc hm.below) (by omega) (by simp only [maxLen]; omega) (Nat.le_refl _) ?_
            intro A1 c1
            rw [Nat.zero_add, List.nil_append]
            refine At.toJ (RowF.stable) RowF.fewer 20 300 [2] 2 ⟨.exit .normal, [], [(2, .lp 1 0)], [([.so key, .io .i64 dr, .sl (some a) n c], 50), ([.so key, .io .i64 dr, .sl A1 n c1], 50)]⟩ (by kernel_rfl) (by kernel_rfl) ?_
            exact At.fin (A1, c1) rfl rfl (by unfold subFr; kernel_rfl) rfl (fun _ _ _ _ h => h)
        · refine At.to (noF_stable) (noF_fewer) 20 300 [2, 3, 6, 7, 9] 3 ⟨.any (opsOf (sub B43 [1, 0])) 4 [3, 6, 4, 5, 2, 0], [], [(2, .lp 1 0), (3, .lp 0 0), (6, .io .i64 dr), (7, .ls 2 0 0 0), (9, .sl (some a) n c)], [([.so key, .io .i64 dr, .sl (some a) n c], 50), ([.v (.string (ByteArray.mk #[])), .v (.int .i64 0), .v (.slice none 0 0)], 50), ([], 89)]⟩ (by kernel_rfl) (by kernel_rfl) ?_
          refine At.fork [1, 7] rfl (by kernel_rfl) rfl (allOf.cons ?_ (allOf.cons ?_ allOf.nil))
          · refine At.to (noF_stable) (noF_fewer) 20 300 [2, 4, 6, 7, 9] 3 ⟨.ops (opsOf (sub B43 [1, 0])) (((opsOf (sub B43 [1, 0])).toList.drop 7).take 1), [.any (opsOf (sub B43 [1, 0])) 2 [7, 1, 3, 6, 4, 5, 2, 0]], [(2, .lp 1 0), (4, .so key), (6, .io .i64 dr), (7, .ls 2 0 0 0), (9, .sl (some a) n c)], [([.so key, .io .i64 dr, .sl (some a) n c], 50), ([.v (.string (ByteArray.mk #[])), .v (.int .i64 0), .v (.slice none 0 0)], 50), ([], 89)]⟩ (by kernel_rfl) (by kernel_rfl) ?_
            refine At.lsRow 7 [2, 4, 6, 9] 2 89 9 rfl rfl rfl rfl (by kernel_rfl) ?_
            intro A
            refine At.appOut 89 9 72 A 0 0 a n c (fun _ => False) [] w.heap.size [] (wv ws) (by kernel_rfl) (by rw [wv_len, hl]) (wv_one _) (fun ρ w1 hm hf => src_low hsrc hm.below) (by omega) (by simp only [maxLen]; omega) (Nat.le_refl _) ?_
            intro A1 c1
            rw [Nat.zero_add, List.nil_append]
            refine At.toJ (RowF.stable) RowF.fewer 20 300 [2] 2 ⟨.exit .normal, [], [(2, .lp 1 0)], [([.so key, .io .i64 dr, .sl (some a) n c], 50), ([.so key, .io .i64 dr, .sl A1 n c1], 50)]⟩ (by kernel_rfl) (by kernel_rfl) ?_
            exact At.fin (A1, c1) rfl rfl (by unfold subFr; kernel_rfl) rfl (fun _ _ _ _ h => h)
          · refine At.to (noF_stable) (noF_fewer) 20 300 [2, 3, 6, 7, 9] 3 ⟨.ops (opsOf (sub B43 [1, 0])) (((opsOf (sub B43 [1, 0])).toList.drop 7).take 1), [.any (opsOf (sub B43 [1, 0])) 3 [7, 3, 6, 4, 5, 2, 0]], [(2, .lp 1 0), (3, .lp 0 0), (6, .io .i64 dr), (7, .ls 2 0 0 0), (9, .sl (some a) n c)], [([.so key, .io .i64 dr, .sl (some a) n c], 50), ([.v (.string (ByteArray.mk #[])), .v (.int .i64 0), .v (.slice none 0 0)], 50), ([], 89)]⟩ (by kernel_rfl) (by kernel_rfl) ?_
            refine At.lsRow 7 [2, 3, 6, 9] 2 89 9 rfl rfl rfl rfl (by kernel_rfl) ?_
            intro A
            refine At.appOut 89 9 72 A 0 0 a n c (fun _ => False) [] w.heap.size [] (wv ws) (by kernel_rfl) (by rw [wv_len, hl]) (wv_one _) (fun ρ w1 hm hf => src_low hsrc hm.below) (by omega) (by simp only [maxLen]; omega) (Nat.le_refl _) ?_
            intro A1 c1
            rw [Nat.zero_add, List.nil_append]
            refine At.toJ (RowF.stable) RowF.fewer 20 300 [2] 2 ⟨.exit .normal, [], [(2, .lp 1 0)], [([.so key, .io .i64 dr, .sl (some a) n c], 50), ([.so key, .io .i64 dr, .sl A1 n c1], 50)]⟩ (by kernel_rfl) (by kernel_rfl) ?_
            exact At.fin (A1, c1) rfl rfl (by unfold subFr; kernel_rfl) rfl (fun _ _ _ _ h => h)
        · refine At.to (noF_stable) (noF_fewer) 20 300 [2, 3, 5, 7, 9] 3 ⟨.ops (opsOf (sub B43 [1, 0])) (((opsOf (sub B43 [1, 0])).toList.drop 7).take 1), [.any (opsOf (sub B43 [1, 0])) 4 [7, 6, 4, 5, 2, 0]], [(2, .lp 1 0), (3, .lp 0 0), (5, .lp 0 1), (7, .ls 2 0 0 0), (9, .sl (some a) n c)], [([.so key, .io .i64 dr, .sl (some a) n c], 50), ([.v (.string (ByteArray.mk #[])), .v (.int .i64 0), .v (.slice none 0 0)], 50), ([], 89)]⟩ (by kernel_rfl) (by kernel_rfl) ?_
          refine At.lsRow 7 [2, 3, 5, 9] 2 89 9 rfl rfl rfl rfl (by kernel_rfl) ?_
          intro A
          refine At.appOut 89 9 72 A 0 0 a n c (fun _ => False) [] w.heap.size [] (wv ws) (by kernel_rfl) (by rw [wv_len, hl]) (wv_one _) (fun ρ w1 hm hf => src_low hsrc hm.below) (by omega) (by simp only [maxLen]; omega) (Nat.le_refl _) ?_
          intro A1 c1
          rw [Nat.zero_add, List.nil_append]
          refine At.toJ (RowF.stable) RowF.fewer 20 300 [2, 3, 5, 10] 2 ⟨.any (opsOf (sub B43 [1, 0])) 4 [7, 6, 4, 5, 2, 0], [], [(2, .lp 1 0), (3, .lp 0 0), (5, .lp 0 1), (10, .sl A1 n c1)], [([.so key, .io .i64 dr, .sl (some a) n c], 50), ([.v (.string (ByteArray.mk #[])), .v (.int .i64 0), .v (.slice none 0 0)], 50)]⟩ (by kernel_rfl) (by kernel_rfl) ?_
          refine At.fork [1, 3] rfl (by kernel_rfl) rfl (allOf.cons ?_ (allOf.cons ?_ allOf.nil))
          · refine At.toJ (RowF.stable) RowF.fewer 20 300 [2] 2 ⟨.exit .normal, [], [(2, .lp 1 0)], [([.so key, .io .i64 dr, .sl (some a) n c], 50), ([.so key, .io .i64 dr, .sl A1 n c1], 50)]⟩ (by kernel_rfl) (by kernel_rfl) ?_
            exact At.fin (A1, c1) rfl rfl (by unfold subFr; kernel_rfl) rfl (fun _ _ _ _ h => h)
          · refine At.toJ (RowF.stable) RowF.fewer 20 300 [2] 2 ⟨.exit .normal, [], [(2, .lp 1 0)], [([.so key, .io .i64 dr, .sl (some a) n c], 50), ([.so key, .io .i64 dr, .sl A1 n c1], 50)]⟩ (by kernel_rfl) (by kernel_rfl) ?_
            exact At.fin (A1, c1) rfl rfl (by unfold subFr; kernel_rfl) rfl (fun _ _ _ _ h => h)
    · refine At.to (noF_stable) (noF_fewer) 20 300 [2, 3, 5, 9] 2 ⟨.any (opsOf (sub B43 [1, 0])) 6 [6, 5, 2, 0], [], [(2, .lp 1 0), (3, .lp 0 0), (5, .lp 0 1), (9, .sl (some a) n c)], [([.so key, .io .i64 dr, .sl (some a) n c], 50), ([.v (.string (ByteArray.mk #[])), .v (.int .i64 0), .v (.slice none 0 0)], 50)]⟩ (by kernel_rfl) (by kernel_rfl) ?_
      refine At.fork [1, 3, 4] rfl (by kernel_rfl) rfl (allOf.cons ?_ (allOf.cons ?_ (allOf.cons ?_ allOf.nil)))
      · refine At.to (noF_stable) (noF_fewer) 20 300 [2, 4, 5, 9] 2 ⟨.any (opsOf (sub B43 [1, 0])) 5 [1, 6, 5, 2, 0], [], [(2, .lp 1 0), (4, .so key), (5, .lp 0 1), (9, .sl (some a) n c)], [([.so key, .io .i64 dr, .sl (some a) n c], 50), ([.v (.string (ByteArray.mk #[])), .v (.int .i64 0), .v (.slice none 0 0)], 50)]⟩ (by kernel_rfl) (by kernel_rfl) ?_
        refine At.fork [3, 4] rfl (by kernel_rfl) rfl (allOf.cons ?_ (allOf.cons ?_ allOf.nil))
        · refine At.to (noF_stable) (noF_fewer) 20 300 [2, 4, 6, 7, 9] 3 ⟨.ops (opsOf (sub B43 [1, 0])) (((opsOf (sub B43 [1, 0])).toList.drop 7).take 1), [.any (opsOf (sub B43 [1, 0])) 2 [7, 4, 3, 1, 6, 5, 2, 0]], [(2, .lp 1 0), (4, .so key), (6, .io .i64 dr), (7, .ls 2 0 0 0), (9, .sl (some a) n c)], [([.so key, .io .i64 dr, .sl (some a) n c], 50), ([.v (.string (ByteArray.mk #[])), .v (.int .i64 0), .v (.slice none 0 0)], 50), ([], 89)]⟩ (by kernel_rfl) (by kernel_rfl) ?_
          refine At.lsRow 7 [2, 4, 6, 9] 2 89 9 rfl rfl rfl rfl (by kernel_rfl) ?_
          intro A
          refine At.appOut 89 9 72 A 0 0 a n c (fun _ => False) [] w.heap.size [] (wv ws) (by kernel_rfl) (by rw [wv_len, hl]) (wv_one _) (fun ρ w1 hm hf => src_low hsrc hm.below) (by omega) (by simp only [maxLen]; omega) (Nat.le_refl _) ?_
          intro A1 c1
          rw [Nat.zero_add, List.nil_append]
          refine At.toJ (RowF.stable) RowF.fewer 20 300 [2] 2 ⟨.exit .normal, [], [(2, .lp 1 0)], [([.so key, .io .i64 dr, .sl (some a) n c], 50), ([.so key, .io .i64 dr, .sl A1 n c1], 50)]⟩ (by kernel_rfl) (by kernel_rfl) ?_
          exact At.fin (A1, c1) rfl rfl (by unfold subFr; kernel_rfl) rfl (fun _ _ _ _ h => h)
        · refine At.to (noF_stable) (noF_fewer) 20 300 [2, 4, 5, 7, 9] 3 ⟨.any (opsOf (sub B43 [1, 0])) 4 [4, 1, 6, 5, 2, 0], [], [(2, .lp 1 0), (4, .so key), (5, .lp 0 1), (7, .ls 2 0 0 0), (9, .sl (some a) n c)], [([.so key, .io .i64 dr, .sl (some a) n c], 50), ([.v (.string (ByteArray.mk #[])), .v (.int .i64 0), .v (.slice none 0 0)], 50), ([], 89)]⟩ (by kernel_rfl) (by kernel_rfl) ?_
          refine At.fork [3, 7] rfl (by kernel_rfl) rfl (allOf.cons ?_ (allOf.cons ?_ allOf.nil))
          · refine At.to (noF_stable) (noF_fewer) 20 300 [2, 4, 6, 7, 9] 3 ⟨.ops (opsOf (sub B43 [1, 0])) (((opsOf (sub B43 [1, 0])).toList.drop 7).take 1), [.any (opsOf (sub B43 [1, 0])) 2 [7, 3, 4, 1, 6, 5, 2, 0]], [(2, .lp 1 0), (4, .so key), (6, .io .i64 dr), (7, .ls 2 0 0 0), (9, .sl (some a) n c)], [([.so key, .io .i64 dr, .sl (some a) n c], 50), ([.v (.string (ByteArray.mk #[])), .v (.int .i64 0), .v (.slice none 0 0)], 50), ([], 89)]⟩ (by kernel_rfl) (by kernel_rfl) ?_
            refine At.lsRow 7 [2, 4, 6, 9] 2 89 9 rfl rfl rfl rfl (by kernel_rfl) ?_
            intro A
            refine At.appOut 89 9 72 A 0 0 a n c (fun _ => False) [] w.heap.size [] (wv ws) (by kernel_rfl) (by rw [wv_len, hl]) (wv_one _) (fun ρ w1 hm hf => src_low hsrc hm.below) (by omega) (by simp only [maxLen]; omega) (Nat.le_refl _) ?_
            intro A1 c1
            rw [Nat.zero_add, List.nil_append]
            refine At.toJ (RowF.stable) RowF.fewer 20 300 [2] 2 ⟨.exit .normal, [], [(2, .lp 1 0)], [([.so key, .io .i64 dr, .sl (some a) n c], 50), ([.so key, .io .i64 dr, .sl A1 n c1], 50)]⟩ (by kernel_rfl) (by kernel_rfl) ?_
            exact At.fin (A1, c1) rfl rfl (by unfold subFr; kernel_rfl) rfl (fun _ _ _ _ h => h)
          · refine At.to (noF_stable) (noF_fewer) 20 300 [2, 4, 5, 7, 9] 3 ⟨.ops (opsOf (sub B43 [1, 0])) (((opsOf (sub B43 [1, 0])).toList.drop 7).take 1), [.any (opsOf (sub B43 [1, 0])) 3 [7, 4, 1, 6, 5, 2, 0]], [(2, .lp 1 0), (4, .so key), (5, .lp 0 1), (7, .ls 2 0 0 0), (9, .sl (some a) n c)], [([.so key, .io .i64 dr, .sl (some a) n c], 50), ([.v (.string (ByteArray.mk #[])), .v (.int .i64 0), .v (.slice none 0 0)], 50), ([], 89)]⟩ (by kernel_rfl) (by kernel_rfl) ?_
            refine At.lsRow 7 [2, 4, 5, 9] 2 89 9 rfl rfl rfl rfl (by kernel_rfl) ?_
            intro A
            refine At.appOut 89 9 72 A 0 0 a n c (fun _ => False) [] w.heap.size [] (wv ws) (by kernel_rfl) (by rw [wv_len, hl]) (wv_one _) (fun ρ w1 hm hf => src_low hsrc hm.below) (by omega) (by simp only [maxLen]; omega) (Nat.le_refl _) ?_
            intro A1 c1
            rw [Nat.zero_add, List.nil_append]
            refine At.toJ (RowF.stable) RowF.fewer 20 300 [2] 2 ⟨.exit .normal, [], [(2, .lp 1 0)], [([.so key, .io .i64 dr, .sl (some a) n c], 50), ([.so key, .io .i64 dr, .sl A1 n c1], 50)]⟩ (by kernel_rfl) (by kernel_rfl) ?_
            exact At.fin (A1, c1) rfl rfl (by unfold subFr; kernel_rfl) rfl (fun _ _ _ _ h => h)
      · refine At.to (noF_stable) (noF_fewer) 20 300 [2, 3, 6, 9] 2 ⟨.any (opsOf (sub B43 [1, 0])) 5 [3, 6, 5, 2, 0], [], [(2, .lp 1 0), (3, .lp 0 0), (6, .io .i64 dr), (9, .sl (some a) n c)], [([.so key, .io .i64 dr, .sl (some a) n c], 50), ([.v (.string (ByteArray.mk #[])), .v (.int .i64 0), .v (.slice none 0 0)], 50)]⟩ (by kernel_rfl) (by kernel_rfl) ?_
        refine At.fork [1, 4] rfl (by kernel_rfl) rfl (allOf.cons ?_ (allOf.cons ?_ allOf.nil))
        · refine At.to (noF_stable) (noF_fewer) 20 300 [2, 4, 6, 7, 9] 3 ⟨.ops (opsOf (sub B43 [1, 0])) (((opsOf (sub B43 [1, 0])).toList.drop 7).take 1), [.any (opsOf (sub B43 [1, 0])) 2 [7, 4, 1, 3, 6, 5, 2, 0]], [(2, .lp 1 0), (4, .so key), (6, .io .i64 dr), (7, .ls 2 0 0 0), (9, .sl (some a) n c)], [([.so key, .io .i64 dr, .sl (some a) n c], 50), ([.v (.string (ByteArray.mk #[])), .v (.int .i64 0), .v (.slice none 0 0)], 50), ([], 89)]⟩ (by kernel_rfl) (by kernel_rfl) ?_
          refine At.lsRow 7 [2, 4, 6, 9] 2 89 9 rfl rfl rfl rfl (by kernel_rfl) ?_
          intro A
          refine At.appOut 89 9 72 A 0 0 a n c (fun _ => False) [] w.heap.size [] (wv ws) (by kernel_rfl) (by rw [wv_len, hl]) (wv_one _) (fun ρ w1 hm hf => src_low hsrc hm.below) (by omega) (by simp only [maxLen]; omega) (Nat.le_refl _) ?_
          intro A1 c1
          rw [Nat.zero_add, List.nil_append]
          refine At.toJ (RowF.stable) RowF.fewer 20 300 [2] 2 ⟨.exit .normal, [], [(2, .lp 1 0)], [([.so key, .io .i64 dr, .sl (some a) n c], 50), ([.so key, .io .i64 dr, .sl A1 n c1], 50)]⟩ (by kernel_rfl) (by kernel_rfl) ?_
          exact At.fin (A1, c1) rfl rfl (by unfold subFr; kernel_rfl) rfl (fun _ _ _ _ h => h)
        · refine At.to (noF_stable) (noF_fewer) 20 300 [2, 3, 6, 7, 9] 3 ⟨.any (opsOf (sub B43 [1, 0])) 4 [4, 3, 6, 5, 2, 0], [], [(2, .lp 1 0), (3, .lp 0 0), (6, .io .i64 dr), (7, .ls 2 0 0 0), (9, .sl (some a) n c)], [([.so key, .io .i64 dr, .sl (some a) n c], 50), ([.v (.string (ByteArray.mk #[])), .v (.int .i64 0), .v (.slice none 0 0)], 50), ([], 89)]⟩ (by kernel_rfl) (by kernel_rfl) ?_
          refine At.fork [1, 7] rfl (by kernel_rfl) rfl (allOf.cons ?_ (allOf.cons ?_ allOf.nil))
          · refine At.to (noF_stable) (noF_fewer) 20 300 [2, 4, 6, 7, 9] 3 ⟨.ops (opsOf (sub B43 [1, 0])) (((opsOf (sub B43 [1, 0])).toList.drop 7).take 1), [.any (opsOf (sub B43 [1, 0])) 2 [7, 1, 4, 3, 6, 5, 2, 0]], [(2, .lp 1 0), (4, .so key), (6, .io .i64 dr), (7, .ls 2 0 0 0), (9, .sl (some a) n c)], [([.so key, .io .i64 dr, .sl (some a) n c], 50), ([.v (.string (ByteArray.mk #[])), .v (.int .i64 0), .v (.slice none 0 0)], 50), ([], 89)]⟩ (by kernel_rfl) (by kernel_rfl) ?_
            refine At.lsRow 7 [2, 4, 6, 9] 2 89 9 rfl rfl rfl rfl (by kernel_rfl) ?_
            intro A
            refine At.appOut 89 9 72 A 0 0 a n c (fun _ => False) [] w.heap.size [] (wv ws) (by kernel_rfl) (by rw [wv_len, hl]) (wv_one _) (fun ρ w1 hm hf => src_low hsrc hm.below) (by omega) (by simp only [maxLen]; omega) (Nat.le_refl _) ?_
            intro A1 c1
            rw [Nat.zero_add, List.nil_append]
            refine At.toJ (RowF.stable) RowF.fewer 20 300 [2] 2 ⟨.exit .normal, [], [(2, .lp 1 0)], [([.so key, .io .i64 dr, .sl (some a) n c], 50), ([.so key, .io .i64 dr, .sl A1 n c1], 50)]⟩ (by kernel_rfl) (by kernel_rfl) ?_
            exact At.fin (A1, c1) rfl rfl (by unfold subFr; kernel_rfl) rfl (fun _ _ _ _ h => h)
          · refine At.to (noF_stable) (noF_fewer) 20 300 [2, 3, 6, 7, 9] 3 ⟨.ops (opsOf (sub B43 [1, 0])) (((opsOf (sub B43 [1, 0])).toList.drop 7).take 1), [.any (opsOf (sub B43 [1, 0])) 3 [7, 4, 3, 6, 5, 2, 0]], [(2, .lp 1 0), (3, .lp 0 0), (6, .io .i64 dr), (7, .ls 2 0 0 0), (9, .sl (some a) n c)], [([.so key, .io .i64 dr, .sl (some a) n c], 50), ([.v (.string (ByteArray.mk #[])), .v (.int .i64 0), .v (.slice none 0 0)], 50), ([], 89)]⟩ (by kernel_rfl) (by kernel_rfl) ?_
            refine At.lsRow 7 [2, 3, 6, 9] 2 89 9 rfl rfl rfl rfl (by kernel_rfl) ?_
            intro A
            refine At.appOut 89 9 72 A 0 0 a n c (fun _ => False) [] w.heap.size [] (wv ws) (by kernel_rfl) (by rw [wv_len, hl]) (wv_one _) (fun ρ w1 hm hf => src_low hsrc hm.below) (by omega) (by simp only [maxLen]; omega) (Nat.le_refl _) ?_
            intro A1 c1
            rw [Nat.zero_add, List.nil_append]
            refine At.toJ (RowF.stable) RowF.fewer 20 300 [2] 2 ⟨.exit .normal, [], [(2, .lp 1 0)], [([.so key, .io .i64 dr, .sl (some a) n c], 50), ([.so key, .io .i64 dr, .sl A1 n c1], 50)]⟩ (by kernel_rfl) (by kernel_rfl) ?_
            exact At.fin (A1, c1) rfl rfl (by unfold subFr; kernel_rfl) rfl (fun _ _ _ _ h => h)
      · refine At.to (noF_stable) (noF_fewer) 20 300 [2, 3, 5, 7, 9] 3 ⟨.any (opsOf (sub B43 [1, 0])) 5 [4, 6, 5, 2, 0], [], [(2, .lp 1 0), (3, .lp 0 0), (5, .lp 0 1), (7, .ls 2 0 0 0), (9, .sl (some a) n c)], [([.so key, .io .i64 dr, .sl (some a) n c], 50), ([.v (.string (ByteArray.mk #[])), .v (.int .i64 0), .v (.slice none 0 0)], 50), ([], 89)]⟩ (by kernel_rfl) (by kernel_rfl) ?_
        refine At.fork [1, 3, 7] rfl (by kernel_rfl) rfl (allOf.cons ?_ (allOf.cons ?_ (allOf.cons ?_ allOf.nil)))
        · refine At.to (noF_stable) (noF_fewer) 20 300 [2, 4, 5, 7, 9] 3 ⟨.any (opsOf (sub B43 [1, 0])) 4 [1, 4, 6, 5, 2, 0], [], [(2, .lp 1 0), (4, .so key), (5, .lp 0 1), (7, .ls 2 0 0 0), (9, .sl (some a) n c)], [([.so key, .io .i64 dr, .sl (some a) n c], 50), ([.v (.string (ByteArray.mk #[])), .v (.int .i64 0), .v (.slice none 0 0)], 50), ([], 89)]⟩ (by kernel_rfl) (by kernel_rfl) ?_
          refine At.fork [3, 7] rfl (by kernel_rfl) rfl (allOf.cons ?_ (allOf.cons ?_ allOf.nil))
          · refine At.to (noF_stable) (noF_fewer) 20 300 [2, 4, 6, 7, 9] 3 ⟨.ops (opsOf (sub B43 [1, 0])) (((opsOf (sub B43 [1, 0])).toList.drop 7).take 1), [.any (opsOf (sub B43 [1, 0])) 2 [7, 3, 1, 4, 6, 5, 2, 0]], [(2, .lp 1 0), (4, .so key), (6, .io .i64 dr), (7, .ls 2 0 0 0), (9, .sl (some a) n c)], [([.so key, .io .i64 dr, .sl (some a) n c], 50), ([.v (.string (ByteArray.mk #[])), .v (.int .i64 0), .v (.slice none 0 0)], 50), ([], 89)]⟩ (by kernel_rfl) (by kernel_rfl) ?_
            refine At.lsRow 7 [2, 4, 6, 9] 2 89 9 rfl rfl rfl rfl (by kernel_rfl) ?_
            intro A
            refine At.appOut 89 9 72 A 0 0 a n c (fun _ => False) [] w.heap.size [] (wv ws) (by kernel_rfl) (by rw [wv_len, hl]) (wv_one _) (fun ρ w1 hm hf => src_low hsrc hm.below) (by omega) (by simp only [maxLen]; omega) (Nat.le_refl _) ?_
            intro A1 c1
            rw [Nat.zero_add, List.nil_append]
            refine At.toJ (RowF.stable) RowF.fewer 20 300 [2] 2 ⟨.exit .normal, [], [(2, .lp 1 0)], [([.so key, .io .i64 dr, .sl (some a) n c], 50), ([.so key, .io .i64 dr, .sl A1 n c1], 50)]⟩ (by kernel_rfl) (by kernel_rfl) ?_
            exact At.fin (A1, c1) rfl rfl (by unfold subFr; kernel_rfl) rfl (fun _ _ _ _ h => h)
          · refine At.to (noF_stable) (noF_fewer) 20 300 [2, 4, 5, 7, 9] 3 ⟨.ops (opsOf (sub B43 [1, 0])) (((opsOf (sub B43 [1, 0])).toList.drop 7).take 1), [.any (opsOf (sub B43 [1, 0])) 3 [7, 1, 4, 6, 5, 2, 0]], [(2, .lp 1 0), (4, .so key), (5, .lp 0 1), (7, .ls 2 0 0 0), (9, .sl (some a) n c)], [([.so key, .io .i64 dr, .sl (some a) n c], 50), ([.v (.string (ByteArray.mk #[])), .v (.int .i64 0), .v (.slice none 0 0)], 50), ([], 89)]⟩ (by kernel_rfl) (by kernel_rfl) ?_
            refine At.lsRow 7 [2, 4, 5, 9] 2 89 9 rfl rfl rfl rfl (by kernel_rfl) ?_
            intro A
            refine At.appOut 89 9 72 A 0 0 a n c (fun _ => False) [] w.heap.size [] (wv ws) (by kernel_rfl) (by rw [wv_len, hl]) (wv_one _) (fun ρ w1 hm hf => src_low hsrc hm.below) (by omega) (by simp only [maxLen]; omega) (Nat.le_refl _) ?_
            intro A1 c1
            rw [Nat.zero_add, List.nil_append]
            refine At.toJ (RowF.stable) RowF.fewer 20 300 [2] 2 ⟨.exit .normal, [], [(2, .lp 1 0)], [([.so key, .io .i64 dr, .sl (some a) n c], 50), ([.so key, .io .i64 dr, .sl A1 n c1], 50)]⟩ (by kernel_rfl) (by kernel_rfl) ?_
            exact At.fin (A1, c1) rfl rfl (by unfold subFr; kernel_rfl) rfl (fun _ _ _ _ h => h)
        · refine At.to (noF_stable) (noF_fewer) 20 300 [2, 3, 6, 7, 9] 3 ⟨.any (opsOf (sub B43 [1, 0])) 4 [3, 4, 6, 5, 2, 0], [], [(2, .lp 1 0), (3, .lp 0 0), (6, .io .i64 dr), (7, .ls 2 0 0 0), (9, .sl (some a) n c)], [([.so key, .io .i64 dr, .sl (some a) n c], 50), ([.v (.string (ByteArray.mk #[])), .v (.int .i64 0), .v (.slice none 0 0)], 50), ([], 89)]⟩ (by kernel_rfl) (by kernel_rfl) ?_
          refine At.fork [1, 7] rfl (by kernel_rfl) rfl (allOf.cons ?_ (allOf.cons ?_ allOf.nil))
          · refine At.to (noF_stable) (noF_fewer) 20 300 [2, 4, 6, 7, 9] 3 ⟨.ops (opsOf (sub B43 [1, 0])) (((opsOf (sub B43 [1, 0])).toList.drop 7).take 1), [.any (opsOf (sub B43 [1, 0])) 2 [7, 1, 3, 4, 6, 5, 2, 0]], [(2, .lp 1 0), (4, .so key), (6, .io .i64 dr), (7, .ls 2 0 0 0), (9, .sl (some a) n c)], [([.so key, .io .i64 dr, .sl (some a) n c], 50), ([.v (.string (ByteArray.mk #[])), .v (.int .i64 0), .v (.slice none 0 0)], 50), ([], 89)]⟩ (by kernel_rfl) (by kernel_rfl) ?_
            refine At.lsRow 7 [2, 4, 6, 9] 2 89 9 rfl rfl rfl rfl (by kernel_rfl) ?_
            intro A
            refine At.appOut 89 9 72 A 0 0 a n c (fun _ => False) [] w.heap.size [] (wv ws) (by kernel_rfl) (by rw [wv_len, hl]) (wv_one _) (fun ρ w1 hm hf => src_low hsrc hm.below) (by omega) (by simp only [maxLen]; omega) (Nat.le_refl _) ?_
            intro A1 c1
            rw [Nat.zero_add, List.nil_append]
            refine At.toJ (RowF.stable) RowF.fewer 20 300 [2] 2 ⟨.exit .normal, [], [(2, .lp 1 0)], [([.so key, .io .i64 dr, .sl (some a) n c], 50), ([.so key, .io .i64 dr, .sl A1 n c1], 50)]⟩ (by kernel_rfl) (by kernel_rfl) ?_
            exact At.fin (A1, c1) rfl rfl (by unfold subFr; kernel_rfl) rfl (fun _ _ _ _ h => h)
          · refine At.to (noF_stable) (noF_fewer) 20 300 [2, 3, 6, 7, 9] 3 ⟨.ops (opsOf (sub B43 [1, 0])) (((opsOf (sub B43 [1, 0])).toList.drop 7).take 1), [.any (opsOf (sub B43 [1, 0])) 3 [7, 3, 4, 6, 5, 2, 0]], [(2, .lp 1 0), (3, .lp 0 0), (6, .io .i64 dr), (7, .ls 2 0 0 0), (9, .sl (some a) n c)], [([.so key, .io .i64 dr, .sl (some a) n c], 50), ([.v (.string (ByteArray.mk #[])), .v (.int .i64 0), .v (.slice none 0 0)], 50), ([], 89)]⟩ (by kernel_rfl) (by kernel_rfl) ?_
            refine At.lsRow 7 [2, 3, 6, 9] 2 89 9 rfl rfl rfl rfl (by kernel_rfl) ?_
            intro A
            refine At.appOut 89 9 72 A 0 0 a n c (fun _ => False) [] w.heap.size [] (wv ws) (by kernel_rfl) (by rw [wv_len, hl]) (wv_one _) (fun ρ w1 hm hf => src_low hsrc hm.below) (by omega) (by simp only [maxLen]; omega) (Nat.le_refl _) ?_
            intro A1 c1
            rw [Nat.zero_add, List.nil_append]
            refine At.toJ (RowF.stable) RowF.fewer 20 300 [2] 2 ⟨.exit .normal, [], [(2, .lp 1 0)], [([.so key, .io .i64 dr, .sl (some a) n c], 50), ([.so key, .io .i64 dr, .sl A1 n c1], 50)]⟩ (by kernel_rfl) (by kernel_rfl) ?_
            exact At.fin (A1, c1) rfl rfl (by unfold subFr; kernel_rfl) rfl (fun _ _ _ _ h => h)
        · refine At.to (noF_stable) (noF_fewer) 20 300 [2, 3, 5, 7, 9] 3 ⟨.ops (opsOf (sub B43 [1, 0])) (((opsOf (sub B43 [1, 0])).toList.drop 7).take 1), [.any (opsOf (sub B43 [1, 0])) 4 [7, 4, 6, 5, 2, 0]], [(2, .lp 1 0), (3, .lp 0 0), (5, .lp 0 1), (7, .ls 2 0 0 0), (9, .sl (some a) n c)], [([.so key, .io .i64 dr, .sl (some a) n c], 50), ([.v (.string (ByteArray.mk #[])), .v (.int .i64 0), .v (.slice none 0 0)], 50), ([], 89)]⟩ (by kernel_rfl) (by kernel_rfl) ?_
          refine At.lsRow 7 [2, 3, 5, 9] 2 89 9 rfl rfl rfl rfl (by kernel_rfl) ?_
          intro A
          refine At.appOut 89 9 72 A 0 0 a n c (fun _ => False) [] w.heap.size [] (wv ws) (by kernel_rfl) (by rw [wv_len, hl]) (wv_one _) (fun ρ w1 hm hf => src_low hsrc hm.below) (by omega) (by simp only [maxLen]; omega) (Nat.le_refl _) ?_
          intro A1 c1
          rw [Nat.zero_add, List.nil_append]
          refine At.toJ (RowF.stable) RowF.fewer 20 300 [2, 3, 5, 10] 2 ⟨.any (opsOf (sub B43 [1, 0])) 4 [7, 4, 6, 5, 2, 0], [], [(2, .lp 1 0), (3, .lp 0 0), (5, .lp 0 1), (10, .sl A1 n c1)], [([.so key, .io .i64 dr, .sl (some a) n c], 50), ([.v (.string (ByteArray.mk #[])), .v (.int .i64 0), .v (.slice none 0 0)], 50)]⟩ (by kernel_rfl) (by kernel_rfl) ?_
          refine At.fork [1, 3] rfl (by kernel_rfl) rfl (allOf.cons ?_ (allOf.cons ?_ allOf.nil))
          · refine At.toJ (RowF.stable) RowF.fewer 20 300 [2] 2 ⟨.exit .normal, [], [(2, .lp 1 0)], [([.so key, .io .i64 dr, .sl (some a) n c], 50), ([.so key, .io .i64 dr, .sl A1 n c1], 50)]⟩ (by kernel_rfl) (by kernel_rfl) ?_
            exact At.fin (A1, c1) rfl rfl (by unfold subFr; kernel_rfl) rfl (fun _ _ _ _ h => h)
          · refine At.toJ (RowF.stable) RowF.fewer 20 300 [2] 2 ⟨.exit .normal, [], [(2, .lp 1 0)], [([.so key, .io .i64 dr, .sl (some a) n c], 50), ([.so key, .io .i64 dr, .sl A1 n c1], 50)]⟩ (by kernel_rfl) (by kernel_rfl) ?_
            exact At.fin (A1, c1) rfl rfl (by unfold subFr; kernel_rfl) rfl (fun _ _ _ _ h => h)
  · refine At.toJ (RowF.stable) RowF.fewer 20 300 [2] 2 ⟨.exit .ret, [], [(2, .lp 1 0)], [([.so key, .io .i64 dr, .sl (some a) n c], 50), ([.so key, .io .i64 dr, .sl x.fst n x.snd], 50)]⟩ (by kernel_rfl) (by kernel_rfl) ?_
    refine At.ret (by kernel_rfl) (.agg [.so key, .io .i64 dr, .sl x.fst n x.snd]) (by kernel_rfl) ?_
    intro ρ w9 hm hf
    exact ⟨x.1, n, x.2, rfl, RowF.fewer _ _ 0 (Nat.zero_le _) hf⟩

set_option maxHeartbeats 4000000 in
set_option maxRecDepth 100000 in
theorem kcopy_nil (key : ByteArray) (dr : Int) (c : Nat) (w : World) :
    Calls Tryd.prog 43 #[.agg #[.string key, .int .i64 dr, .slice none 0 c]] w fun e w' => ∃ A' n' c', e = .returned (.agg #[.string key, .int .i64 dr, .slice A' n' c']) ∧ RowF w (fun _ => False) [] w.heap.size 89 9 A' n' c' [] [] w' := by
  refine enter (fn := Tryd.f43) (c := B43) [.agg [.so key, .io .i64 dr, .sl none 0 c]] Tryd.func43 rfl rfl ?_
  refine At.to (noF_stable) (noF_fewer) 20 300 [1, 2] 2 ⟨.any (opsOf (sub B43 [1, 0])) 10 [], [.seq (sub B43 [1, 1])], [(1, .lp 0 0), (2, .lp 1 0)], [([.so key, .io .i64 dr, .sl none 0 c], 50), ([.v (.string (ByteArray.mk #[])), .v (.int .i64 0), .v (.slice none 0 0)], 50)]⟩ (by kernel_rfl) (by kernel_rfl) ?_
  refine At.cutN (σ := Option Addr × Nat) (fun _ => [(2, .lp 1 0)]) (fun x => [([.so key, .io .i64 dr, .sl none 0 c], 50), ([.so key, .io .i64 dr, .sl x.1 0 x.2], 50)]) (fun x => RowF w (fun _ => False) [] w.heap.size 89 9 x.1 0 x.2 []) rfl ?_ (fun x => ?_)
  · refine At.purify0 (fun e a w h => h.1) 20 ?_
    refine At.to (noF_stable) (noF_fewer) 20 300 [2, 3, 5, 8] 2 ⟨.any (opsOf (sub B43 [1, 0])) 7 [5, 2, 0], [], [(2, .lp 1 0), (3, .lp 0 0), (5, .lp 0 1), (8, .lp 0 2)], [([.so key, .io .i64 dr, .sl none 0 c], 50), ([.v (.string (ByteArray.mk #[])), .v (.int .i64 0), .v (.slice none 0 0)], 50)]⟩ (by kernel_rfl) (by kernel_rfl) ?_
    refine At.fork [1, 3, 4, 6] rfl (by kernel_rfl) rfl (allOf.cons ?_ (allOf.cons ?_ (allOf.cons ?_ (allOf.cons ?_ allOf.nil))))
    · refine At.to (noF_stable) (noF_fewer) 20 300 [2, 4, 5, 8] 2 ⟨.any (opsOf (sub B43 [1, 0])) 6 [1, 5, 2, 0], [], [(2, .lp 1 0), (4, .so key), (5, .lp 0 1), (8, .lp 0 2)], [([.so key, .io .i64 dr, .sl none 0 c], 50), ([.v (.string (ByteArray.mk #[])), .v (.int .i64 0), .v (.slice none 0 0)], 50)]⟩ (by kernel_rfl) (by kernel_rfl) ?_
      refine At.fork [3, 4, 6] rfl (by kernel_rfl) rfl (allOf.cons ?_ (allOf.cons ?_ (allOf.cons ?_ allOf.nil)))
      · refine At.to (noF_stable) (noF_fewer) 20 300 [2, 4, 6, 8] 2 ⟨.any (opsOf (sub B43 [1, 0])) 5 [3, 1, 5, 2, 0], [], [(2, .lp 1 0), (4, .so key), (6, .io .i64 dr), (8, .lp 0 2)], [([.so key, .io .i64 dr, .sl none 0 c], 50), ([.v (.string (ByteArray.mk #[])), .v (.int .i64 0), .v (.slice none 0 0)], 50)]⟩ (by kernel_rfl) (by kernel_rfl) ?_
        refine At.fork [4, 6] rfl (by kernel_rfl) rfl (allOf.cons ?_ (allOf.cons ?_ allOf.nil))
        · refine At.to (noF_stable) (noF_fewer) 20 300 [2, 4, 6, 7, 9] 3 ⟨.ops (opsOf (sub B43 [1, 0])) (((opsOf (sub B43 [1, 0])).toList.drop 7).take 1), [.any (opsOf (sub B43 [1, 0])) 2 [7, 6, 4, 3, 1, 5, 2, 0]], [(2, .lp 1 0), (4, .so key), (6, .io .i64 dr), (7, .ls 2 0 0 0), (9, .sl none 0 c)], [([.so key, .io .i64 dr, .sl none 0 c], 50), ([.v (.string (ByteArray.mk #[])), .v (.int .i64 0), .v (.slice none 0 0)], 50), ([], 89)]⟩ (by kernel_rfl) (by kernel_rfl) ?_
          refine At.lsRow 7 [2, 4, 6, 9] 2 89 9 rfl rfl rfl rfl (by kernel_rfl) ?_
          intro A
          refine At.appNone 89 9 72 A 0 0 c (fun _ => False) [] w.heap.size [] (by kernel_rfl) ?_
          refine At.toJ (RowF.stable) RowF.fewer 20 300 [2] 2 ⟨.exit .normal, [], [(2, .lp 1 0)], [([.so key, .io .i64 dr, .sl none 0 c], 50), ([.so key, .io .i64 dr, .sl A 0 0], 50)]⟩ (by kernel_rfl) (by kernel_rfl) ?_
          exact At.fin (A, 0) rfl rfl (by unfold subFr; kernel_rfl) rfl (fun _ _ _ _ h => h)
        · refine At.to (noF_stable) (noF_fewer) 20 300 [2, 4, 6, 7, 9] 3 ⟨.ops (opsOf (sub B43 [1, 0])) (((opsOf (sub B43 [1, 0])).toList.drop 7).take 1), [.any (opsOf (sub B43 [1, 0])) 2 [7, 4, 6, 3, 1, 5, 2, 0]], [(2, .lp 1 0), (4, .so key), (6, .io .i64 dr), (7, .ls 2 0 0 0), (9, .sl none 0 c)], [([.so key, .io .i64 dr, .sl none 0 c], 50), ([.v (.string (ByteArray.mk #[])), .v (.int .i64 0), .v (.slice none 0 0)], 50), ([], 89)]⟩ (by kernel_rfl) (by kernel_rfl) ?_
          refine At.lsRow 7 [2, 4, 6, 9] 2 89 9 rfl rfl rfl rfl (by kernel_rfl) ?_
          intro A
          refine At.appNone 89 9 72 A 0 0 c (fun _ => False) [] w.heap.size [] (by kernel_rfl) ?_
          refine At.toJ (RowF.stable) RowF.fewer 20 300 [2] 2 ⟨.exit .normal, [], [(2, .lp 1 0)], [([.so key, .io .i64 dr, .sl none 0 c], 50), ([.so key, .io .i64 dr, .sl A 0 0], 50)]⟩ (by kernel_rfl) (by kernel_rfl) ?_
          exact At.fin (A, 0) rfl rfl (by unfold subFr; kernel_rfl) rfl (fun _ _ _ _ h => h)
      · refine At.to (noF_stable) (noF_fewer) 20 300 [2, 4, 5, 7, 8] 3 ⟨.any (opsOf (sub B43 [1, 0])) 5 [4, 1, 5, 2, 0], [], [(2, .lp 1 0), (4, .so key), (5, .lp 0 1), (7, .ls 2 0 0 0), (8, .lp 0 2)], [([.so key, .io .i64 dr, .sl none 0 c], 50), ([.v (.string (ByteArray.mk #[])), .v (.int .i64 0), .v (.slice none 0 0)], 50), ([], 89)]⟩ (by kernel_rfl) (by kernel_rfl) ?_
        refine At.fork [3, 6] rfl (by kernel_rfl) rfl (allOf.cons ?_ (allOf.cons ?_ allOf.nil))
        · refine At.to (noF_stable) (noF_fewer) 20 300 [2, 4, 6, 7, 9] 3 ⟨.ops (opsOf (sub B43 [1, 0])) (((opsOf (sub B43 [1, 0])).toList.drop 7).take 1), [.any (opsOf (sub B43 [1, 0])) 2 [7, 6, 3, 4, 1, 5, 2, 0]], [(2, .lp 1 0), (4, .so key), (6, .io .i64 dr), (7, .ls 2 0 0 0), (9, .sl none 0 c)], [([.so key, .io .i64 dr, .sl none 0 c], 50), ([.v (.string (ByteArray.mk #[])), .v (.int .i64 0), .v (.slice none 0 0)], 50), ([], 89)]⟩ (by kernel_rfl) (by kernel_rfl) ?_
          refine At.lsRow 7 [2, 4, 6, 9] 2 89 9 rfl rfl rfl rfl (by kernel_rfl) ?_
          intro A
          refine At.appNone 89 9 72 A 0 0 c (fun _ => False) [] w.heap.size [] (by kernel_rfl) ?_
          refine At.toJ (RowF.stable) RowF.fewer 20 300 [2] 2 ⟨.exit .normal, [], [(2, .lp 1 0)], [([.so key, .io .i64 dr, .sl none 0 c], 50), ([.so key, .io .i64 dr, .sl A 0 0], 50)]⟩ (by kernel_rfl) (by kernel_rfl) ?_
          exact At.fin (A, 0) rfl rfl (by unfold subFr; kernel_rfl) rfl (fun _ _ _ _ h => h)
        · refine At.to (noF_stable) (noF_fewer) 20 300 [2, 4, 5, 7, 9] 3 ⟨.any (opsOf (sub B43 [1, 0])) 4 [6, 4, 1, 5, 2, 0], [], [(2, .lp 1 0), (4, .so key), (5, .lp 0 1), (7, .ls 2 0 0 0), (9, .sl none 0 c)], [([.so key, .io .i64 dr, .sl none 0 c], 50), ([.v (.string (ByteArray.mk #[])), .v (.int .i64 0), .v (.slice none 0 0)], 50), ([], 89)]⟩ (by kernel_rfl) (by kernel_rfl) ?_
          refine At.fork [3, 7] rfl (by kernel_rfl) rfl (allOf.cons ?_ (allOf.cons ?_ allOf.nil))
          · refine At.to (noF_stable) (noF_fewer) 20 300 [2, 4, 6, 7, 9] 3 ⟨.ops (opsOf (sub B43 [1, 0])) (((opsOf (sub B43 [1, 0])).toList.drop 7).take 1), [.any (opsOf (sub B43 [1, 0])) 2 [7, 3, 6, 4, 1, 5, 2, 0]], [(2, .lp 1 0), (4, .so key), (6, .io .i64 dr), (7, .ls 2 0 0 0), (9, .sl none 0 c)], [([.so key, .io .i64 dr, .sl none 0 c], 50), ([.v (.string (ByteArray.mk #[])), .v (.int .i64 0), .v (.slice none 0 0)], 50), ([], 89)]⟩ (by kernel_rfl) (by kernel_rfl) ?_
            refine At.lsRow 7 [2, 4, 6, 9] 2 89 9 rfl rfl rfl rfl (by kernel_rfl) ?_
            intro A
            refine At.appNone 89 9 72 A 0 0 c (fun _ => False) [] w.heap.size [] (by kernel_rfl) ?_
            refine At.toJ (RowF.stable) RowF.fewer 20 300 [2] 2 ⟨.exit .normal, [], [(2, .lp 1 0)], [([.so key, .io .i64 dr, .sl none 0 c], 50), ([.so key, .io .i64 dr, .sl A 0 0], 50)]⟩ (by kernel_rfl) (by kernel_rfl) ?_
            exact At.fin (A, 0) rfl rfl (by unfold subFr; kernel_rfl) rfl (fun _ _ _ _ h => h)
          · refine At.to (noF_stable) (noF_fewer) 20 300 [2, 4, 5, 7, 9] 3 ⟨.ops (opsOf (sub B43 [1, 0])) (((opsOf (sub B43 [1, 0])).toList.drop 7).take 1), [.any (opsOf (sub B43 [1, 0])) 3 [7, 6, 4, 1, 5, 2, 0]], [(2, .lp 1 0), (4, .so key), (5, .lp 0 1), (7, .ls 2 0 0 0), (9, .sl none 0 c)], [([.so key, .io .i64 dr, .sl none 0 c], 50), ([.v (.string (ByteArray.mk #[])), .v (.int .i64 0), .v (.slice none 0 0)], 50), ([], 89)]⟩ (by kernel_rfl) (by kernel_rfl) ?_
            refine At.lsRow 7 [2, 4, 5, 9] 2 89 9 rfl rfl rfl rfl (by kernel_rfl) ?_
            intro A
            refine At.appNone 89 9 72 A 0 0 c (fun _ => False) [] w.heap.size [] (by kernel_rfl) ?_
            refine At.toJ (RowF.stable) RowF.fewer 20 300 [2] 2 ⟨.exit .normal, [], [(2, .lp 1 0)], [([.so key, .io .i64 dr, .sl none 0 c], 50), ([.so key, .io .i64 dr, .sl A 0 0], 50)]⟩ (by kernel_rfl) (by kernel_rfl) ?_
            exact At.fin (A, 0) rfl rfl (by unfold subFr; kernel_rfl) rfl (fun _ _ _ _ h => h)
      · refine At.to (noF_stable) (noF_fewer) 20 300 [2, 4, 5, 9] 2 ⟨.any (opsOf (sub B43 [1, 0])) 5 [6, 1, 5, 2, 0], [], [(2, .lp 1 0), (4, .so key), (5, .lp 0 1), (9, .sl none 0 c)], [([.so key, .io .i64 dr, .sl none 0 c], 50), ([.v (.string (ByteArray.mk #[])), .v (.int .i64 0), .v (.slice none 0 0)], 50)]⟩ (by kernel_rfl) (by kernel_rfl) ?_
        refine At.fork [3, 4] rfl (by kernel_rfl) rfl (allOf.cons ?_ (allOf.cons ?_ allOf.nil))
        · refine At.to (noF_stable) (noF_fewer) 20 300 [2, 4, 6, 7, 9] 3 ⟨.ops (opsOf (sub B43 [1, 0])) (((opsOf (sub B43 [1, 0])).toList.drop 7).take 1), [.any (opsOf (sub B43 [1, 0])) 2 [7, 4, 3, 6, 1, 5, 2, 0]], [(2, .lp 1 0), (4, .so key), (6, .io .i64 dr), (7, .ls 2 0 0 0), (9, .sl none 0 c)], [([.so key, .io .i64 dr, .sl none 0 c], 50), ([.v (.string (ByteArray.mk #[])), .v (.int .i64 0), .v (.slice none 0 0)], 50), ([], 89)]⟩ (by kernel_rfl) (by kernel_rfl) ?_
          refine At.lsRow 7 [2, 4, 6, 9] 2 89 9 rfl rfl rfl rfl (by kernel_rfl) ?_
          intro A
          refine At.appNone 89 9 72 A 0 0 c (fun _ => False) [] w.heap.size [] (by kernel_rfl) ?_
          refine At.toJ (RowF.stable) RowF.fewer 20 300 [2] 2 ⟨.exit .normal, [], [(2, .lp 1 0)], [([.so key, .io .i64 dr, .sl none 0 c], 50), ([.so key, .io .i64 dr, .sl A 0 0], 50)]⟩ (by kernel_rfl) (by kernel_rfl) ?_
          exact At.fin (A, 0) rfl rfl (by unfold subFr; kernel_rfl) rfl (fun _ _ _ _ h => h)
        · refine At.to (noF_stable) (noF_fewer) 20 300 [2, 4, 5, 7, 9] 3 ⟨.any (opsOf (sub B43 [1, 0])) 4 [4, 6, 1, 5, 2, 0], [], [(2, .lp 1 0), (4, .so key), (5, .lp 0 1), (7, .ls 2 0 0 0), (9, .sl none 0 c)], [([.so key, .io .i64 dr, .sl none 0 c], 50), ([.v (.string (ByteArray.mk #[])), .v (.int .i64 0), .v (.slice none 0 0)], 50), ([], 89)]⟩ (by kernel_rfl) (by kernel_rfl) ?_
          refine At.fork [3, 7] rfl (by kernel_rfl) rfl (allOf.cons ?_ (allOf.cons ?_ allOf.nil))
          · refine At.to (noF_stable) (noF_fewer) 20 300 [2, 4, 6, 7, 9] 3 ⟨.ops (opsOf (sub B43 [1, 0])) (((opsOf (sub B43 [1, 0])).toList.drop 7).take 1), [.any (opsOf (sub B43 [1, 0])) 2 [7, 3, 4, 6, 1, 5, 2, 0]], [(2, .lp 1 0), (4, .so key), (6, .io .i64 dr), (7, .ls 2 0 0 0), (9, .sl none 0 c)], [([.so key, .io .i64 dr, .sl none 0 c], 50), ([.v (.string (ByteArray.mk #[])), .v (.int .i64 0), .v (.slice none 0 0)], 50), ([], 89)]⟩ (by kernel_rfl) (by kernel_rfl) ?_
            refine At.lsRow 7 [2, 4, 6, 9] 2 89 9 rfl rfl rfl rfl (by kernel_rfl) ?_
            intro A
            refine At.appNone 89 9 72 A 0 0 c (fun _ => False) [] w.heap.size [] (by kernel_rfl) ?_
            refine At.toJ (RowF.stable) RowF.fewer 20 300 [2] 2 ⟨.exit .normal, [], [(2, .lp 1 0)], [([.so key, .io .i64 dr, .sl none 0 c], 50), ([.so key, .io .i64 dr, .sl A 0 0], 50)]⟩ (by kernel_rfl) (by kernel_rfl) ?_
            exact At.fin (A, 0) rfl rfl (by unfold subFr; kernel_rfl) rfl (fun _ _ _ _ h => h)
          · refine At.to (noF_stable) (noF_fewer) 20 300 [2, 4, 5, 7, 9] 3 ⟨.ops (opsOf (sub B43 [1, 0])) (((opsOf (sub B43 [1, 0])).toList.drop 7).take 1), [.any (opsOf (sub B43 [1, 0])) 3 [7, 4, 6, 1, 5, 2, 0]], [(2, .lp 1 0), (4, .so key), (5, .lp 0 1), (7, .ls 2 0 0 0), (9, .sl none 0 c)], [([.so key, .io .i64 dr, .sl none 0 c], 50), ([.v (.string (ByteArray.mk #[])), .v (.int .i64 0), .v (.slice none 0 0)], 50), ([], 89)]⟩ (by kernel_rfl) (by kernel_rfl) ?_
            refine At.lsRow 7 [2, 4, 5, 9] 2 89 9 rfl rfl rfl rfl (by kernel_rfl) ?_
            intro A
            refine At.appNone 89 9 72 A 0 0 c (fun _ => False) [] w.heap.size [] (by kernel_rfl) ?_
            refine At.toJ (RowF.stable) RowF.fewer 20 300 [2] 2 ⟨.exit .normal, [], [(2, .lp 1 0)], [([.so key, .io .i64 dr, .sl none 0 c], 50), ([.so key, .io .i64 dr, .sl A 0 0], 50)]⟩ (by kernel_rfl) (by kernel_rfl) ?_
            exact At.fin (A, 0) rfl rfl (by unfold subFr; kernel_rfl) rfl (fun _ _ _ _ h => h)
    · refine At.to (noF_stable) (noF_fewer) 20 300 [2, 3, 6, 8] 2 ⟨.any (opsOf (sub B43 [1, 0])) 6 [3, 5, 2, 0], [], [(2, .lp 1 0), (3, .lp 0 0), (6, .io .i64 dr), (8, .lp 0 2)], [([.so key, .io .i64 dr, .sl none 0 c], 50), ([.v (.string (ByteArray.mk #[])), .v (.int .i64 0), .v (.slice none 0 0)], 50)]⟩ (by kernel_rfl) (by kernel_rfl) ?_
      refine At.fork [1, 4, 6] rfl (by kernel_rfl) rfl (allOf.cons ?_ (allOf.cons ?_ (allOf.cons ?_ allOf.nil)))
      · refine At.to (noF_stable) (noF_fewer) 20 300 [2, 4, 6, 8] 2 ⟨.any (opsOf (sub B43 [1, 0])) 5 [1, 3, 5, 2, 0], [], [(2, .lp 1 0), (4, .so key), (6, .io .i64 dr), (8, .lp 0 2)], [([.so key, .io .i64 dr, .sl none 0 c], 50), ([.v (.string (ByteArray.mk #[])), .v (.int .i64 0), .v (.slice none 0 0)], 50)]⟩ (by kernel_rfl) (by kernel_rfl) ?_
        refine At.fork [4, 6] rfl (by kernel_rfl) rfl (allOf.cons ?_ (allOf.cons ?_ allOf.nil))
        · refine At.to (noF_stable) (noF_fewer) 20 300 [2, 4, 6, 7, 9] 3 ⟨.ops (opsOf (sub B43 [1, 0])) (((opsOf (sub B43 [1, 0])).toList.drop 7).take 1), [.any (opsOf (sub B43 [1, 0])) 2 [7, 6, 4, 1, 3, 5, 2, 0]], [(2, .lp 1 0), (4, .so key), (6, .io .i64 dr), (7, .ls 2 0 0 0), (9, .sl none 0 c)], [([.so key, .io .i64 dr, .sl none 0 c], 50), ([.v (.string (ByteArray.mk #[])), .v (.int .i64 0), .v (.slice none 0 0)], 50), ([], 89)]⟩ (by kernel_rfl) (by kernel_rfl) ?_
          refine At.lsRow 7 [2, 4, 6, 9] 2 89 9 rfl rfl rfl rfl (by kernel_rfl) ?_
          intro A
          refine At.appNone 89 9 72 A 0 0 c (fun _ => False) [] w.heap.size [] (by kernel_rfl) ?_
          refine At.toJ (RowF.stable) RowF.fewer 20 300 [2] 2 ⟨.exit .normal, [], [(2, .lp 1 0)], [([.so key, .io .i64 dr, .sl none 0 c], 50), ([.so key, .io .i64 dr, .sl A 0 0], 50)]⟩ (by kernel_rfl) (by kernel_rfl) ?_
          exact At.fin (A, 0) rfl rfl (by unfold subFr; kernel_rfl) rfl (fun _ _ _ _ h => h)
        · refine At.to (noF_stable) (noF_fewer) 20 300 [2, 4, 6, 7, 9] 3 ⟨.ops (opsOf (sub B43 [1, 0])) (((opsOf (sub B43 [1, 0])).toList.drop 7).take 1), [.any (opsOf (sub B43 [1, 0])) 2 [7, 4, 6, 1, 3, 5, 2, 0]], [(2, .lp 1 0), (4, .so key), (6, .io .i64 dr), (7, .ls 2 0 0 0), (9, .sl none 0 c)], [([.so key, .io .i64 dr, .sl none 0 c], 50), ([.v (.string (ByteArray.mk #[])), .v (.int .i64 0), .v (.slice none 0 0)], 50), ([], 89)]⟩ (by kernel_rfl) (by kernel_rfl) ?_
          refine At.lsRow 7 [2, 4, 6, 9] 2 89 9 rfl rfl rfl rfl (by kernel_rfl) ?_
          intro A
          refine At.appNone 89 9 72 A 0 0 c (fun _ => False) [] w.heap.size [] (by kernel_rfl) ?_
          refine At.toJ (RowF.stable) RowF.fewer 20 300 [2] 2 ⟨.exit .normal, [], [(2, .lp 1 0)], [([.so key, .io .i64 dr, .sl none 0 c], 50), ([.so key, .io .i64 dr, .sl A 0 0], 50)]⟩ (by kernel_rfl) (by kernel_rfl) ?_
          exact At.fin (A, 0) rfl rfl (by unfold subFr; kernel_rfl) rfl (fun _ _ _ _ h => h)
      · refine At.to (noF_stable) (noF_fewer) 20 300 [2, 3, 6, 7, 8] 3 ⟨.any (opsOf (sub B43 [1, 0])) 5 [4, 3, 5, 2, 0], [], [(2, .lp 1 0), (3, .lp 0 0), (6, .io .i64 dr), (7, .ls 2 0 0 0), (8, .lp 0 2)], [([.so key, .io .i64 dr, .sl none 0 c], 50), ([.v (.string (ByteArray.mk #[])), .v (.int .i64 0), .v (.slice none 0 0)], 50), ([], 89)]⟩ (by kernel_rfl) (by kernel_rfl) ?_
        refine At.fork [1, 6] rfl (by kernel_rfl) rfl (allOf.cons ?_ (allOf.cons ?_ allOf.nil))
        · refine At.to (noF_stable) (noF_fewer) 20 300 [2, 4, 6, 7, 9] 3 ⟨.ops (opsOf (sub B43 [1, 0])) (((opsOf (sub B43 [1, 0])).toList.drop 7).take 1), [.any (opsOf (sub B43 [1, 0])) 2 [7, 6, 1, 4, 3, 5, 2, 0]], [(2, .lp 1 0), (4, .so key), (6, .io .i64 dr), (7, .ls 2 0 0 0), (9, .sl none 0 c)], [([.so key, .io .i64 dr, .sl none 0 c], 50), ([.v (.string (ByteArray.mk #[])), .v (.int .i64 0), .v (.slice none 0 0)], 50), ([], 89)]⟩ (by kernel_rfl) (by kernel_rfl) ?_
          refine At.lsRow 7 [2, 4, 6, 9] 2 89 9 rfl rfl rfl rfl (by kernel_rfl) ?_
          intro A
          refine At.appNone 89 9 72 A 0 0 c (fun _ => False) [] w.heap.size [] (by kernel_rfl) ?_
          refine At.toJ (RowF.stable) RowF.fewer 20 300 [2] 2 ⟨.exit .normal, [], [(2, .lp 1 0)], [([.so key, .io .i64 dr, .sl none 0 c], 50), ([.so key, .io .i64 dr, .sl A 0 0], 50)]⟩ (by kernel_rfl) (by kernel_rfl) ?_
          exact At.fin (A, 0) rfl rfl (by unfold subFr; kernel_rfl) rfl (fun _ _ _ _ h => h)
        · refine At.to (noF_stable) (noF_fewer) 20 300 [2, 3, 6, 7, 9] 3 ⟨.any (opsOf (sub B43 [1, 0])) 4 [6, 4, 3, 5, 2, 0], [], [(2, .lp 1 0), (3, .lp 0 0), (6, .io .i64 dr), (7, .ls 2 0 0 0), (9, .sl none 0 c)], [([.so key, .io .i64 dr, .sl none 0 c], 50), ([.v (.string (ByteArray.mk #[])), .v (.int .i64 0), .v (.slice none 0 0)], 50), ([], 89)]⟩ (by kernel_rfl) (by kernel_rfl) ?_
          refine At.fork [1, 7] rfl (by kernel_rfl) rfl (allOf.cons ?_ (allOf.cons ?_ allOf.nil))
          · refine At.to (noF_stable) (noF_fewer) 20 300 [2, 4, 6, 7, 9] 3 ⟨.ops (opsOf (sub B43 [1, 0])) (((opsOf (sub B43 [1, 0])).toList.drop 7).take 1), [.any (opsOf (sub B43 [1, 0])) 2 [7, 1, 6, 4, 3, 5, 2, 0]], [(2, .lp 1 0), (4, .so key), (6, .io .i64 dr), (7, .ls 2 0 0 0), (9, .sl none 0 c)], [([.so key, .io .i64 dr, .sl none 0 c], 50), ([.v (.string (ByteArray.mk #[])), .v (.int .i64 0), .v (.slice none 0 0)], 50), ([], 89)]⟩ (by kernel_rfl) (by kernel_rfl) ?_
            refine At.lsRow 7 [2, 4, 6, 9] 2 89 9 rfl rfl rfl rfl (by kernel_rfl) ?_
            intro A
            refine At.appNone 89 9 72 A 0 0 c (fun _ => False) [] w.heap.size [] (by kernel_rfl) ?_
            refine At.toJ (RowF.stable) RowF.fewer 20 300 [2] 2 ⟨.exit .normal, [], [(2, .lp 1 0)], [([.so key, .io .i64 dr, .sl none 0 c], 50), ([.so key, .io .i64 dr, .sl A 0 0], 50)]⟩ (by kernel_rfl) (by kernel_rfl) ?_
            exact At.fin (A, 0) rfl rfl (by unfold subFr; kernel_rfl) rfl (fun _ _ _ _ h => h)
          · refine At.to (noF_stable) (noF_fewer) 20 300 [2, 3, 6, 7, 9] 3 ⟨.ops (opsOf (sub B43 [1, 0])) (((opsOf (sub B43 [1, 0])).toList.drop 7).take 1), [.any (opsOf (sub B43 [1, 0])) 3 [7, 6, 4, 3, 5, 2, 0]], [(2, .lp 1 0), (3, .lp 0 0), (6, .io .i64 dr), (7, .ls 2 0 0 0), (9, .sl none 0 c)], [([.so key, .io .i64 dr, .sl none 0 c], 50), ([.v (.string (ByteArray.mk #[])), .v (.int .i64 0), .v (.slice none 0 0)], 50), ([], 89)]⟩ (by kernel_rfl) (by kernel_rfl) ?_
            refine At.lsRow 7 [2, 3, 6, 9] 2 89 9 rfl rfl rfl rfl (by kernel_rfl) ?_
            intro A
            refine At.appNone 89 9 72 A 0 0 c (fun _ => False) [] w.heap.size [] (by kernel_rfl) ?_
            refine At.toJ (RowF.stable) RowF.fewer 20 300 [2] 2 ⟨.exit .normal, [], [(2, .lp 1 0)], [([.so key, .io .i64 dr, .sl none 0 c], 50), ([.so key, .io .i64 dr, .sl A 0 0], 50)]⟩ (by kernel_rfl) (by kernel_rfl) ?_
            exact At.fin (A, 0) rfl rfl (by unfold subFr; kernel_rfl) rfl (fun _ _ _ _ h => h)
      · refine At.to (noF_stable) (noF_fewer) 20 300 [2, 3, 6, 9] 2 ⟨.any (opsOf (sub B43 [1, 0])) 5 [6, 3, 5, 2, 0], [], [(2, .lp 1 0), (3, .lp 0 0), (6, .io .i64 dr), (9, .sl none 0 c)], [([.so key, .io .i64 dr, .sl none 0 c], 50), ([.v (.string (ByteArray.mk #[])), .v (.int .i64 0), .v (.slice none 0 0)], 50)]⟩ (by kernel_rfl) (by kernel_rfl) ?_
        refine At.fork [1, 4] rfl (by kernel_rfl) rfl (allOf.cons ?_ (allOf.cons ?_ allOf.nil))
        · refine At.to (noF_stable) (noF_fewer) 20 300 [2, 4, 6, 7, 9] 3 ⟨.ops (opsOf (sub B43 [1, 0])) (((opsOf (sub B43 [1, 0])).toList.drop 7).take 1), [.any (opsOf (sub B43 [1, 0])) 2 [7, 4, 1, 6, 3, 5, 2, 0]], [(2, .lp 1 0), (4, .so key), (6, .io .i64 dr), (7, .ls 2 0 0 0), (9, .sl none 0 c)], [([.so key, .io .i64 dr, .sl none 0 c], 50), ([.v (.string (ByteArray.mk #[])), .v (.int .i64 0), .v (.slice none 0 0)], 50), ([], 89)]⟩ (by kernel_rfl) (by kernel_rfl) ?_
          refine At.lsRow 7 [2, 4, 6, 9] 2 89 9 rfl rfl rfl rfl (by kernel_rfl) ?_
          intro A
          refine At.appNone 89 9 72 A 0 0 c (fun _ => False) [] w.heap.size [] (by kernel_rfl) ?_
          refine At.toJ (RowF.stable) RowF.fewer 20 300 [2] 2 ⟨.exit .normal, [], [(2, .lp 1 0)], [([.so key, .io .i64 dr, .sl none 0 c], 50), ([.so key, .io .i64 dr, .sl A 0 0], 50)]⟩ (by kernel_rfl) (by kernel_rfl) ?_
          exact At.fin (A, 0) rfl rfl (by unfold subFr; kernel_rfl) rfl (fun _ _ _ _ h => h)
        · refine At.to (noF_stable) (noF_fewer) 20 300 [2, 3, 6, 7, 9] 3 ⟨.any (opsOf (sub B43 [1, 0])) 4 [4, 6, 3, 5, 2, 0], [], [(2, .lp 1 0), (3, .lp 0 0), (6, .io .i64 dr), (7, .ls 2 0 0 0), (9, .sl none 0 c)], [([.so key, .io .i64 dr, .sl none 0 c], 50), ([.v (.string (ByteArray.mk #[])), .v (.int .i64 0), .v (.slice none 0 0)], 50), ([], 89)]⟩ (by kernel_rfl) (by kernel_rfl) ?_
          refine At.fork [1, 7] rfl (by kernel_rfl) rfl (allOf.cons ?_ (allOf.cons ?_ allOf.nil))
          · refine At.to (noF_stable) (noF_fewer) 20 300 [2, 4, 6, 7, 9] 3 ⟨.ops (opsOf (sub B43 [1, 0])) (((opsOf (sub B43 [1, 0])).toList.drop 7).take 1), [.any (opsOf (sub B43 [1, 0])) 2 [7, 1, 4, 6, 3, 5, 2, 0]], [(2, .lp 1 0), (4, .so key), (6, .io .i64 dr), (7, .ls 2 0 0 0), (9, .sl none 0 c)], [([.so key, .io .i64 dr, .sl none 0 c], 50), ([.v (.string (ByteArray.mk #[])), .v (.int .i64 0), .v (.slice none 0 0)], 50), ([], 89)]⟩ (by kernel_rfl) (by kernel_rfl) ?_
            refine At.lsRow 7 [2, 4, 6, 9] 2 89 9 rfl rfl rfl rfl (by kernel_rfl) ?_
            intro A
            refine At.appNone 89 9 72 A 0 0 c (fun _ => False) [] w.heap.size [] (by kernel_rfl) ?_
            refine At.toJ (RowF.stable) RowF.fewer 20 300 [2] 2 ⟨.exit .normal, [], [(2, .lp 1 0)], [([.so key, .io .i64 dr, .sl none 0 c], 50), ([.so key, .io .i64 dr, .sl A 0 0], 50)]⟩ (by kernel_rfl) (by kernel_rfl) ?_
            exact At.fin (A, 0) rfl rfl (by unfold subFr; kernel_rfl) rfl (fun _ _ _ _ h => h)
          · refine At.to (noF_stable) (noF_fewer) 20 300 [2, 3, 6, 7, 9] 3 ⟨.ops (opsOf (sub B43 [1, 0])) (((opsOf (sub B43 [1, 0])).toList.drop 7).take 1), [.any (opsOf (sub B43 [1, 0])) 3 [7, 4, 6, 3, 5, 2, 0]], [(2, .lp 1 0), (3, .lp 0 0), (6, .io .i64 dr), (7, .ls 2 0 0 0), (9, .sl none 0 c)], [([.so key, .io .i64 dr, .sl none 0 c], 50), ([.v (.string (ByteArray.mk #[])), .v (.int .i64 0), .v (.slice none 0 0)], 50), ([], 89)]⟩ (by kernel_rfl) (by kernel_rfl) ?_
            refine At.lsRow 7 [2, 3, 6, 9] 2 89 9 rfl rfl rfl rfl (by kernel_rfl) ?_
            intro A
            refine At.appNone 89 9 72 A 0 0 c (fun _ => False) [] w.heap.size [] (by kernel_rfl) ?_
            refine At.toJ (RowF.stable) RowF.fewer 20 300 [2] 2 ⟨.exit .normal, [], [(2, .lp 1 0)], [([.so key, .io .i64 dr, .sl none 0 c], 50), ([.so key, .io .i64 dr, .sl A 0 0], 50)]⟩ (by kernel_rfl) (by kernel_rfl) ?_
            exact At.fin (A, 0) rfl rfl (by unfold subFr; kernel_rfl) rfl (fun _ _ _ _ h => h)
    · refine At.to (noF_stable) (noF_fewer) 20 300 [2, 3, 5, 7, 8] 3 ⟨.any (opsOf (sub B43 [1, 0])) 6 [4, 5, 2, 0], [], [(2, .lp 1 0), (3, .lp 0 0), (5, .lp 0 1), (7, .ls 2 0 0 0), (8, .lp 0 2)], [([.so key, .io .i64 dr, .sl none 0 c], 50), ([.v (.string (ByteArray.mk #[])), .v (.int .i64 0), .v (.slice none 0 0)], 50), ([], 89)]⟩ (by kernel_rfl) (by kernel_rfl) ?_
      refine At.fork [1, 3, 6] rfl (by kernel_rfl) rfl (allOf.cons ?_ (allOf.cons ?_ (allOf.cons ?_ allOf.nil)))
      · refine At.to (noF_stable) (noF_fewer) 20 300 [2, 4, 5, 7, 8] 3 ⟨.any (opsOf (sub B43 [1, 0])) 5 [1, 4, 5, 2, 0], [], [(2, .lp 1 0), (4, .so key), (5, .lp 0 1), (7, .ls 2 0 0 0), (8, .lp 0 2)], [([.so key, .io .i64 dr, .sl none 0 c], 50), ([.v (.string (ByteArray.mk #[])), .v (.int .i64 0), .v (.slice none 0 0)], 50), ([], 89)]⟩ (by kernel_rfl) (by kernel_rfl) ?_
        refine At.fork [3, 6] rfl (by kernel_rfl) rfl (allOf.cons ?_ (allOf.cons ?_ allOf.nil))
        · refine At.to (noF_stable) (noF_fewer) 20 300 [2, 4, 6, 7, 9] 3 ⟨.ops (opsOf (sub B43 [1, 0])) (((opsOf (sub B43 [1, 0])).toList.drop 7).take 1), [.any (opsOf (sub B43 [1, 0])) 2 [7, 6, 3, 1, 4, 5, 2, 0]], [(2, .lp 1 0), (4, .so key), (6, .io .i64 dr), (7, .ls 2 0 0 0), (9, .sl none 0 c)], [([.so key, .io .i64 dr, .sl none 0 c], 50), ([.v (.string (ByteArray.mk #[])), .v (.int .i64 0), .v (.slice none 0 0)], 50), ([], 89)]⟩ (by kernel_rfl) (by kernel_rfl) ?_
          refine At.lsRow 7 [2, 4, 6, 9] 2 89 9 rfl rfl rfl rfl (by kernel_rfl) ?_
          intro A
          refine At.appNone 89 9 72 A 0 0 c (fun _ => False) [] w.heap.size [] (by kernel_rfl) ?_
          refine At.toJ (RowF.stable) RowF.fewer 20 300 [2] 2 ⟨.exit .normal, [], [(2, .lp 1 0)], [([.so key, .io .i64 dr, .sl none 0 c], 50), ([.so key, .io .i64 dr, .sl A 0 0], 50)]⟩ (by kernel_rfl) (by kernel_rfl) ?_
          exact At.fin (A, 0) rfl rfl (by unfold subFr; kernel_rfl) rfl (fun _ _ _ _ h => h)
        · refine At.to (noF_stable) (noF_fewer) 20 300 [2, 4, 5, 7, 9] 3 ⟨.any (opsOf (sub B43 [1, 0])) 4 [6, 1, 4, 5, 2, 0], [], [(2, .lp 1 0), (4, .so key), (5, .lp 0 1), (7, .ls 2 0 0 0), (9, .sl none 0 c)], [([.so key, .io .i64 dr, .sl none 0 c], 50), ([.v (.string (ByteArray.mk #[])), .v (.int .i64 0), .v (.slice none 0 0)], 50), ([], 89)]⟩ (by kernel_rfl) (by kernel_rfl) ?_
          refine At.fork [3, 7] rfl (by kernel_rfl) rfl (allOf.cons ?_ (allOf.cons ?_ allOf.nil))
          · refine At.to (noF_stable) (noF_fewer) 20 300 [2, 4, 6, 7, 9] 3 ⟨.ops (opsOf (sub B43 [1, 0])) (((opsOf (sub B43 [1, 0])).toList.drop 7).take 1), [.any (opsOf (sub B43 [1, 0])) 2 [7, 3, 6, 1, 4, 5, 2, 0]], [(2, .lp 1 0), (4, .so key), (6, .io .i64 dr), (7, .ls 2 0 0 0), (9, .sl none 0 c)], [([.so key, .io .i64 dr, .sl none 0 c], 50), ([.v (.string (ByteArray.mk #[])), .v (.int .i64 0), .v (.slice none 0 0)], 50), ([], 89)]⟩ (by kernel_rfl) (by kernel_rfl) ?_
            refine At.lsRow 7 [2, 4, 6, 9] 2 89 9 rfl rfl rfl rfl (by kernel_rfl) ?_
            intro A
            refine At.appNone 89 9 72 A 0 0 c (fun _ => False) [] w.heap.size [] (by kernel_rfl) ?_
            refine At.toJ (RowF.stable) RowF.fewer 20 300 [2] 2 ⟨.exit .normal, [], [(2, .lp 1 0)], [([.so key, .io .i64 dr, .sl none 0 c], 50), ([.so key, .io .i64 dr, .sl A 0 0], 50)]⟩ (by kernel_rfl) (by kernel_rfl) ?_
            exact At.fin (A, 0) rfl rfl (by unfold subFr; kernel_rfl) rfl (fun _ _ _ _ h => h)
          · refine At.to (noF_stable) (noF_fewer) 20 300 [2, 4, 5, 7, 9] 3 ⟨.ops (opsOf (sub B43 [1, 0])) (((opsOf (sub B43 [1, 0])).toList.drop 7).take 1), [.any (opsOf (sub B43 [1, 0])) 3 [7, 6, 1, 4, 5, 2, 0]], [(2, .lp 1 0), (4, .so key), (5, .lp 0 1), (7, .ls 2 0 0 0), (9, .sl none 0 c)], [([.so key, .io .i64 dr, .sl none 0 c], 50), ([.v (.string (ByteArray.mk #[])), .v (.int .i64 0), .v (.slice none 0 0)], 50), ([], 89)]⟩ (by kernel_rfl) (by kernel_rfl) ?_
            refine At.lsRow 7 [2, 4, 5, 9] 2 89 9 rfl rfl rfl rfl (by kernel_rfl) ?_
            intro A
            refine At.appNone 89 9 72 A 0 0 c (fun _ => False) [] w.heap.size [] (by kernel_rfl) ?_
            refine At.toJ (RowF.stable) RowF.fewer 20 300 [2] 2 ⟨.exit .normal, [], [(2, .lp 1 0)], [([.so key, .io .i64 dr, .sl none 0 c], 50), ([.so key, .io .i64 dr, .sl A 0 0], 50)]⟩ (by kernel_rfl) (by kernel_rfl) ?_
            exact At.fin (A, 0) rfl rfl (by unfold subFr; kernel_rfl) rfl (fun _ _ _ _ h => h)
      · refine At.to (noF_stable) (noF_fewer) 20 300 [2, 3, 6, 7, 8] 3 ⟨.any (opsOf (sub B43 [1, 0])) 5 [3, 4, 5, 2, 0], [], [(2, .lp 1 0), (3, .lp 0 0), (6, .io .i64 dr), (7, .ls 2 0 0 0), (8, .lp 0 2)], [([.so key, .io .i64 dr, .sl none 0 c], 50), ([.v (.string (ByteArray.mk #[])), .v (.int .i64 0), .v (.slice none 0 0)], 50), ([], 89)]⟩ (by kernel_rfl) (by kernel_rfl) ?_
        refine At.fork [1, 6] rfl (by kernel_rfl) rfl (allOf.cons ?_ (allOf.cons ?_ allOf.nil))
        · refine At.to (noF_stable) (noF_fewer) 20 300 [2, 4, 6, 7, 9] 3 ⟨.ops (opsOf (sub B43 [1, 0])) (((opsOf (sub B43 [1, 0])).toList.drop 7).take 1), [.any (opsOf (sub B43 [1, 0])) 2 [7, 6, 1, 3, 4, 5, 2, 0]], [(2, .lp 1 0), (4, .so key), (6, .io .i64 dr), (7, .ls 2 0 0 0), (9, .sl none 0 c)], [([.so key, .io .i64 dr, .sl none 0 c], 50), ([.v (.string (ByteArray.mk #[])), .v (.int .i64 0), .v (.slice none 0 0)], 50), ([], 89)]⟩ (by kernel_rfl) (by kernel_rfl) ?_
          refine At.lsRow 7 [2, 4, 6, 9] 2 89 9 rfl rfl rfl rfl (by kernel_rfl) ?_
          intro A
          refine At.appNone 89 9 72 A 0 0 c (fun _ => False) [] w.heap.size [] (by kernel_rfl) ?_
          refine At.toJ (RowF.stable) RowF.fewer 20 300 [2] 2 ⟨.exit .normal, [], [(2, .lp 1 0)], [([.so key, .io .i64 dr, .sl none 0 c], 50), ([.so key, .io .i64 dr, .sl A 0 0], 50)]⟩ (by kernel_rfl) (by kernel_rfl) ?_
          exact At.fin (A, 0) rfl rfl (by unfold subFr; kernel_rfl) rfl (fun _ _ _ _ h => h)
        · refine At.to (noF_stable) (noF_fewer) 20 300 [2, 3, 6, 7, 9] 3 ⟨.any (opsOf (sub B43 [1, 0])) 4 [6, 3, 4, 5, 2, 0], [], [(2, .lp 1 0), (3, .lp 0 0), (6, .io .i64 dr), (7, .ls 2 0 0 0), (9, .sl none 0 c)], [([.so key, .io .i64 dr, .sl none 0 c], 50), ([.v (.string (ByteArray.mk #[])), .v (.int .i64 0), .v (.slice none 0 0)], 50), ([], 89)]⟩ (by kernel_rfl) (by kernel_rfl) ?_
          refine At.fork [1, 7] rfl (by kernel_rfl) rfl (allOf.cons ?_ (allOf.cons ?_ allOf.nil))
          · refine At.to (noF_stable) (noF_fewer) 20 300 [2, 4, 6, 7, 9] 3 ⟨.ops (opsOf (sub B43 [1, 0])) (((opsOf (sub B43 [1, 0])).toList.drop 7).take 1), [.any (opsOf (sub B43 [1, 0])) 2 [7, 1, 6, 3, 4, 5, 2, 0]], [(2, .lp 1 0), (4, .so key), (6, .io .i64 dr), (7, .ls 2 0 0 0), (9, .sl none 0 c)], [([.so key, .io .i64 dr, .sl none 0 c], 50), ([.v (.string (ByteArray.mk #[])), .v (.int .i64 0), .v (.slice none 0 0)], 50), ([], 89)]⟩ (by kernel_rfl) (by kernel_rfl) ?_
            refine At.lsRow 7 [2, 4, 6, 9] 2 89 9 rfl rfl rfl rfl (by kernel_rfl) ?_
            intro A
            refine At.appNone 89 9 72 A 0 0 c (fun _ => False) [] w.heap.size [] (by kernel_rfl) ?_
            refine At.toJ (RowF.stable) RowF.fewer 20 300 [2] 2 ⟨.exit .normal, [], [(2, .lp 1 0)], [([.so key, .io .i64 dr, .sl none 0 c], 50), ([.so key, .io .i64 dr, .sl A 0 0], 50)]⟩ (by kernel_rfl) (by kernel_rfl) ?_
            exact At.fin (A, 0) rfl rfl (by unfold subFr; kernel_rfl) rfl (fun _ _ _ _ h => h)
          · refine At.to (noF_stable) (noF_fewer) 20 300 [2, 3, 6, 7, 9] 3 ⟨.ops (opsOf (sub B43 [1, 0])) (((opsOf (sub B43 [1, 0])).toList.drop 7).take 1), [.any (opsOf (sub B43 [1, 0])) 3 [7, 6, 3, 4, 5, 2, 0]], [(2, .lp 1 0), (3, .lp 0 0), (6, .io .i64 dr), (7, .ls 2 0 0 0), (9, .sl none 0 c)], [([.so key, .io .i64 dr, .sl none 0 c], 50), ([.v (.string (ByteArray.mk #[])), .v (.int .i64 0), .v (.slice none 0 0)], 50), ([], 89)]⟩ (by kernel_rfl) (by kernel_rfl) ?_
            refine At.lsRow 7 [2, 3, 6, 9] 2 89 9 rfl rfl rfl rfl (by kernel_rfl) ?_
            intro A
            refine At.appNone 89 9 72 A 0 0 c (fun _ => False) [] w.heap.size [] (by kernel_rfl) ?_
            refine At.toJ (RowF.stable) RowF.fewer 20 300 [2] 2 ⟨.exit .normal, [], [(2, .lp 1 0)], [([.so key, .io .i64 dr, .sl none 0 c], 50), ([.so key, .io .i64 dr, .sl A 0 0], 50)]⟩ (by kernel_rfl) (by kernel_rfl) ?_
            exact At.fin (A, 0) rfl rfl (by unfold subFr; kernel_rfl) rfl (fun _ _ _ _ h => h)
      · refine At.to (noF_stable) (noF_fewer) 20 300 [2, 3, 5, 7, 9] 3 ⟨.any (opsOf (sub B43 [1, 0])) 5 [6, 4, 5, 2, 0], [], [(2, .lp 1 0), (3, .lp 0 0), (5, .lp 0 1), (7, .ls 2 0 0 0), (9, .sl none 0 c)], [([.so key, .io .i64 dr, .sl none 0 c], 50), ([.v (.string (ByteArray.mk #[])), .v (.int .i64 0), .v (.slice none 0 0)], 50), ([], 89)]⟩ (by kernel_rfl) (by kernel_rfl) ?_
        refine At.fork [1, 3, 7] rfl (by kernel_rfl) rfl (allOf.cons ?_ (allOf.cons ?_ (allOf.cons ?_ allOf.nil)))
        · refine At.to (noF_stable) (noF_fewer) 20 300 [2, 4, 5, 7, 9] 3 ⟨.any (opsOf (sub B43 [1, 0])) 4 [1, 6, 4, 5, 2, 0], [], [(2, .lp 1 0), (4, .so key), (5, .lp 0 1), (7, .ls 2 0 0 0), (9, .sl none 0 c)], [([.so key, .io .i64 dr, .sl none 0 c], 50), ([.v (.string (ByteArray.mk #[])), .v (.int .i64 0), .v (.slice none 0 0)], 50), ([], 89)]⟩ (by kernel_rfl) (by kernel_rfl) ?_
          refine At.fork [3, 7] rfl (by kernel_rfl) rfl (allOf.cons ?_ (allOf.cons ?_ allOf.nil))
          · refine At.to (noF_stable) (noF_fewer) 20 300 [2, 4, 6, 7, 9] 3 ⟨.ops (opsOf (sub B43 [1, 0])) (((opsOf (sub B43 [1, 0])).toList.drop 7).take 1), [.any (opsOf (sub B43 [1, 0])) 2 [7, 3, 1, 6, 4, 5, 2, 0]], [(2, .lp 1 0), (4, .so key), (6, .io .i64 dr), (7, .ls 2 0 0 0), (9, .sl none 0 c)], [([.so key, .io .i64 dr, .sl none 0 c], 50), ([.v (.string (ByteArray.mk #[])), .v (.int .i64 0), .v (.slice none 0 0)], 50), ([], 89)]⟩ (by kernel_rfl) (by kernel_rfl) ?_
            refine At.lsRow 7 [2, 4, 6, 9] 2 89 9 rfl rfl rfl rfl (by kernel_rfl) ?_
            intro A
            refine At.appNone 89 9 72 A 0 0 c (fun _ => False) [] w.heap.size [] (by kernel_rfl) ?_
            refine At.toJ (RowF.stable) RowF.fewer 20 300 [2] 2 ⟨.exit .normal, [], [(2, .lp 1 0)], [([.so key, .io .i64 dr, .sl none 0 c], 50), ([.so key, .io .i64 dr, .sl A 0 0], 50)]⟩ (by kernel_rfl) (by kernel_rfl) ?_
            exact At.fin (A, 0) rfl rfl (by unfold subFr; kernel_rfl) rfl (fun _ _ _ _ h => h)
          · refine At.to (noF_stable) (noF_fewer) 20 300 [2, 4, 5, 7, 9] 3 ⟨.ops (opsOf (sub B43 [1, 0])) (((opsOf (sub B43 [1, 0])).toList.drop 7).take 1), [.any (opsOf (sub B43 [1, 0])) 3 [7, 1, 6, 4, 5, 2, 0]], [(2, .lp 1 0), (4, .so key), (5, .lp 0 1), (7, .ls 2 0 0 0), (9, .sl none 0 c)], [([.so key, .io .i64 dr, .sl none 0 c], 50), ([.v (.string (ByteArray.mk #[])), .v (.int .i64 0), .v (.slice none 0 0)], 50), ([], 89)]⟩ (by kernel_rfl) (by kernel_rfl) ?_
            refine At.lsRow 7 [2, 4, 5, 9] 2 89 9 rfl rfl rfl rfl (by kernel_rfl) ?_
            intro A
            refine At.appNone 89 9 72 A 0 0 c (fun _ => False) [] w.heap.size [] (by kernel_rfl) ?_
            refine At.toJ (RowF.stable) RowF.fewer 20 300 [2] 2 ⟨.exit .normal, [], [(2, .lp 1 0)], [([.so key, .io .i64 dr, .sl none 0 c], 50), ([.so key, .io .i64 dr, .sl A 0 0], 50)]⟩ (by kernel_rfl) (by kernel_rfl) ?_
            exact At.fin (A, 0) rfl rfl (by unfold subFr; kernel_rfl) rfl (fun _ _ _ _ h => h)
        · refine At.to (noF_stable) (noF_fewer) 20 300 [2, 3, 6, 7, 9] 3 ⟨.any (opsOf (sub B43 [1, 0])) 4 [3, 6, 4, 5, 2, 0], [], [(2, .lp 1 0), (3, .lp 0 0), (6, .io .i64 dr), (7, .ls 2 0 0 0), (9, .sl none 0 c)], [([.so key, .io .i64 dr, .sl none 0 c], 50), ([.v (.string (ByteArray.mk #[])), .v (.int .i64 0), .v (.slice none 0 0)], 50), ([], 89)]⟩ (by kernel_rfl) (by kernel_rfl) ?_
          refine At.fork [1, 7] rfl (by kernel_rfl) rfl (allOf.cons ?_ (allOf.cons ?_ allOf.nil))
          · refine At.to (noF_stable) (noF_fewer) 20 300 [2, 4, 6, 7, 9] 3 ⟨.ops (opsOf (sub B43 [1, 0])) (((opsOf (sub B43 [1, 0])).toList.drop 7).take 1), [.any (opsOf (sub B43 [1, 0])) 2 [7, 1, 3, 6, 4, 5, 2, 0]], [(2, .lp 1 0), (4, .so key), (6, .io .i64 dr), (7, .ls 2 0 0 0), (9, .sl none 0 c)], [([.so key, .io .i64 dr, .sl none 0 c], 50), ([.v (.string (ByteArray.mk #[])), .v (.int .i64 0), .v (.slice none 0 0)], 50), ([], 89)]⟩ (by kernel_rfl) (by kernel_rfl) ?_
            refine At.lsRow 7 [2, 4, 6, 9] 2 89 9 rfl rfl rfl rfl (by kernel_rfl) ?_
            intro A
            refine At.appNone 89 9 72 A 0 0 c (fun _ => False) [] w.heap.size [] (by kernel_rfl) ?_
            refine At.toJ (RowF.stable) RowF.fewer 20 300 [2] 2 ⟨.exit .normal, [], [(2, .lp 1 0)], [([.so key, .io .i64 dr, .sl none 0 c], 50), ([.so key, .io .i64 dr, .sl A 0 0], 50)]⟩ (by kernel_rfl) (by kernel_rfl) ?_
            exact At.fin (A, 0) rfl rfl (by unfold subFr; kernel_rfl) rfl (fun _ _ _ _ h => h)
          · refine At.to (noF_stable) (noF_fewer) 20 300 [2, 3, 6, 7, 9] 3 ⟨.ops (opsOf (sub B43 [1, 0])) (((opsOf (sub B43 [1, 0])).toList.drop 7).take 1), [.any (opsOf (sub B43 [1, 0])) 3 [7, 3, 6, 4, 5, 2, 0]], [(2, .lp 1 0), (3, .lp 0 0), (6, .io .i64 dr), (7, .ls 2 0 0 0), (9, .sl none 0 c)], [([.so key, .io .i64 dr, .sl none 0 c], 50), ([.v (.string (ByteArray.mk #[])), .v (.int .i64 0), .v (.slice none 0 0)], 50), ([], 89)]⟩ (by kernel_rfl) (by kernel_rfl) ?_
            refine At.lsRow 7 [2, 3, 6, 9] 2 89 9 rfl rfl rfl rfl (by kernel_rfl) ?_
            intro A
            refine At.appNone 89 9 72 A 0 0 c (fun _ => False) [] w.heap.size [] (by kernel_rfl) ?_
            refine At.toJ (RowF.stable) RowF.fewer 20 300 [2] 2 ⟨.exit .normal, [], [(2, .lp 1 0)], [([.so key, .io .i64 dr, .sl none 0 c], 50), ([.so key, .io .i64 dr, .sl A 0 0], 50)]⟩ (by kernel_rfl) (by kernel_rfl) ?_
            exact At.fin (A, 0) rfl rfl (by unfold subFr; kernel_rfl) rfl (fun _ _ _ _ h => h)
        · refine At.to (noF_stable) (noF_fewer) 20 300 [2, 3, 5, 7, 9] 3 ⟨.ops (opsOf (sub B43 [1, 0])) (((opsOf (sub B43 [1, 0])).toList.drop 7).take 1), [.any (opsOf (sub B43 [1, 0])) 4 [7, 6, 4, 5, 2, 0]], [(2, .lp 1 0), (3, .lp 0 0), (5, .lp 0 1), (7, .ls 2 0 0 0), (9, .sl none 0 c)], [([.so key, .io .i64 dr, .sl none 0 c], 50), ([.v (.string (ByteArray.mk #[])), .v (.int .i64 0), .v (.slice none 0 0)], 50), ([], 89)]⟩ (by kernel_rfl) (by kernel_rfl) ?_
          refine At.lsRow 7 [2, 3, 5, 9] 2 89 9 rfl rfl rfl rfl (by kernel_rfl) ?_
          intro A
          refine At.appNone 89 9 72 A 0 0 c (fun _ => False) [] w.heap.size [] (by kernel_rfl) ?_
          refine At.toJ (RowF.stable) RowF.fewer 20 300 [2, 3, 5, 10] 2 ⟨.any (opsOf (sub B43 [1, 0])) 4 [7, 6, 4, 5, 2, 0], [], [(2, .lp 1 0), (3, .lp 0 0), (5, .lp 0 1), (10, .sl A 0 0)], [([.so key, .io .i64 dr, .sl none 0 c], 50), ([.v (.string (ByteArray.mk #[])), .v (.int .i64 0), .v (.slice none 0 0)], 50)]⟩ (by kernel_rfl) (by kernel_rfl) ?_
          refine At.fork [1, 3] rfl (by kernel_rfl) rfl (allOf.cons ?_ (allOf.cons ?_ allOf.nil))
          · refine At.toJ (RowF.stable) RowF.fewer 20 300 [2] 2 ⟨.exit .normal, [], [(2, .lp 1 0)], [([.so key, .io .i64 dr, .sl none 0 c], 50), ([.so key, .io .i64 dr, .sl A 0 0], 50)]⟩ (by kernel_rfl) (by kernel_rfl) ?_
            exact At.fin (A, 0) rfl rfl (by unfold subFr; kernel_rfl) rfl (fun _ _ _ _ h => h)
          · refine At.toJ (RowF.stable) RowF.fewer 20 300 [2] 2 ⟨.exit .normal, [], [(2, .lp 1 0)], [([.so key, .io .i64 dr, .sl none 0 c], 50), ([.so key, .io .i64 dr, .sl A 0 0], 50)]⟩ (by kernel_rfl) (by kernel_rfl) ?_
            exact At.fin (A, 0) rfl rfl (by unfold subFr; kernel_rfl) rfl (fun _ _ _ _ h => h)
    · refine At.to (noF_stable) (noF_fewer) 20 300 [2, 3, 5, 9] 2 ⟨.any (opsOf (sub B43 [1, 0])) 6 [6, 5, 2, 0], [], [(2, .lp 1 0), (3, .lp 0 0), (5, .lp 0 1), (9, .sl none 0 c)], [([.so key, .io .i64 dr, .sl none 0 c], 50), ([.v (.string (ByteArray.mk #[])), .v (.int .i64 0), .v (.slice none 0 0)], 50)]⟩ (by kernel_rfl) (by kernel_rfl) ?_
      refine At.fork [1, 3, 4] rfl (by kernel_rfl) rfl (allOf.cons ?_ (allOf.cons ?_ (allOf.cons ?_ allOf.nil)))
      · refine At.to (noF_stable) (noF_fewer) 20 300 [2, 4, 5, 9] 2 ⟨.any (opsOf (sub B43 [1, 0])) 5 [1, 6, 5, 2, 0], [], [(2, .lp 1 0), (4, .so key), (5, .lp 0 1), (9, .sl none 0 c)], [([.so key, .io .i64 dr, .sl none 0 c], 50), ([.v (.string (ByteArray.mk #[])), .v (.int .i64 0), .v (.slice none 0 0)], 50)]⟩ (by kernel_rfl) (by kernel_rfl) ?_
        refine At.fork [3, 4] rfl (by kernel_rfl) rfl (allOf.cons ?_ (allOf.cons ?_ allOf.nil))
        · refine At.to (noF_stable) (noF_fewer) 20 300 [2, 4, 6, 7, 9] 3 ⟨.ops (opsOf (sub B43 [1, 0])) (((opsOf (sub B43 [1, 0])).toList.drop 7).take 1), [.any (opsOf (sub B43 [1, 0])) 2 [7, 4, 3, 1, 6, 5, 2, 0]], [(2, .lp 1 0), (4, .so key), (6, .io .i64 dr), (7, .ls 2 0 0 0), (9, .sl none 0 c)], [([.so key, .io .i64 dr, .sl none 0 c], 50), ([.v (.string (ByteArray.mk #[])), .v (.int .i64 0), .v (.slice none 0 0)], 50), ([], 89)]⟩ (by kernel_rfl) (by kernel_rfl) ?_
          refine At.lsRow 7 [2, 4, 6, 9] 2 89 9 rfl rfl rfl rfl (by kernel_rfl) ?_
          intro A
          refine At.appNone 89 9 72 A 0 0 c (fun _ => False) [] w.heap.size [] (by kernel_rfl) ?_
          refine At.toJ (RowF.stable) RowF.fewer 20 300 [2] 2 ⟨.exit .normal, [], [(2, .lp 1 0)], [([.so key, .io .i64 dr, .sl none 0 c], 50), ([.so key, .io .i64 dr, .sl A 0 0], 50)]⟩ (by kernel_rfl) (by kernel_rfl) ?_
          exact At.fin (A, 0) rfl rfl (by unfold subFr; kernel_rfl) rfl (fun _ _ _ _ h => h)
        · refine At.to (noF_stable) (noF_fewer) 20 300 [2, 4, 5, 7, 9] 3 ⟨.any (opsOf (sub B43 [1, 0])) 4 [4, 1, 6, 5, 2, 0], [], [(2, .lp 1 0), (4, .so key), (5, .lp 0 1), (7, .ls 2 0 0 0), (9, .sl none 0 c)], [([.so key, .io .i64 dr, .sl none 0 c], 50), ([.v (.string (ByteArray.mk #[])), .v (.int .i64 0), .v (.slice none 0 0)], 50), ([], 89)]⟩ (by kernel_rfl) (by kernel_rfl) ?_
          refine At.fork [3, 7] rfl (by kernel_rfl) rfl (allOf.cons ?_ (allOf.cons ?_ allOf.nil))
          · refine At.to (noF_stable) (noF_fewer) 20 300 [2, 4, 6, 7, 9] 3 ⟨.ops (opsOf (sub B43 [1, 0])) (((opsOf (sub B43 [1, 0])).toList.drop 7).take 1), [.any (opsOf (sub B43 [1, 0])) 2 [7, 3, 4, 1, 6, 5, 2, 0]], [(2, .lp 1 0), (4, .so key), (6, .io .i64 dr), (7, .ls 2 0 0 0), (9, .sl none 0 c)], [([.so key, .io .i64 dr, .sl none 0 c], 50), ([.v (.string (ByteArray.mk #[])), .v (.int .i64 0), .v (.slice none 0 0)], 50), ([], 89)]⟩ (by kernel_rfl) (by kernel_rfl) ?_
            refine At.lsRow 7 [2, 4, 6, 9] 2 89 9 rfl rfl rfl rfl (by kernel_rfl) ?_
            intro A
            refine At.appNone 89 9 72 A 0 0 c (fun _ => False) [] w.heap.size [] (by kernel_rfl) ?_
            refine At.toJ (RowF.stable) RowF.fewer 20 300 [2] 2 ⟨.exit .normal, [], [(2, .lp 1 0)], [([.so key, .io .i64 dr, .sl none 0 c], 50), ([.so key, .io .i64 dr, .sl A 0 0], 50)]⟩ (by kernel_rfl) (by kernel_rfl) ?_
            exact At.fin (A, 0) rfl rfl (by unfold subFr; kernel_rfl) rfl (fun _ _ _ _ h => h)
          · refine At.to (noF_stable) (noF_fewer) 20 300 [2, 4, 5, 7, 9] 3 ⟨.ops (opsOf (sub B43 [1, 0])) (((opsOf (sub B43 [1, 0])).toList.drop 7).take 1), [.any (opsOf (sub B43 [1, 0])) 3 [7, 4, 1, 6, 5, 2, 0]], [(2, .lp 1 0), (4, .so key), (5, .lp 0 1), (7, .ls 2 0 0 0), (9, .sl none 0 c)], [([.so key, .io .i64 dr, .sl none 0 c], 50), ([.v (.string (ByteArray.mk #[])), .v (.int .i64 0), .v (.slice none 0 0)], 50), ([], 89)]⟩ (by kernel_rfl) (by kernel_rfl) ?_
            refine At.lsRow 7 [2, 4, 5, 9] 2 89 9 rfl rfl rfl rfl (by kernel_rfl) ?_
            intro A
            refine At.appNone 89 9 72 A 0 0 c (fun _ => False) [] w.heap.size [] (by kernel_rfl) ?_
            refine At.toJ (RowF.stable) RowF.fewer 20 300 [2] 2 ⟨.exit .normal, [], [(2, .lp 1 0)], [([.so key, .io .i64 dr, .sl none 0 c], 50), ([.so key, .io .i64 dr, .sl A 0 0], 50)]⟩ (by kernel_rfl) (by kernel_rfl) ?_
            exact At.fin (A, 0) rfl rfl (by unfold subFr; kernel_rfl) rfl (fun _ _ _ _ h => h)
      · refine At.to (noF_stable) (noF_fewer) 20 300 [2, 3, 6, 9] 2 ⟨.any (opsOf (sub B43 [1, 0])) 5 [3, 6, 5, 2, 0], [], [(2, .lp 1 0), (3, .lp 0 0), (6, .io .i64 dr), (9, .sl none 0 c)], [([.so key, .io .i64 dr, .sl none 0 c], 50), ([.v (.string (ByteArray.mk #[])), .v (.int .i64 0), .v (.slice none 0 0)], 50)]⟩ (by kernel_rfl) (by kernel_rfl) ?_
        refine At.fork [1, 4] rfl (by kernel_rfl) rfl (allOf.cons ?_ (allOf.cons ?_ allOf.nil))
        · refine At.to (noF_stable) (noF_fewer) 20 300 [2, 4, 6, 7, 9] 3 ⟨.ops (opsOf (sub B43 [1, 0])) (((opsOf (sub B43 [1, 0])).toList.drop 7).take 1), [.any (opsOf (sub B43 [1, 0])) 2 [7, 4, 1, 3, 6, 5, 2, 0]], [(2, .lp 1 0), (4, .so key), (6, .io .i64 dr), (7, .ls 2 0 0 0), (9, .sl none 0 c)], [([.so key, .io .i64 dr, .sl none 0 c], 50), ([.v (.string (ByteArray.mk #[])), .v (.int .i64 0), .v (.slice none 0 0)], 50), ([], 89)]⟩ (by kernel_rfl) (by kernel_rfl) ?_
          refine At.lsRow 7 [2, 4, 6, 9] 2 89 9 rfl rfl rfl rfl (by kernel_rfl) ?_
          intro A
          refine At.appNone 89 9 72 A 0 0 c (fun _ => False) [] w.heap.size [] (by kernel_rfl) ?_
          refine At.toJ (RowF.stable) RowF.fewer 20 300 [2] 2 ⟨.exit .normal, [], [(2, .lp 1 0)], [([.so key, .io .i64 dr, .sl none 0 c], 50), ([.so key, .io .i64 dr, .sl A 0 0], 50)]⟩ (by kernel_rfl) (by kernel_rfl) ?_
          exact At.fin (A, 0) rfl rfl (by unfold subFr; kernel_rfl) rfl (fun _ _ _ _ h => h)
        · refine At.to (noF_stable) (noF_fewer) 20 300 [2, 3, 6, 7, 9] 3 ⟨.any (opsOf (sub B43 [1, 0])) 4 [4, 3, 6, 5, 2, 0], [], [(2, .lp 1 0), (3, .lp 0 0), (6, .io .i64 dr), (7, .ls 2 0 0 0), (9, .sl none 0 c)], [([.so key, .io .i64 dr, .sl none 0 c], 50), ([.v (.string (ByteArray.mk #[])), .v (.int .i64 0), .v (.slice none 0 0)], 50), ([], 89)]⟩ (by kernel_rfl) (by kernel_rfl) ?_
          refine At.fork [1, 7] rfl (by kernel_rfl) rfl (allOf.cons ?_ (allOf.cons ?_ allOf.nil))
          · refine At.to (noF_stable) (noF_fewer) 20 300 [2, 4, 6, 7, 9] 3 ⟨.ops (opsOf (sub B43 [1, 0])) (((opsOf (sub B43 [1, 0])).toList.drop 7).take 1), [.any (opsOf (sub B43 [1, 0])) 2 [7, 1, 4, 3, 6, 5, 2, 0]], [(2, .lp 1 0), (4, .so key), (6, .io .i64 dr), (7, .ls 2 0 0 0), (9, .sl none 0 c)], [([.so key, .io .i64 dr, .sl none 0 c], 50), ([.v (.string (ByteArray.mk #[])), .v (.int .i64 0), .v (.slice none 0 0)], 50), ([], 89)]⟩ (by kernel_rfl) (by kernel_rfl) ?_
            refine At.lsRow 7 [2, 4, 6, 9] 2 89 9 rfl rfl rfl rfl (by kernel_rfl) ?_
            intro A
            refine At.appNone 89 9 72 A 0 0 c (fun _ => False) [] w.heap.size [] (by kernel_rfl) ?_
            refine At.toJ (RowF.stable) RowF.fewer 20 300 [2] 2 ⟨.exit .normal, [], [(2, .lp 1 0)], [([.so key, .io .i64 dr, .sl none 0 c], 50), ([.so key, .io .i64 dr, .sl A 0 0], 50)]⟩ (by kernel_rfl) (by kernel_rfl) ?_
            exact At.fin (A, 0) rfl rfl (by unfold subFr; kernel_rfl) rfl (fun _ _ _ _ h => h)
          · refine At.to (noF_stable) (noF_fewer) 20 300 [2, 3, 6, 7, 9] 3 ⟨.ops (opsOf (sub B43 [1, 0])) (((opsOf (sub B43 [1, 0])).toList.drop 7).take 1), [.any (opsOf (sub B43 [1, 0])) 3 [7, 4, 3, 6, 5, 2, 0]], [(2, .lp 1 0), (3, .lp 0 0), (6, .io .i64 dr), (7, .ls 2 0 0 0), (9, .sl none 0 c)], [([.so key, .io .i64 dr, .sl none 0 c], 50), ([.v (.string (ByteArray.mk #[])), .v (.int .i64 0), .v (.slice none 0 0)], 50), ([], 89)]⟩ (by kernel_rfl) (by kernel_rfl) ?_
            refine At.lsRow 7 [2, 3, 6, 9] 2 89 9 rfl rfl rfl rfl (by kernel_rfl) ?_
            intro A
            refine At.appNone 89 9 72 A 0 0 c (fun _ => False) [] w.heap.size [] (by kernel_rfl) ?_
            refine At.toJ (RowF.stable) RowF.fewer 20 300 [2] 2 ⟨.exit .normal, [], [(2, .lp 1 0)], [([.so key, .io .i64 dr, .sl none 0 c], 50), ([.so key, .io .i64 dr, .sl A 0 0], 50)]⟩ (by kernel_rfl) (by kernel_rfl) ?_
            exact At.fin (A, 0) rfl rfl (by unfold subFr; kernel_rfl) rfl (fun _ _ _ _ h => h)
      · refine At.to (noF_stable) (noF_fewer) 20 300 [2, 3, 5, 7, 9] 3 ⟨.any (opsOf (sub B43 [1, 0])) 5 [4, 6, 5, 2, 0], [], [(2, .lp 1 0), (3, .lp 0 0), (5, .lp 0 1), (7, .ls 2 0 0 0), (9, .sl none 0 c)], [([.so key, .io .i64 dr, .sl none 0 c], 50), ([.v (.string (ByteArray.mk #[])), .v (.int .i64 0), .v (.slice none 0 0)], 50), ([], 89)]⟩ (by kernel_rfl) (by kernel_rfl) ?_
        refine At.fork [1, 3, 7] rfl (by kernel_rfl) rfl (allOf.cons ?_ (allOf.cons ?_ (allOf.cons ?_ allOf.nil)))
        · refine At.to (noF_stable) (noF_fewer) 20 300 [2, 4, 5, 7, 9] 3 ⟨.any (opsOf (sub B43 [1, 0])) 4 [1, 4, 6, 5, 2, 0], [], [(2, .lp 1 0), (4, .so key), (5, .lp 0 1), (7, .ls 2 0 0 0), (9, .sl none 0 c)], [([.so key, .io .i64 dr, .sl none 0 c], 50), ([.v (.string (ByteArray.mk #[])), .v (.int .i64 0), .v (.slice none 0 0)], 50), ([], 89)]⟩ (by kernel_rfl) (by kernel_rfl) ?_
          refine At.fork [3, 7] rfl (by kernel_rfl) rfl (allOf.cons ?_ (allOf.cons ?_ allOf.nil))
          · refine At.to (noF_stable) (noF_fewer) 20 300 [2, 4, 6, 7, 9] 3 ⟨.ops (opsOf (sub B43 [1, 0])) (((opsOf (sub B43 [1, 0])).toList.drop 7).take 1), [.any (opsOf (sub B43 [1, 0])) 2 [7, 3, 1, 4, 6, 5, 2, 0]], [(2, .lp 1 0), (4, .so key), (6, .io .i64 dr), (7, .ls 2 0 0 0), (9, .sl none 0 c)], [([.so key, .io .i64 dr, .sl none 0 c], 50), ([.v (.string (ByteArray.mk #[])), .v (.int .i64 0), .v (.slice none 0 0)], 50), ([], 89)]⟩ (by kernel_rfl) (by kernel_rfl) ?_
            refine At.lsRow 7 [2, 4, 6, 9] 2 89 9 rfl rfl rfl rfl (by kernel_rfl) ?_
            intro A
            refine At.appNone 89 9 72 A 0 0 c (fun _ => False) [] w.heap.size [] (by kernel_rfl) ?_
            refine At.toJ (RowF.stable) RowF.fewer 20 300 [2] 2 ⟨.exit .normal, [], [(2, .lp 1 0)], [([.so key, .io .i64 dr, .sl none 0 c], 50), ([.so key, .io .i64 dr, .sl A 0 0], 50)]⟩ (by kernel_rfl) (by kernel_rfl) ?_
            exact At.fin (A, 0) rfl rfl (by unfold subFr; kernel_rfl) rfl (fun _ _ _ _ h => h)
          · refine At.to (noF_stable) (noF_fewer) 20 300 [2, 4, 5, 7, 9] 3 ⟨.ops (opsOf (sub B43 [1, 0])) (((opsOf (sub B43 [1, 0])).toList.drop 7).take 1), [.any (opsOf (sub B43 [1, 0])) 3 [7, 1, 4, 6, 5, 2, 0]], [(2, .lp 1 0), (4, .so key), (5, .lp 0 1), (7, .ls 2 0 0 0), (9, .sl none 0 c)], [([.so key, .io .i64 dr, .sl none 0 c], 50), ([.v (.string (ByteArray.mk #[])), .v (.int .i64 0), .v (.slice none 0 0)], 50), ([], 89)]⟩ (by kernel_rfl) (by kernel_rfl) ?_
            refine At.lsRow 7 [2, 4, 5, 9] 2 89 9 rfl rfl rfl rfl (by kernel_rfl) ?_
            intro A
            refine At.appNone 89 9 72 A 0 0 c (fun _ => False) [] w.heap.size [] (by kernel_rfl) ?_
            refine At.toJ (RowF.stable) RowF.fewer 20 300 [2] 2 ⟨.exit .normal, [], [(2, .lp 1 0)], [([.so key, .io .i64 dr, .sl none 0 c], 50), ([.so key, .io .i64 dr, .sl A 0 0], 50)]⟩ (by kernel_rfl) (by kernel_rfl) ?_
            exact At.fin (A, 0) rfl rfl (by unfold subFr; kernel_rfl) rfl (fun _ _ _ _ h => h)
        · refine At.to (noF_stable) (noF_fewer) 20 300 [2, 3, 6, 7, 9] 3 ⟨.any (opsOf (sub B43 [1, 0])) 4 [3, 4, 6, 5, 2, 0], [], [(2, .lp 1 0), (3, .lp 0 0), (6, .io .i64 dr), (7, .ls 2 0 0 0), (9, .sl none 0 c)], [([.so key, .io .i64 dr, .sl none 0 c], 50), ([.v (.string (ByteArray.mk #[])), .v (.int .i64 0), .v (.slice none 0 0)], 50), ([], 89)]⟩ (by kernel_rfl) (by kernel_rfl) ?_
          refine At.fork [1, 7] rfl (by kernel_rfl) rfl (allOf.cons ?_ (allOf.cons ?_ allOf.nil))
          · refine At.to (noF_stable) (noF_fewer) 20 300 [2, 4, 6, 7, 9] 3 ⟨.ops (opsOf (sub B43 [1, 0])) (((opsOf (sub B43 [1, 0])).toList.drop 7).take 1), [.any (opsOf (sub B43 [1, 0])) 2 [7, 1, 3, 4, 6, 5, 2, 0]], [(2, .lp 1 0), (4, .so key), (6, .io .i64 dr), (7, .ls 2 0 0 0), (9, .sl none 0 c)], [([.so key, .io .i64 dr, .sl none 0 c], 50), ([.v (.string (ByteArray.mk #[])), .v (.int .i64 0), .v (.slice none 0 0)], 50), ([], 89)]⟩ (by kernel_rfl) (by kernel_rfl) ?_
            refine At.lsRow 7 [2, 4, 6, 9] 2 89 9 rfl rfl rfl rfl (by kernel_rfl) ?_
            intro A
            refine At.appNone 89 9 72 A 0 0 c (fun _ => False) [] w.heap.size [] (by kernel_rfl) ?_
            refine At.toJ (RowF.stable) RowF.fewer 20 300 [2] 2 ⟨.exit .normal, [], [(2, .lp 1 0)], [([.so key, .io .i64 dr, .sl none 0 c], 50), ([.so key, .io .i64 dr, .sl A 0 0], 50)]⟩ (by kernel_rfl) (by kernel_rfl) ?_
            exact At.fin (A, 0) rfl rfl (by unfold subFr; kernel_rfl) rfl (fun _ _ _ _ h => h)
          · refine At.to (noF_stable) (noF_fewer) 20 300 [2, 3, 6, 7, 9] 3 ⟨.ops (opsOf (sub B43 [1, 0])) (((opsOf (sub B43 [1, 0])).toList.drop 7).take 1), [.any (opsOf (sub B43 [1, 0])) 3 [7, 3, 4, 6, 5, 2, 0]], [(2, .lp 1 0), (3, .lp 0 0), (6, .io .i64 dr), (7, .ls 2 0 0 0), (9, .sl none 0 c)], [([.so key, .io .i64 dr, .sl none 0 c], 50), ([.v (.string (ByteArray.mk #[])), .v (.int .i64 0), .v (.slice none 0 0)], 50), ([], 89)]⟩ (by kernel_rfl) (by kernel_rfl) ?_
            refine At.lsRow 7 [2, 3, 6, 9] 2 89 9 rfl rfl rfl rfl (by kernel_rfl) ?_
            intro A
            refine At.appNone 89 9 72 A 0 0 c (fun _ => False) [] w.heap.size [] (by kernel_rfl) ?_
            refine At.toJ (RowF.stable) RowF.fewer 20 300 [2] 2 ⟨.exit .normal, [], [(2, .lp 1 0)], [([.so key, .io .i64 dr, .sl none 0 c], 50), ([.so key, .io .i64 dr, .sl A 0 0], 50)]⟩ (by kernel_rfl) (by kernel_rfl) ?_
            exact At.fin (A, 0) rfl rfl (by unfold subFr; kernel_rfl) rfl (fun _ _ _ _ h => h)
        · refine At.to (noF_stable) (noF_fewer) 20 300 [2, 3, 5, 7, 9] 3 ⟨.ops (opsOf (sub B43 [1, 0])) (((opsOf (sub B43 [1, 0])).toList.drop 7).take 1), [.any (opsOf (sub B43 [1, 0])) 4 [7, 4, 6, 5, 2, 0]], [(2, .lp 1 0), (3, .lp 0 0), (5, .lp 0 1), (7, .ls 2 0 0 0), (9, .sl none 0 c)], [([.so key, .io .i64 dr, .sl none 0 c], 50), ([.v (.string (ByteArray.mk #[])), .v (.int .i64 0), .v (.slice none 0 0)], 50), ([], 89)]⟩ (by kernel_rfl) (by kernel_rfl) ?_
          refine At.lsRow 7 [2, 3, 5, 9] 2 89 9 rfl rfl rfl rfl (by kernel_rfl) ?_
          intro A
          refine At.appNone 89 9 72 A 0 0 c (fun _ => False) [] w.heap.size [] (by kernel_rfl) ?_
          refine At.toJ (RowF.stable) RowF.fewer 20 300 [2, 3, 5, 10] 2 ⟨.any (opsOf (sub B43 [1, 0])) 4 [7, 4, 6, 5, 2, 0], [], [(2, .lp 1 0), (3, .lp 0 0), (5, .lp 0 1), (10, .sl A 0 0)], [([.so key, .io .i64 dr, .sl none 0 c], 50), ([.v (.string (ByteArray.mk #[])), .v (.int .i64 0), .v (.slice none 0 0)], 50)]⟩ (by kernel_rfl) (by kernel_rfl) ?_
          refine At.fork [1, 3] rfl (by kernel_rfl) rfl (allOf.cons ?_ (allOf.cons ?_ allOf.nil))
          · refine At.toJ (RowF.stable) RowF.fewer 20 300 [2] 2 ⟨.exit .normal, [], [(2, .lp 1 0)], [([.so key, .io .i64 dr, .sl none 0 c], 50), ([.so key, .io .i64 dr, .sl A 0 0], 50)]⟩ (by kernel_rfl) (by kernel_rfl) ?_
            exact At.fin (A, 0) rfl rfl (by unfold subFr; kernel_rfl) rfl (fun _ _ _ _ h => h)
          · refine At.toJ (RowF.stable) RowF.fewer 20 300 [2] 2 ⟨.exit .normal, [], [(2, .lp 1 0)], [([.so key, .io .i64 dr, .sl none 0 c], 50), ([.so key, .io .i64 dr, .sl A 0 0], 50)]⟩ (by kernel_rfl) (by kernel_rfl) ?_
            exact At.fin (A, 0) rfl rfl (by unfold subFr; kernel_rfl) rfl (fun _ _ _ _ h => h)
  · refine At.toJ (RowF.stable) RowF.fewer 20 300 [2] 2 ⟨.exit .ret, [], [(2, .lp 1 0)], [([.so key, .io .i64 dr, .sl none 0 c], 50), ([.so key, .io .i64 dr, .sl x.fst 0 x.snd], 50)]⟩ (by kernel_rfl) (by kernel_rfl) ?_
    refine At.ret (by kernel_rfl) (.agg [.so key, .io .i64 dr, .sl x.fst 0 x.snd]) (by kernel_rfl) ?_
    intro ρ w9 hm hf
    exact ⟨x.1, 0, x.2, rfl, RowF.fewer _ _ 0 (Nat.zero_le _) hf⟩

end Go.Proofs.YtiehnigbcfkcdaaDoor
