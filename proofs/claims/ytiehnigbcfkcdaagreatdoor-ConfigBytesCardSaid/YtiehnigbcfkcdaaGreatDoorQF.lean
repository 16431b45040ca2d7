import Derived.Test.YtiehnigbcfkcdaaGreatDoorQE
set_option linter.unusedSimpArgs false
set_option linter.unusedVariables false
namespace Go.Proofs.YtiehnigbcfkcdaaGreatDoor
open Go.RowKit Go.Sx

theorem ent_slB {w0 w : World} {A : Option Addr} {b : Addr} {n c m : Nat} {bs ρ : List Nat} (h : EntV w0 A n c (some b, bv bs) ρ w) (hm : m = bs.length) : SlB w (some b) m bs :=
  ⟨hm.symm, fun e => (by cases e), fun a ha j v hj => by
    simp only [Option.some.injEq] at ha
    subst ha
    exact ent_src h j _ (by simp only [bv, List.getElem?_map, hj]; rfl)⟩

noncomputable def B14 : Code := (Tryz.f14.body).getD .skip
set_option maxHeartbeats 4000000 in
set_option maxRecDepth 100000 in
theorem rdigest_any (g s k sz sl of gp lt ea : Int) (d : Bool) (w : World) :
    Calls Tryz.prog 14 #[.agg #[.int .i64 g, .int .i64 s, .int .i64 k, .int .i64 sz, .int .i64 sl, .int .i64 of, .int .i64 gp, .int .i64 lt, .int .i64 ea, .bool d]] w fun e w' => e = .returned (.int .u32 (crcV (nums [g, s, k, sz, sl, of, gp, lt, ea, (bif d then 1 else 0)]))) ∧ Below w.heap.size w w' := by
  have hlt := nums_lt [g, s, k, sz, sl, of, gp, lt, ea, (bif d then 1 else 0)]
  have hlen := nums_len [g, s, k, sz, sl, of, gp, lt, ea, (bif d then 1 else 0)]
  simp only [List.length_cons, List.length_nil] at hlen
  have hby := fun w1 => rbytes_any g s k sz sl of gp lt ea d w1
  generalize nums [g, s, k, sz, sl, of, gp, lt, ea, (bif d then 1 else 0)] = bs at hlt hlen hby ⊢
  refine enterF (N := w.heap.size) (F := FrameR w (fun _ => False) []) (fn := Tryz.f14) (c := B14) [.agg (cfgL g s k sz sl of gp lt ea d)] Tryz.func14 rfl rfl (Nat.le_refl _) (FrameR.start _ [] (by simp)) ?_
  refine At.toJ (FrameR.stable) FrameR.fewer 20 300 [3] 0 ⟨pops B14 [1, 0] 1, [.seq (sub B14 [1, 1])], [(3, .agg [.io .i64 g, .io .i64 s, .io .i64 k, .io .i64 sz, .io .i64 sl, .io .i64 of, .io .i64 gp, .io .i64 lt, .io .i64 ea, .bo d])], []⟩ (by kernel_rfl) (by kernel_rfl) ?_
  refine At.mkrowv (base := w.heap.size) (e := 5) (size := 1) 13 [.agg (cfgL g s k sz sl of gp lt ea d)] (fun A n c => .sl A n c) (fun _ => False) [] (bv bs) (by kernel_rfl) (by kernel_rfl) (by kernel_rfl) (by kernel_rfl) (by kernel_rfl) (fun ρ w1 hf => hf) (Nat.le_refl _) (fun ρ w1 hm hf => hby w1) ?_
  intro A n c
  refine At.toJ (RowF.stable) RowF.fewer 20 300 [4] 0 ⟨pops B14 [1, 0] 2, [.seq (sub B14 [1, 1])], [(4, .sl A n c)], []⟩ (by kernel_rfl) (by kernel_rfl) ?_
  refine At.mono (F' := fun ρ w1 => RowF w (fun _ => False) [] w.heap.size 5 1 A n c (bv bs) ρ w1 ∧ n ≤ 100) (fun ρ w1 h => ⟨h, by have := (row_cv h.1.1).1; omega⟩) (At.pure fun hn => ?_)
  refine At.call RowF.stable 40 [.sl A n c] (.io .u32 (crcV bs)) (by kernel_rfl) (by kernel_rfl) (by kernel_rfl) (fun ρ _ w1 hi hf => rsum_any A n c bs hlt (by omega) w1 (row_cv hf.1.1)) ?_
  refine At.toJ (RowF.stable) RowF.fewer 20 300 [2] 0 ⟨.exit .ret, [], [(2, .io IntKind.u32 (crcV bs))], []⟩ (by kernel_rfl) (by kernel_rfl) ?_
  refine At.ret (by kernel_rfl) (.io IntKind.u32 (crcV bs)) (by kernel_rfl) ?_
  intro ρ w9 hm hf
  exact ⟨rfl, hm.below⟩

noncomputable def B4 : Code := (Tryz.f4.body).getD .skip
set_option maxHeartbeats 20000000 in
set_option maxRecDepth 100000 in
theorem cbytes_no (g s k sz sl of gp lt ea : Int) (d : Bool) (M : Option Addr) (mn mc : Nat) (hw : ¬ wrongR g s k sz sl of gp lt ea = 0) (w : World) (htab : Lib.TabIs Tryz.prog w "strings.asciiSpace" .u8 Lib.asciiSpaceTab) (htp : Lib.TabIs Tryz.prog w "internal/strconv.uint64pow10" .u64 Lib.pow10Tab) :
    Calls Tryz.prog 4 #[.agg #[.int .i64 g, .int .i64 s, .int .i64 k, .int .i64 sz, .int .i64 sl, .int .i64 of, .int .i64 gp, .int .i64 lt, .int .i64 ea, .bool d], .slice M mn mc] w fun e w' => e = .returned (.bool true) ∧ Below w.heap.size w w' := by
  have h0 : jobE (wrongF g s k sz sl of gp lt ea) = 4 := by
    rw [wrong_eq]
    unfold jobE
    rw [if_neg hw]
  refine enter (fn := Tryz.f4) (c := B4) [.agg (cfgL g s k sz sl of gp lt ea d), .sl M mn mc] Tryz.func4 rfl rfl ?_
  refine At.to (noF_stable) (noF_fewer) 20 300 [1, 2, 21] 1 ⟨pops B4 [1, 0] 1, [.seq (sub B4 [1, 1])], [(1, .sl M mn mc), (2, .lp 0 0), (21, .agg [.io .i64 g, .io .i64 s, .io .i64 k, .io .i64 sz, .io .i64 sl, .io .i64 of, .io .i64 gp, .io .i64 lt, .io .i64 ea, .bo d])], [([.io .i64 g, .io .i64 s, .io .i64 k, .io .i64 sz, .io .i64 sl, .io .i64 of, .io .i64 gp, .io .i64 lt, .io .i64 ea, .bo d], 24)]⟩ (by kernel_rfl) (by kernel_rfl) ?_
  refine At.call noF_stable 9 [.agg (cfgL g s k sz sl of gp lt ea d)] (.tup [.v (.slice none 0 0), .v (.int .i64 4)]) (by kernel_rfl) (by kernel_rfl) (by kernel_rfl) (fun ρ _ w1 hi _ => bytes_no g s k sz sl of gp lt ea d w1 h0) ?_
  refine At.to (noF_stable) (noF_fewer) 20 300 [1, 2, 5, 6, 26] 1 ⟨pops B4 [1, 1, 0] 1, [.seq (sub B4 [1, 1, 1])], [(1, .sl M mn mc), (2, .lp 0 0), (5, .v (.slice none 0 0)), (6, .v (.int .i64 4)), (26, .agg [.io .i64 g, .io .i64 s, .io .i64 k, .io .i64 sz, .io .i64 sl, .io .i64 of, .io .i64 gp, .io .i64 lt, .io .i64 ea, .bo d])], [([.io .i64 g, .io .i64 s, .io .i64 k, .io .i64 sz, .io .i64 sl, .io .i64 of, .io .i64 gp, .io .i64 lt, .io .i64 ea, .bo d], 24)]⟩ (by kernel_rfl) (by kernel_rfl) ?_
  refine At.call noF_stable 9 [.agg (cfgL g s k sz sl of gp lt ea d)] (.tup [.v (.slice none 0 0), .v (.int .i64 4)]) (by kernel_rfl) (by kernel_rfl) (by kernel_rfl) (fun ρ _ w1 hi _ => bytes_no g s k sz sl of gp lt ea d w1 h0) ?_
  refine At.to (noF_stable) (noF_fewer) 20 300 [1, 2, 5, 6, 7, 31] 1 ⟨pops B4 [1, 1, 1, 0] 1, [.seq (sub B4 [1, 1, 1, 1])], [(1, .sl M mn mc), (2, .lp 0 0), (5, .v (.slice none 0 0)), (6, .v (.int .i64 4)), (7, .v (.slice none 0 0)), (31, .agg [.io .i64 g, .io .i64 s, .io .i64 k, .io .i64 sz, .io .i64 sl, .io .i64 of, .io .i64 gp, .io .i64 lt, .io .i64 ea, .bo d])], [([.io .i64 g, .io .i64 s, .io .i64 k, .io .i64 sz, .io .i64 sl, .io .i64 of, .io .i64 gp, .io .i64 lt, .io .i64 ea, .bo d], 24)]⟩ (by kernel_rfl) (by kernel_rfl) ?_
  refine At.call noF_stable 10 [.agg (cfgL g s k sz sl of gp lt ea d)] (.tup [.v (.int .u32 0), .v (.int .i64 4)]) (by kernel_rfl) (by kernel_rfl) (by kernel_rfl) (fun ρ _ w1 hi _ => digest_no g s k sz sl of gp lt ea d w1 h0) ?_
  refine At.to (noF_stable) (noF_fewer) 20 300 [1, 2, 5, 6, 7, 9, 10, 36] 1 ⟨pops B4 [1, 1, 1, 1, 0] 1, [.seq (sub B4 [1, 1, 1, 1, 1])], [(1, .sl M mn mc), (2, .lp 0 0), (5, .v (.slice none 0 0)), (6, .v (.int .i64 4)), (7, .v (.slice none 0 0)), (9, .v (.int IntKind.u32 0)), (10, .v (.int .i64 4)), (36, .agg [.io .i64 g, .io .i64 s, .io .i64 k, .io .i64 sz, .io .i64 sl, .io .i64 of, .io .i64 gp, .io .i64 lt, .io .i64 ea, .bo d])], [([.io .i64 g, .io .i64 s, .io .i64 k, .io .i64 sz, .io .i64 sl, .io .i64 of, .io .i64 gp, .io .i64 lt, .io .i64 ea, .bo d], 24)]⟩ (by kernel_rfl) (by kernel_rfl) ?_
  refine At.call noF_stable 11 [.agg (cfgL g s k sz sl of gp lt ea d)] (.tup [.v (.string ⟨#[]⟩), .v (.int .i64 4)]) (by kernel_rfl) (by kernel_rfl) (by kernel_rfl) (fun ρ _ w1 hi _ => (text_any g s k sz sl of gp lt ea d w1 (tab_below htab hi.mem.below rfl) (tab_below htp hi.mem.below rfl)).mono fun e w2 h => ⟨h.1.trans (by rw [h0]; rfl), h.2⟩) ?_
  refine At.to (noF_stable) (noF_fewer) 20 300 [1, 2, 5, 6, 7, 9, 10, 11, 12, 40] 1 ⟨pops B4 [1, 1, 1, 1, 1, 0, 0] 1, [.seq (sub B4 [1, 1, 1, 1, 1, 0, 1]), .seq (sub B4 [1, 1, 1, 1, 1, 1])], [(1, .sl M mn mc), (2, .lp 0 0), (5, .v (.slice none 0 0)), (6, .v (.int .i64 4)), (7, .v (.slice none 0 0)), (9, .v (.int IntKind.u32 0)), (10, .v (.int .i64 4)), (11, .v (.string (ByteArray.mk #[]))), (12, .v (.int .i64 4)), (40, .agg [.io .i64 g, .io .i64 s, .io .i64 k, .io .i64 sz, .io .i64 sl, .io .i64 of, .io .i64 gp, .io .i64 lt, .io .i64 ea, .bo d])], [([.io .i64 g, .io .i64 s, .io .i64 k, .io .i64 sz, .io .i64 sl, .io .i64 of, .io .i64 gp, .io .i64 lt, .io .i64 ea, .bo d], 24)]⟩ (by kernel_rfl) (by kernel_rfl) ?_
  refine At.call (noF_stable) 12 [.agg [.io .i64 g, .io .i64 s, .io .i64 k, .io .i64 sz, .io .i64 sl, .io .i64 of, .io .i64 gp, .io .i64 lt, .io .i64 ea, .bo d]] (.io .i64 (wrongR g s k sz sl of gp lt ea)) (by kernel_rfl) (by kernel_rfl) (by kernel_rfl) (fun _ _ w _ _ => rwrong_any (g) (s) (k) (sz) (sl) (of) (gp) (lt) (ea) (d) w) ?_
  refine At.to (noF_stable) (noF_fewer) 20 300 [1, 2, 5, 6, 7, 9, 10, 11, 12, 42] 1 ⟨.code (sub B4 [1, 1, 1, 1, 1, 0, 1]), [.seq (sub B4 [1, 1, 1, 1, 1, 1])], [(1, .sl M mn mc), (2, .lp 0 0), (5, .v (.slice none 0 0)), (6, .v (.int .i64 4)), (7, .v (.slice none 0 0)), (9, .v (.int IntKind.u32 0)), (10, .v (.int .i64 4)), (11, .v (.string (ByteArray.mk #[]))), (12, .v (.int .i64 4)), (42, .bo (wrongR g s k sz sl of gp lt ea != 0))], [([.io .i64 g, .io .i64 s, .io .i64 k, .io .i64 sz, .io .i64 sl, .io .i64 of, .io .i64 gp, .io .i64 lt, .io .i64 ea, .bo d], 24)]⟩ (by kernel_rfl) (by kernel_rfl) ?_
  refine At.res 42 (wrongR g s k sz sl of gp lt ea != 0) true (by kernel_rfl) (by first | assumption | (simp only [*]; done) | (simp [*]; done)) ?_
  refine At.to (noF_stable) (noF_fewer) 20 300 [9, 10, 11, 12, 46, 47] 0 ⟨pops B4 [1, 1, 1, 1, 1, 0, 1, 2, 0] 5, [.seq (sub B4 [1, 1, 1, 1, 1, 0, 1, 2, 1]), .seq (sub B4 [1, 1, 1, 1, 1, 1])], [(9, .v (.int IntKind.u32 0)), (10, .v (.int .i64 4)), (11, .v (.string (ByteArray.mk #[]))), (12, .v (.int .i64 4)), (46, .v (.bool true)), (47, .v (.int .i64 4))], []⟩ (by kernel_rfl) (by kernel_rfl) ?_
  refine At.call (noF_stable) 7 [.v (.int .i64 4)] (.io .i64 4) (by kernel_rfl) (by kernel_rfl) (by kernel_rfl) (fun _ _ w _ _ => num_any (4) w) ?_
  refine At.to (noF_stable) (noF_fewer) 20 300 [9, 10, 11, 12, 51] 0 ⟨pops B4 [1, 1, 1, 1, 1, 0, 1, 2, 0] 9, [.seq (sub B4 [1, 1, 1, 1, 1, 0, 1, 2, 1]), .seq (sub B4 [1, 1, 1, 1, 1, 1])], [(9, .v (.int IntKind.u32 0)), (10, .v (.int .i64 4)), (11, .v (.string (ByteArray.mk #[]))), (12, .v (.int .i64 4)), (51, .bo true)], []⟩ (by kernel_rfl) (by kernel_rfl) ?_
  refine At.res 51 (true) true (by kernel_rfl) (by first | assumption | (simp only [*]; done) | (simp [*]; done)) ?_
  refine At.to (noF_stable) (noF_fewer) 20 300 [11, 12, 55, 56] 0 ⟨pops B4 [1, 1, 1, 1, 1, 0, 1, 2, 0] 14, [.seq (sub B4 [1, 1, 1, 1, 1, 0, 1, 2, 1]), .seq (sub B4 [1, 1, 1, 1, 1, 1])], [(11, .v (.string (ByteArray.mk #[]))), (12, .v (.int .i64 4)), (55, .v (.bool true)), (56, .v (.int .i64 4))], []⟩ (by kernel_rfl) (by kernel_rfl) ?_
  refine At.call (noF_stable) 7 [.v (.int .i64 4)] (.io .i64 4) (by kernel_rfl) (by kernel_rfl) (by kernel_rfl) (fun _ _ w _ _ => num_any (4) w) ?_
  refine At.to (noF_stable) (noF_fewer) 20 300 [11, 12, 60] 0 ⟨pops B4 [1, 1, 1, 1, 1, 0, 1, 2, 0] 18, [.seq (sub B4 [1, 1, 1, 1, 1, 0, 1, 2, 1]), .seq (sub B4 [1, 1, 1, 1, 1, 1])], [(11, .v (.string (ByteArray.mk #[]))), (12, .v (.int .i64 4)), (60, .bo true)], []⟩ (by kernel_rfl) (by kernel_rfl) ?_
  refine At.res 60 (true) true (by kernel_rfl) (by first | assumption | (simp only [*]; done) | (simp [*]; done)) ?_
  refine At.to (noF_stable) (noF_fewer) 20 300 [64, 65] 0 ⟨pops B4 [1, 1, 1, 1, 1, 0, 1, 2, 0] 23, [.seq (sub B4 [1, 1, 1, 1, 1, 0, 1, 2, 1]), .seq (sub B4 [1, 1, 1, 1, 1, 1])], [(64, .v (.bool true)), (65, .v (.int .i64 4))], []⟩ (by kernel_rfl) (by kernel_rfl) ?_
  refine At.call (noF_stable) 7 [.v (.int .i64 4)] (.io .i64 4) (by kernel_rfl) (by kernel_rfl) (by kernel_rfl) (fun _ _ w _ _ => num_any (4) w) ?_
  refine At.to (noF_stable) (noF_fewer) 20 300 [69] 0 ⟨pops B4 [1, 1, 1, 1, 1, 0, 1, 2, 0] 27, [.seq (sub B4 [1, 1, 1, 1, 1, 0, 1, 2, 1]), .seq (sub B4 [1, 1, 1, 1, 1, 1])], [(69, .bo true)], []⟩ (by kernel_rfl) (by kernel_rfl) ?_
  refine At.res 69 (true) true (by kernel_rfl) (by first | assumption | (simp only [*]; done) | (simp [*]; done)) ?_
  refine At.to (noF_stable) (noF_fewer) 20 300 [69] 0 ⟨pops B4 [1, 1, 1, 1, 1, 0, 1, 2, 0] 27, [.seq (sub B4 [1, 1, 1, 1, 1, 0, 1, 2, 1]), .seq (sub B4 [1, 1, 1, 1, 1, 1])], [(69, .v (.bool true))], []⟩ (by kernel_rfl) (by kernel_rfl) ?_
  refine At.call noF_stable 8 [] (.v (.bool true)) (by kernel_rfl) (by kernel_rfl) (by kernel_rfl) (fun _ _ w1 hi _ => works_true w1 (tab_below htab hi.mem.below rfl)) ?_
  refine At.to (noF_stable) (noF_fewer) 20 300 [4] 0 ⟨.exit .ret, [], [(4, .v (.bool true))], []⟩ (by kernel_rfl) (by kernel_rfl) ?_
  refine At.ret (by kernel_rfl) (.v (.bool true)) (by kernel_rfl) ?_
  intro ρ w9 hm hf
  exact ⟨rfl, hm.below⟩

end Go.Proofs.YtiehnigbcfkcdaaGreatDoor
