import Derived.Test.YtiehnigbcfkcdaaGreatDoorF
import Derived.Test.YtiehnigbcfkcdaaGreatDoorSxU
set_option linter.unusedSimpArgs false
set_option linter.unusedVariables false
namespace Go.Proofs.YtiehnigbcfkcdaaGreatDoor
open Go.RowKit Go.Sx

/-- The bytes of the job that the chapter shows. -/
def jobB : List Nat := [4, 1, 1, 10, 0, 3, 0, 5, 0, 0]
theorem job_nums : nums [4, 1, 1, 10, 0, 3, 0, 5, 0, (bif false then 1 else 0)] = jobB := by kernel_rfl

noncomputable def B7 : Code := (Tryz.f7.body).getD .skip
set_option maxHeartbeats 4000000 in
set_option maxRecDepth 100000 in
theorem num_any (e : Int) (w : World) : Calls Tryz.prog 7 #[.int .i64 e] w fun e' w' => e' = .returned (.int .i64 e) ∧ Below w.heap.size w w' := by
  refine enter (fn := Tryz.f7) (c := B7) [.io .i64 e] Tryz.func7 rfl rfl ?_
  refine At.to noF_stable noF_fewer 20 400 [2] 0 ⟨.exit .ret, [], [(2, .io .i64 e)], []⟩ (by kernel_rfl) (by kernel_rfl) ?_
  refine At.ret (by kernel_rfl) (.io .i64 e) (by kernel_rfl) ?_
  intro ρ w9 hw9 _
  exact ⟨rfl, hw9.below⟩

noncomputable def B8 : Code := (Tryz.f8.body).getD .skip
set_option maxHeartbeats 4000000 in
set_option maxRecDepth 100000 in
theorem works_true (w : World) (htab : Lib.TabIs Tryz.prog w "strings.asciiSpace" .u8 Lib.asciiSpaceTab) : Calls Tryz.prog 8 #[] w fun e w' => e = .returned (.bool true) ∧ Below w.heap.size w w' := by
  refine enterF (N := w.heap.size) (F := FrameR w (fun _ => False) []) (fn := Tryz.f8) (c := B8) [] Tryz.func8 rfl rfl (Nat.le_refl _) (FrameR.start _ [] (by simp)) ?_
  refine At.toJ (FrameR.stable) FrameR.fewer 20 300 [1, 13] 1 ⟨pops B8 [1, 1, 0] 1, [.seq (sub B8 [1, 1, 1])], [(1, .lp 0 0), (13, .agg [.v (.int .i64 4), .v (.int .i64 1), .v (.int .i64 1), .v (.int .i64 10), .v (.int .i64 0), .v (.int .i64 3), .v (.int .i64 0), .v (.int .i64 5), .v (.int .i64 0), .v (.bool false)])], [([.v (.int .i64 4), .v (.int .i64 1), .v (.int .i64 1), .v (.int .i64 10), .v (.int .i64 0), .v (.int .i64 3), .v (.int .i64 0), .v (.int .i64 5), .v (.int .i64 0), .v (.bool false)], 24)]⟩ (by kernel_rfl) (by kernel_rfl) ?_
  refine At.mkrowv (base := w.heap.size) (e := 5) (size := 1) 9 [.agg [.v (.int .i64 4), .v (.int .i64 1), .v (.int .i64 1), .v (.int .i64 10), .v (.int .i64 0), .v (.int .i64 3), .v (.int .i64 0), .v (.int .i64 5), .v (.int .i64 0), .v (.bool false)]] (fun A n c => .tup [.sl A n c, .v (.int .i64 0)]) (fun _ => False) [] (bv jobB) (by kernel_rfl) (by kernel_rfl) (by kernel_rfl) (by kernel_rfl) (by kernel_rfl) (fun ρ w h => h) (Nat.le_refl _) (fun ρ w1 hm hf => (bytes_ok 4 1 1 10 0 3 0 5 0 false w1 (by kernel_rfl)).mono (by rintro e' w' ⟨A', n', c', rfl, k⟩; exact ⟨A', n', c', rfl, job_nums ▸ k⟩)) ?_
  intro A n c
  refine At.toJ (RowF.stable) RowF.fewer 20 300 [1, 2, 3, 18] 1 ⟨pops B8 [1, 1, 1, 0] 1, [.seq (sub B8 [1, 1, 1, 1])], [(1, .lp 0 0), (2, .sl A n c), (3, .v (.int .i64 0)), (18, .sl A n c)], [([.v (.int .i64 4), .v (.int .i64 1), .v (.int .i64 1), .v (.int .i64 10), .v (.int .i64 0), .v (.int .i64 3), .v (.int .i64 0), .v (.int .i64 5), .v (.int .i64 0), .v (.bool false)], 24)]⟩ (by kernel_rfl) (by kernel_rfl) ?_
  refine At.call RowF.stable 16 [.sl A n c] (.tup [.agg [.v (.int .i64 4), .v (.int .i64 1), .v (.int .i64 1), .v (.int .i64 10), .v (.int .i64 0), .v (.int .i64 3), .v (.int .i64 0), .v (.int .i64 5), .v (.int .i64 0), .v (.bool false)], .v (.int .i64 10), .v (.int .i64 0)]) (by kernel_rfl) (by kernel_rfl) (by kernel_rfl) (fun ρ _ w1 hi hf => ?_) ?_
  · have hlen := hf.1.1.len
    have hn : n = 10 := by simp only [bv, List.length_map] at hlen; have : jobB.length = 10 := rfl; omega
    subst hn
    obtain ⟨g, hA, _⟩ := hf.1.1.cell (j := 0) (by omega)
    subst hA
    have hs := Src.own hf.1.1.1
    exact (read_any ⟨g, 0, none⟩ 10 c jobB (by decide) rfl (by decide) w1 hs.2 hs.1).mono fun e' w' h => ⟨h.1.trans (by kernel_rfl), h.2⟩
  refine At.toJ (RowF.stable) RowF.fewer 20 300 [1, 2, 3, 4, 5, 6, 24] 2 ⟨pops B8 [1, 1, 1, 1, 0] 1, [.seq (sub B8 [1, 1, 1, 1, 1])], [(1, .lp 0 0), (2, .sl A n c), (3, .v (.int .i64 0)), (4, .lp 1 0), (5, .v (.int .i64 10)), (6, .v (.int .i64 0)), (24, .agg [.v (.int .i64 4), .v (.int .i64 1), .v (.int .i64 1), .v (.int .i64 10), .v (.int .i64 0), .v (.int .i64 3), .v (.int .i64 0), .v (.int .i64 5), .v (.int .i64 0), .v (.bool false)])], [([.v (.int .i64 4), .v (.int .i64 1), .v (.int .i64 1), .v (.int .i64 10), .v (.int .i64 0), .v (.int .i64 3), .v (.int .i64 0), .v (.int .i64 5), .v (.int .i64 0), .v (.bool false)], 24), ([.v (.int .i64 4), .v (.int .i64 1), .v (.int .i64 1), .v (.int .i64 10), .v (.int .i64 0), .v (.int .i64 3), .v (.int .i64 0), .v (.int .i64 5), .v (.int .i64 0), .v (.bool false)], 24)]⟩ (by kernel_rfl) (by kernel_rfl) ?_
  refine At.call RowF.stable 11 [.agg [.v (.int .i64 4), .v (.int .i64 1), .v (.int .i64 1), .v (.int .i64 10), .v (.int .i64 0), .v (.int .i64 3), .v (.int .i64 0), .v (.int .i64 5), .v (.int .i64 0), .v (.bool false)]] (.tup [.v (.string ⟨#[103, 114, 111, 117, 112, 115, 32, 52, 32, 115, 111, 117, 114, 99, 101, 115, 32, 49, 32, 107, 105, 110, 100, 32, 116, 117, 109, 98, 108, 105, 110, 103, 32, 115, 105, 122, 101, 32, 49, 48, 32, 115, 108, 105, 100, 101, 32, 48, 32, 111, 102, 102, 115, 101, 116, 32, 51, 32, 103, 97, 112, 32, 48, 32, 108, 97, 116, 101, 32, 53, 32, 101, 97, 114, 108, 121, 32, 48, 32, 100, 105, 115, 99, 97, 114, 100, 32, 110, 111]⟩), .v (.int .i64 0)]) (by kernel_rfl) (by kernel_rfl) (by kernel_rfl) (fun ρ _ w1 hi _ => text_job w1 (tab_below htab hi.mem.below rfl)) ?_
  refine At.toJ (RowF.stable) RowF.fewer 20 300 [1, 2, 3, 4, 5, 6, 7, 8, 29] 2 ⟨pops B8 [1, 1, 1, 1, 1, 0] 1, [.seq (sub B8 [1, 1, 1, 1, 1, 1])], [(1, .lp 0 0), (2, .sl A n c), (3, .v (.int .i64 0)), (4, .lp 1 0), (5, .v (.int .i64 10)), (6, .v (.int .i64 0)),
  (7,
    .v
      (.string
        (ByteArray.mk
          (let y :=
              let y :=
                let y :=
                  let y := [97, 114, 100, 32, 110, 111];
                  48 :: 32 :: 100 :: 105 :: 115 :: 99 :: y;
                let y := 101 :: 97 :: 114 :: 108 :: 121 :: 32 :: y;
                116 :: 101 :: 32 :: 53 :: 32 :: y;
              let y :=
                let y := 112 :: 32 :: 48 :: 32 :: 108 :: 97 :: y;
                32 :: 51 :: 32 :: 103 :: 97 :: y;
              let y := 111 :: 102 :: 102 :: 115 :: 101 :: 116 :: y;
              100 :: 101 :: 32 :: 48 :: 32 :: y;
            let y :=
              let y :=
                let y := 49 :: 48 :: 32 :: 115 :: 108 :: 105 :: y;
                115 :: 105 :: 122 :: 101 :: 32 :: y;
              let y := 98 :: 108 :: 105 :: 110 :: 103 :: 32 :: y;
              100 :: 32 :: 116 :: 117 :: 109 :: y;
            let y :=
              let y := 32 :: 49 :: 32 :: 107 :: 105 :: 110 :: y;
              117 :: 114 :: 99 :: 101 :: 115 :: y;
            let y := 115 :: 32 :: 52 :: 32 :: 115 :: 111 :: y;
            103 :: 114 :: 111 :: 117 :: 112 :: y).toArray))),
  (8, .v (.int .i64 0)), (29, .agg [.v (.int .i64 4), .v (.int .i64 1), .v (.int .i64 1), .v (.int .i64 10), .v (.int .i64 0), .v (.int .i64 10), .v (.int .i64 0), .v (.int .i64 0), .v (.int .i64 0), .v (.bool false)])], [([.v (.int .i64 4), .v (.int .i64 1), .v (.int .i64 1), .v (.int .i64 10), .v (.int .i64 0), .v (.int .i64 3), .v (.int .i64 0), .v (.int .i64 5), .v (.int .i64 0), .v (.bool false)], 24), ([.v (.int .i64 4), .v (.int .i64 1), .v (.int .i64 1), .v (.int .i64 10), .v (.int .i64 0), .v (.int .i64 3), .v (.int .i64 0), .v (.int .i64 5), .v (.int .i64 0), .v (.bool false)], 24)]⟩ (by kernel_rfl) (by kernel_rfl) ?_
  refine At.call (RowF.stable) 28 [.agg [.v (.int .i64 4), .v (.int .i64 1), .v (.int .i64 1), .v (.int .i64 10), .v (.int .i64 0), .v (.int .i64 10), .v (.int .i64 0), .v (.int .i64 0), .v (.int .i64 0), .v (.bool false)]] (.tup [.io .i64 (wrongF 4 1 1 10 0 10 0 0 0), .io .i64 (jobE (wrongF 4 1 1 10 0 10 0 0 0))]) (by kernel_rfl) (by kernel_rfl) (by kernel_rfl) (fun _ _ w _ _ => wrong_any (4) (1) (1) (10) (0) (10) (0) (0) (0) (false) w) ?_
  refine At.toJ (RowF.stable) RowF.fewer 20 300 [1, 2, 3, 4, 5, 6, 7, 8, 9, 10, 33] 2 ⟨pops B8 [1, 1, 1, 1, 1, 1, 0] 1, [.seq (sub B8 [1, 1, 1, 1, 1, 1, 1])], [(1, .lp 0 0), (2, .sl A n c), (3, .v (.int .i64 0)), (4, .lp 1 0), (5, .v (.int .i64 10)), (6, .v (.int .i64 0)),
  (7,
    .v
      (.string
        (ByteArray.mk
          (let y :=
              let y :=
                let y :=
                  let y := [97, 114, 100, 32, 110, 111];
                  48 :: 32 :: 100 :: 105 :: 115 :: 99 :: y;
                let y := 101 :: 97 :: 114 :: 108 :: 121 :: 32 :: y;
                116 :: 101 :: 32 :: 53 :: 32 :: y;
              let y :=
                let y := 112 :: 32 :: 48 :: 32 :: 108 :: 97 :: y;
                32 :: 51 :: 32 :: 103 :: 97 :: y;
              let y := 111 :: 102 :: 102 :: 115 :: 101 :: 116 :: y;
              100 :: 101 :: 32 :: 48 :: 32 :: y;
            let y :=
              let y :=
                let y := 49 :: 48 :: 32 :: 115 :: 108 :: 105 :: y;
                115 :: 105 :: 122 :: 101 :: 32 :: y;
              let y := 98 :: 108 :: 105 :: 110 :: 103 :: 32 :: y;
              100 :: 32 :: 116 :: 117 :: 109 :: y;
            let y :=
              let y := 32 :: 49 :: 32 :: 107 :: 105 :: 110 :: y;
              117 :: 114 :: 99 :: 101 :: 115 :: y;
            let y := 115 :: 32 :: 52 :: 32 :: 115 :: 111 :: y;
            103 :: 114 :: 111 :: 117 :: 112 :: y).toArray))),
  (8, .v (.int .i64 0)), (9, .io .i64 6), (10, .io .i64 4), (33, .agg [.v (.int .i64 4), .v (.int .i64 1), .v (.int .i64 1), .v (.int .i64 10), .v (.int .i64 0), .v (.int .i64 3), .v (.int .i64 0), .v (.int .i64 5), .v (.int .i64 0), .v (.bool false)])], [([.v (.int .i64 4), .v (.int .i64 1), .v (.int .i64 1), .v (.int .i64 10), .v (.int .i64 0), .v (.int .i64 3), .v (.int .i64 0), .v (.int .i64 5), .v (.int .i64 0), .v (.bool false)], 24), ([.v (.int .i64 4), .v (.int .i64 1), .v (.int .i64 1), .v (.int .i64 10), .v (.int .i64 0), .v (.int .i64 3), .v (.int .i64 0), .v (.int .i64 5), .v (.int .i64 0), .v (.bool false)], 24)]⟩ (by kernel_rfl) (by kernel_rfl) ?_
  refine At.call (RowF.stable) 29 [.agg [.v (.int .i64 4), .v (.int .i64 1), .v (.int .i64 1), .v (.int .i64 10), .v (.int .i64 0), .v (.int .i64 3), .v (.int .i64 0), .v (.int .i64 5), .v (.int .i64 0), .v (.bool false)]] (.io .i64 (jobE (wrongF 4 1 1 10 0 3 0 5 0))) (by kernel_rfl) (by kernel_rfl) (by kernel_rfl) (fun _ _ w _ _ => check_any (4) (1) (1) (10) (0) (3) (0) (5) (0) (false) w) ?_
  refine At.toJ (RowF.stable) RowF.fewer 20 300 [1, 2, 3, 4, 5, 6, 7, 8, 9, 10, 34] 2 ⟨pops B8 [1, 1, 1, 1, 1, 1, 0] 2, [.seq (sub B8 [1, 1, 1, 1, 1, 1, 1])], [(1, .lp 0 0), (2, .sl A n c), (3, .v (.int .i64 0)), (4, .lp 1 0), (5, .v (.int .i64 10)), (6, .v (.int .i64 0)),
  (7,
    .v
      (.string
        (ByteArray.mk
          (let y :=
              let y :=
                let y :=
                  let y := [97, 114, 100, 32, 110, 111];
                  48 :: 32 :: 100 :: 105 :: 115 :: 99 :: y;
                let y := 101 :: 97 :: 114 :: 108 :: 121 :: 32 :: y;
                116 :: 101 :: 32 :: 53 :: 32 :: y;
              let y :=
                let y := 112 :: 32 :: 48 :: 32 :: 108 :: 97 :: y;
                32 :: 51 :: 32 :: 103 :: 97 :: y;
              let y := 111 :: 102 :: 102 :: 115 :: 101 :: 116 :: y;
              100 :: 101 :: 32 :: 48 :: 32 :: y;
            let y :=
              let y :=
                let y := 49 :: 48 :: 32 :: 115 :: 108 :: 105 :: y;
                115 :: 105 :: 122 :: 101 :: 32 :: y;
              let y := 98 :: 108 :: 105 :: 110 :: 103 :: 32 :: y;
              100 :: 32 :: 116 :: 117 :: 109 :: y;
            let y :=
              let y := 32 :: 49 :: 32 :: 107 :: 105 :: 110 :: y;
              117 :: 114 :: 99 :: 101 :: 115 :: y;
            let y := 115 :: 32 :: 52 :: 32 :: 115 :: 111 :: y;
            103 :: 114 :: 111 :: 117 :: 112 :: y).toArray))),
  (8, .v (.int .i64 0)), (9, .io .i64 6), (10, .io .i64 4), (34, .io .i64 0)], [([.v (.int .i64 4), .v (.int .i64 1), .v (.int .i64 1), .v (.int .i64 10), .v (.int .i64 0), .v (.int .i64 3), .v (.int .i64 0), .v (.int .i64 5), .v (.int .i64 0), .v (.bool false)], 24), ([.v (.int .i64 4), .v (.int .i64 1), .v (.int .i64 1), .v (.int .i64 10), .v (.int .i64 0), .v (.int .i64 3), .v (.int .i64 0), .v (.int .i64 5), .v (.int .i64 0), .v (.bool false)], 24)]⟩ (by kernel_rfl) (by kernel_rfl) ?_
  refine At.call (RowF.stable) 7 [.io .i64 0] (.io .i64 0) (by kernel_rfl) (by kernel_rfl) (by kernel_rfl) (fun _ _ w _ _ => num_any (0) w) ?_
  refine At.toJ (RowF.stable) RowF.fewer 20 300 [1, 2, 3, 4, 5, 6, 7, 8, 9, 10, 37] 2 ⟨pops B8 [1, 1, 1, 1, 1, 1, 0] 5, [.seq (sub B8 [1, 1, 1, 1, 1, 1, 1])], [(1, .lp 0 0), (2, .sl A n c), (3, .v (.int .i64 0)), (4, .lp 1 0), (5, .v (.int .i64 10)), (6, .v (.int .i64 0)),
  (7,
    .v
      (.string
        (ByteArray.mk
          (let y :=
              let y :=
                let y :=
                  let y := [97, 114, 100, 32, 110, 111];
                  48 :: 32 :: 100 :: 105 :: 115 :: 99 :: y;
                let y := 101 :: 97 :: 114 :: 108 :: 121 :: 32 :: y;
                116 :: 101 :: 32 :: 53 :: 32 :: y;
              let y :=
                let y := 112 :: 32 :: 48 :: 32 :: 108 :: 97 :: y;
                32 :: 51 :: 32 :: 103 :: 97 :: y;
              let y := 111 :: 102 :: 102 :: 115 :: 101 :: 116 :: y;
              100 :: 101 :: 32 :: 48 :: 32 :: y;
            let y :=
              let y :=
                let y := 49 :: 48 :: 32 :: 115 :: 108 :: 105 :: y;
                115 :: 105 :: 122 :: 101 :: 32 :: y;
              let y := 98 :: 108 :: 105 :: 110 :: 103 :: 32 :: y;
              100 :: 32 :: 116 :: 117 :: 109 :: y;
            let y :=
              let y := 32 :: 49 :: 32 :: 107 :: 105 :: 110 :: y;
              117 :: 114 :: 99 :: 101 :: 115 :: y;
            let y := 115 :: 32 :: 52 :: 32 :: 115 :: 111 :: y;
            103 :: 114 :: 111 :: 117 :: 112 :: y).toArray))),
  (8, .v (.int .i64 0)), (9, .io .i64 6), (10, .io .i64 4), (37, .bo true)], [([.v (.int .i64 4), .v (.int .i64 1), .v (.int .i64 1), .v (.int .i64 10), .v (.int .i64 0), .v (.int .i64 3), .v (.int .i64 0), .v (.int .i64 5), .v (.int .i64 0), .v (.bool false)], 24), ([.v (.int .i64 4), .v (.int .i64 1), .v (.int .i64 1), .v (.int .i64 10), .v (.int .i64 0), .v (.int .i64 3), .v (.int .i64 0), .v (.int .i64 5), .v (.int .i64 0), .v (.bool false)], 24)]⟩ (by kernel_rfl) (by kernel_rfl) ?_
  refine At.res 37 (true) true (by kernel_rfl) (by first | assumption | (simp only [*]; done) | (simp [*]; done)) ?_
  refine At.toJ (RowF.stable) RowF.fewer 20 300 [1, 3, 4, 5, 6, 7, 8, 9, 10, 37, 38] 2 ⟨pops B8 [1, 1, 1, 1, 1, 1, 0] 6, [.seq (sub B8 [1, 1, 1, 1, 1, 1, 1])], [(1, .lp 0 0), (3, .v (.int .i64 0)), (4, .lp 1 0), (5, .v (.int .i64 10)), (6, .v (.int .i64 0)),
  (7,
    .v
      (.string
        (ByteArray.mk
          (let y :=
              let y :=
                let y :=
                  let y := [97, 114, 100, 32, 110, 111];
                  48 :: 32 :: 100 :: 105 :: 115 :: 99 :: y;
                let y := 101 :: 97 :: 114 :: 108 :: 121 :: 32 :: y;
                116 :: 101 :: 32 :: 53 :: 32 :: y;
              let y :=
                let y := 112 :: 32 :: 48 :: 32 :: 108 :: 97 :: y;
                32 :: 51 :: 32 :: 103 :: 97 :: y;
              let y := 111 :: 102 :: 102 :: 115 :: 101 :: 116 :: y;
              100 :: 101 :: 32 :: 48 :: 32 :: y;
            let y :=
              let y :=
                let y := 49 :: 48 :: 32 :: 115 :: 108 :: 105 :: y;
                115 :: 105 :: 122 :: 101 :: 32 :: y;
              let y := 98 :: 108 :: 105 :: 110 :: 103 :: 32 :: y;
              100 :: 32 :: 116 :: 117 :: 109 :: y;
            let y :=
              let y := 32 :: 49 :: 32 :: 107 :: 105 :: 110 :: y;
              117 :: 114 :: 99 :: 101 :: 115 :: y;
            let y := 115 :: 32 :: 52 :: 32 :: 115 :: 111 :: y;
            103 :: 114 :: 111 :: 117 :: 112 :: y).toArray))),
  (8, .v (.int .i64 0)), (9, .io .i64 6), (10, .io .i64 4), (37, .v (.bool true)), (38, .sl A n c)], [([.v (.int .i64 4), .v (.int .i64 1), .v (.int .i64 1), .v (.int .i64 10), .v (.int .i64 0), .v (.int .i64 3), .v (.int .i64 0), .v (.int .i64 5), .v (.int .i64 0), .v (.bool false)], 24), ([.v (.int .i64 4), .v (.int .i64 1), .v (.int .i64 1), .v (.int .i64 10), .v (.int .i64 0), .v (.int .i64 3), .v (.int .i64 0), .v (.int .i64 5), .v (.int .i64 0), .v (.bool false)], 24)]⟩ (by kernel_rfl) (by kernel_rfl) ?_
  refine At.cvy A n c jobB (.v (.string ⟨#[4, 1, 1, 10, 0, 3, 0, 5, 0, 0]⟩)) (by kernel_rfl) RowF.stable (fun ρ => by kernel_rfl) (fun ρ w1 hm hf => ?_) ?_
  · have hlen := hf.1.1.len
    have hn : n = 10 := by simp only [bv, List.length_map] at hlen; have : jobB.length = 10 := rfl; omega
    subst hn
    obtain ⟨g, hA, _⟩ := hf.1.1.cell (j := 0) (by omega)
    subst hA
    exact ⟨rfl, fun h => by (cases h), fun a ha j b hj => by
      cases ha
      have hl : j < 10 := (List.getElem?_eq_some_iff.1 hj).1
      simpa using row_cell hf.1.1 hj hl⟩
  refine At.toJ (RowF.stable) RowF.fewer 20 300 [1, 4, 5, 6, 7, 8, 9, 10, 42, 43] 2 ⟨pops B8 [1, 1, 1, 1, 1, 1, 0] 11, [.seq (sub B8 [1, 1, 1, 1, 1, 1, 1])], [(1, .lp 0 0), (4, .lp 1 0), (5, .v (.int .i64 10)), (6, .v (.int .i64 0)),
  (7,
    .v
      (.string
        (ByteArray.mk
          (let y :=
              let y :=
                let y :=
                  let y := [97, 114, 100, 32, 110, 111];
                  48 :: 32 :: 100 :: 105 :: 115 :: 99 :: y;
                let y := 101 :: 97 :: 114 :: 108 :: 121 :: 32 :: y;
                116 :: 101 :: 32 :: 53 :: 32 :: y;
              let y :=
                let y := 112 :: 32 :: 48 :: 32 :: 108 :: 97 :: y;
                32 :: 51 :: 32 :: 103 :: 97 :: y;
              let y := 111 :: 102 :: 102 :: 115 :: 101 :: 116 :: y;
              100 :: 101 :: 32 :: 48 :: 32 :: y;
            let y :=
              let y :=
                let y := 49 :: 48 :: 32 :: 115 :: 108 :: 105 :: y;
                115 :: 105 :: 122 :: 101 :: 32 :: y;
              let y := 98 :: 108 :: 105 :: 110 :: 103 :: 32 :: y;
              100 :: 32 :: 116 :: 117 :: 109 :: y;
            let y :=
              let y := 32 :: 49 :: 32 :: 107 :: 105 :: 110 :: y;
              117 :: 114 :: 99 :: 101 :: 115 :: y;
            let y := 115 :: 32 :: 52 :: 32 :: 115 :: 111 :: y;
            103 :: 114 :: 111 :: 117 :: 112 :: y).toArray))),
  (8, .v (.int .i64 0)), (9, .io .i64 6), (10, .io .i64 4), (42, .v (.bool true)), (43, .v (.int .i64 0))], [([.v (.int .i64 4), .v (.int .i64 1), .v (.int .i64 1), .v (.int .i64 10), .v (.int .i64 0), .v (.int .i64 3), .v (.int .i64 0), .v (.int .i64 5), .v (.int .i64 0), .v (.bool false)], 24), ([.v (.int .i64 4), .v (.int .i64 1), .v (.int .i64 1), .v (.int .i64 10), .v (.int .i64 0), .v (.int .i64 3), .v (.int .i64 0), .v (.int .i64 5), .v (.int .i64 0), .v (.bool false)], 24)]⟩ (by kernel_rfl) (by kernel_rfl) ?_
  refine At.call (RowF.stable) 7 [.v (.int .i64 0)] (.io .i64 0) (by kernel_rfl) (by kernel_rfl) (by kernel_rfl) (fun _ _ w _ _ => num_any (0) w) ?_
  refine At.toJ (RowF.stable) RowF.fewer 20 300 [1, 4, 5, 6, 7, 8, 9, 10, 47] 2 ⟨pops B8 [1, 1, 1, 1, 1, 1, 0] 15, [.seq (sub B8 [1, 1, 1, 1, 1, 1, 1])], [(1, .lp 0 0), (4, .lp 1 0), (5, .v (.int .i64 10)), (6, .v (.int .i64 0)),
  (7,
    .v
      (.string
        (ByteArray.mk
          (let y :=
              let y :=
                let y :=
                  let y := [97, 114, 100, 32, 110, 111];
                  48 :: 32 :: 100 :: 105 :: 115 :: 99 :: y;
                let y := 101 :: 97 :: 114 :: 108 :: 121 :: 32 :: y;
                116 :: 101 :: 32 :: 53 :: 32 :: y;
              let y :=
                let y := 112 :: 32 :: 48 :: 32 :: 108 :: 97 :: y;
                32 :: 51 :: 32 :: 103 :: 97 :: y;
              let y := 111 :: 102 :: 102 :: 115 :: 101 :: 116 :: y;
              100 :: 101 :: 32 :: 48 :: 32 :: y;
            let y :=
              let y :=
                let y := 49 :: 48 :: 32 :: 115 :: 108 :: 105 :: y;
                115 :: 105 :: 122 :: 101 :: 32 :: y;
              let y := 98 :: 108 :: 105 :: 110 :: 103 :: 32 :: y;
              100 :: 32 :: 116 :: 117 :: 109 :: y;
            let y :=
              let y := 32 :: 49 :: 32 :: 107 :: 105 :: 110 :: y;
              117 :: 114 :: 99 :: 101 :: 115 :: y;
            let y := 115 :: 32 :: 52 :: 32 :: 115 :: 111 :: y;
            103 :: 114 :: 111 :: 117 :: 112 :: y).toArray))),
  (8, .v (.int .i64 0)), (9, .io .i64 6), (10, .io .i64 4), (47, .bo true)], [([.v (.int .i64 4), .v (.int .i64 1), .v (.int .i64 1), .v (.int .i64 10), .v (.int .i64 0), .v (.int .i64 3), .v (.int .i64 0), .v (.int .i64 5), .v (.int .i64 0), .v (.bool false)], 24), ([.v (.int .i64 4), .v (.int .i64 1), .v (.int .i64 1), .v (.int .i64 10), .v (.int .i64 0), .v (.int .i64 3), .v (.int .i64 0), .v (.int .i64 5), .v (.int .i64 0), .v (.bool false)], 24)]⟩ (by kernel_rfl) (by kernel_rfl) ?_
  refine At.res 47 (true) true (by kernel_rfl) (by first | assumption | (simp only [*]; done) | (simp [*]; done)) ?_
  refine At.toJ (RowF.stable) RowF.fewer 20 300 [7, 8, 9, 10, 56, 57] 0 ⟨pops B8 [1, 1, 1, 1, 1, 1, 0] 25, [.seq (sub B8 [1, 1, 1, 1, 1, 1, 1])], [(7,
    .v
      (.string
        (ByteArray.mk
          (let y :=
              let y :=
                let y :=
                  let y := [97, 114, 100, 32, 110, 111];
                  48 :: 32 :: 100 :: 105 :: 115 :: 99 :: y;
                let y := 101 :: 97 :: 114 :: 108 :: 121 :: 32 :: y;
                116 :: 101 :: 32 :: 53 :: 32 :: y;
              let y :=
                let y := 112 :: 32 :: 48 :: 32 :: 108 :: 97 :: y;
                32 :: 51 :: 32 :: 103 :: 97 :: y;
              let y := 111 :: 102 :: 102 :: 115 :: 101 :: 116 :: y;
              100 :: 101 :: 32 :: 48 :: 32 :: y;
            let y :=
              let y :=
                let y := 49 :: 48 :: 32 :: 115 :: 108 :: 105 :: y;
                115 :: 105 :: 122 :: 101 :: 32 :: y;
              let y := 98 :: 108 :: 105 :: 110 :: 103 :: 32 :: y;
              100 :: 32 :: 116 :: 117 :: 109 :: y;
            let y :=
              let y := 32 :: 49 :: 32 :: 107 :: 105 :: 110 :: y;
              117 :: 114 :: 99 :: 101 :: 115 :: y;
            let y := 115 :: 32 :: 52 :: 32 :: 115 :: 111 :: y;
            103 :: 114 :: 111 :: 117 :: 112 :: y).toArray))),
  (8, .v (.int .i64 0)), (9, .io .i64 6), (10, .io .i64 4), (56, .v (.bool true)), (57, .v (.int .i64 0))], []⟩ (by kernel_rfl) (by kernel_rfl) ?_
  refine At.call (RowF.stable) 7 [.v (.int .i64 0)] (.io .i64 0) (by kernel_rfl) (by kernel_rfl) (by kernel_rfl) (fun _ _ w _ _ => num_any (0) w) ?_
  refine At.toJ (RowF.stable) RowF.fewer 20 300 [7, 8, 9, 10, 61] 0 ⟨pops B8 [1, 1, 1, 1, 1, 1, 0] 29, [.seq (sub B8 [1, 1, 1, 1, 1, 1, 1])], [(7,
    .v
      (.string
        (ByteArray.mk
          (let y :=
              let y :=
                let y :=
                  let y := [97, 114, 100, 32, 110, 111];
                  48 :: 32 :: 100 :: 105 :: 115 :: 99 :: y;
                let y := 101 :: 97 :: 114 :: 108 :: 121 :: 32 :: y;
                116 :: 101 :: 32 :: 53 :: 32 :: y;
              let y :=
                let y := 112 :: 32 :: 48 :: 32 :: 108 :: 97 :: y;
                32 :: 51 :: 32 :: 103 :: 97 :: y;
              let y := 111 :: 102 :: 102 :: 115 :: 101 :: 116 :: y;
              100 :: 101 :: 32 :: 48 :: 32 :: y;
            let y :=
              let y :=
                let y := 49 :: 48 :: 32 :: 115 :: 108 :: 105 :: y;
                115 :: 105 :: 122 :: 101 :: 32 :: y;
              let y := 98 :: 108 :: 105 :: 110 :: 103 :: 32 :: y;
              100 :: 32 :: 116 :: 117 :: 109 :: y;
            let y :=
              let y := 32 :: 49 :: 32 :: 107 :: 105 :: 110 :: y;
              117 :: 114 :: 99 :: 101 :: 115 :: y;
            let y := 115 :: 32 :: 52 :: 32 :: 115 :: 111 :: y;
            103 :: 114 :: 111 :: 117 :: 112 :: y).toArray))),
  (8, .v (.int .i64 0)), (9, .io .i64 6), (10, .io .i64 4), (61, .bo true)], []⟩ (by kernel_rfl) (by kernel_rfl) ?_
  refine At.res 61 (true) true (by kernel_rfl) (by first | assumption | (simp only [*]; done) | (simp [*]; done)) ?_
  refine At.toJ (RowF.stable) RowF.fewer 20 300 [9, 10, 65, 66] 0 ⟨pops B8 [1, 1, 1, 1, 1, 1, 0] 34, [.seq (sub B8 [1, 1, 1, 1, 1, 1, 1])], [(9, .io .i64 6), (10, .io .i64 4), (65, .v (.bool true)), (66, .v (.int .i64 0))], []⟩ (by kernel_rfl) (by kernel_rfl) ?_
  refine At.call (RowF.stable) 7 [.v (.int .i64 0)] (.io .i64 0) (by kernel_rfl) (by kernel_rfl) (by kernel_rfl) (fun _ _ w _ _ => num_any (0) w) ?_
  refine At.toJ (RowF.stable) RowF.fewer 20 300 [9, 10, 70] 0 ⟨pops B8 [1, 1, 1, 1, 1, 1, 0] 38, [.seq (sub B8 [1, 1, 1, 1, 1, 1, 1])], [(9, .io .i64 6), (10, .io .i64 4), (70, .bo true)], []⟩ (by kernel_rfl) (by kernel_rfl) ?_
  refine At.res 70 (true) true (by kernel_rfl) (by first | assumption | (simp only [*]; done) | (simp [*]; done)) ?_
  refine At.toJ (RowF.stable) RowF.fewer 20 300 [10, 74] 0 ⟨pops B8 [1, 1, 1, 1, 1, 1, 0] 42, [.seq (sub B8 [1, 1, 1, 1, 1, 1, 1])], [(10, .io .i64 4), (74, .bo true)], []⟩ (by kernel_rfl) (by kernel_rfl) ?_
  refine At.res 74 (true) true (by kernel_rfl) (by first | assumption | (simp only [*]; done) | (simp [*]; done)) ?_
  refine At.toJ (RowF.stable) RowF.fewer 20 300 [74, 75] 0 ⟨pops B8 [1, 1, 1, 1, 1, 1, 0] 43, [.seq (sub B8 [1, 1, 1, 1, 1, 1, 1])], [(74, .v (.bool true)), (75, .io .i64 4)], []⟩ (by kernel_rfl) (by kernel_rfl) ?_
  refine At.call (RowF.stable) 7 [.io .i64 4] (.io .i64 4) (by kernel_rfl) (by kernel_rfl) (by kernel_rfl) (fun _ _ w _ _ => num_any (4) w) ?_
  refine At.toJ (RowF.stable) RowF.fewer 20 300 [0] 0 ⟨.exit .ret, [], [(0, .bo true)], []⟩ (by kernel_rfl) (by kernel_rfl) ?_
  refine At.ret (by kernel_rfl) (.bo true) (by kernel_rfl) ?_
  intro ρ w9 hm hf
  exact ⟨rfl, hm.below⟩


theorem wrong_eq (g s k sz sl of gp lt ea : Int) : wrongF g s k sz sl of gp lt ea = wrongR g s k sz sl of gp lt ea := by
  simp only [wrongF, wrongR, fldB]
  by_cases hk : 1 ≤ k ∧ k ≤ 3
  · have h3 : k = 1 ∨ k = 2 ∨ k = 3 := by omega
    rcases h3 with rfl | rfl | rfl
    · rfl
    · have e : ∀ (a b c : Bool), (bif (a && b) then !c else true) = !(a && b && c) := by decide
      simp only [e]
      rfl
    · rfl
  · have e1 : (decide (1 ≤ k) && decide (k ≤ 3)) = false := by
      by_cases h : 1 ≤ k
      · have : ¬ k ≤ 3 := fun h' => hk ⟨h, h'⟩
        simp [h, this]
      · simp [h]
    have e2 : ((k == 1) || (k == 2) || (k == 3)) = false := by
      have h1 : k ≠ 1 := by omega
      have h2 : k ≠ 2 := by omega
      have h3 : k ≠ 3 := by omega
      simp [h1, h2, h3]
    rw [e1, e2]
    rfl

end Go.Proofs.YtiehnigbcfkcdaaGreatDoor
