import Derived.Test.YtiehnigbcfkcdaaGreatDoorPA
import Derived.Test.YtiehnigbcfkcdaaGreatDoorF
set_option linter.unusedSimpArgs false
set_option linter.unusedVariables false
namespace Go.Proofs.YtiehnigbcfkcdaaGreatDoor
open Go.RowKit Go.Sx

theorem wrap8 {x : Int} (h0 : 0 ≤ x) (h1 : x < 256) : IntKind.u8.wrap x = x := by
  simp only [IntKind.wrap, IntKind.bits, IntKind.signed]
  simp
  omega
theorem grown_under (w : World) (q : Nat) (os : Array Obj) : Below w.heap.size w (Sort.grow (w.drewN q) os) :=
  ⟨rfl, rfl, rfl, by simp [Sort.grow], fun i hi => by
    show ((w.drewN q).heap ++ os)[i]? = _
    rw [Array.getElem?_append_left (by show i < w.heap.size; omega)]
    rfl⟩
theorem fmt_any (n : Int) (h0 : 0 ≤ n) (h1 : n < 1000000000000000000) (w : World) (htab : Lib.TabIs Tryz.prog w "internal/strconv.uint64pow10" .u64 Lib.pow10Tab) : Calls Tryz.prog 35 #[.int .i64 n, .int .i64 10] w fun e w' => e = .returned (.string (mkB (Lib.itoa n))) ∧ Below w.heap.size w w' :=
  (Tryz.strconv_FormatInt_10 n (by omega) (by omega) w htab).mono fun e w' h => by
    obtain ⟨rfl, k, os, rfl⟩ := h
    exact ⟨rfl, grown_under w k os⟩
structure DgSt where
  i : Nat
  x : Int
def frDg (s : ByteArray) : DgSt → Fr
  | ⟨i, x⟩ => [(0, .so s), (3, .io .i64 x), (4, .io .i64 (i : Int))]
def locDg : DgSt → Go.Sx.Loc
  | ⟨_, _⟩ => []
def GDg (l : List UInt8) : DgSt → List Nat → World → Prop
  | ⟨i, x⟩, ρ, w => noF ρ w ∧ (i ≤ l.length ∧ digGo i x (l.drop i) = digGo 0 0 l)
def muDg (n : Nat) : DgSt → Nat
  | ⟨i, _⟩ => n - i

noncomputable def B25 : Code := (Tryz.f25.body).getD .skip
set_option maxHeartbeats 4000000 in
set_option maxRecDepth 100000 in
theorem digits_any (s : ByteArray) (hs : s.size ≤ 1048576) (w : World) :
    Calls Tryz.prog 25 #[.string s] w fun e w' => e = .returned (.int .i64 (digGo 0 0 s.data.toList)) ∧ Below w.heap.size w w' := by
  generalize hl : s.data.toList = l
  have hsz : s.size = l.length := by rw [← hl, Array.length_toList]; rfl
  refine enter (fn := Tryz.f25) (c := B25) [.so s] Tryz.func25 rfl rfl ?_
  refine At.to (noF_stable) (noF_fewer) 0 300 [0, 3, 4] 0 ⟨.code (sub B25 [1, 1, 0, 1, 4]), [.block 0, .seq (sub B25 [1, 1, 1])], [(0, .so s), (3, .v (.int .i64 0)), (4, .v (.int .i64 0))], []⟩ (by kernel_rfl) (by kernel_rfl) ?_
  refine At.canon _ rfl ?_
  refine At.loop (σ := DgSt) (sub B25 [1, 1, 0, 1, 4, 4]) (frDg s) locDg (GDg l) (muDg l.length) ⟨0, 0⟩ (by kernel_rfl) (by unfold subFr; kernel_rfl) (by kernel_rfl) (fun _ _ _ _ h => ⟨h, Nat.zero_le _, rfl⟩) ?_
  rintro ⟨i, x⟩
  refine At.pure fun ⟨h0, h1⟩ => ?_
  refine At.to (noF_stable) (noF_fewer) 0 300 [0, 3, 4, 8] 0 ⟨.code (sub B25 [1, 1, 0, 1, 4, 4, 0, 1]), [.seq (sub B25 [1, 1, 0, 1, 4, 4, 1]), .next (Sx.Next w.heap.size w Tryz.f25.ntmps (frDg s) locDg (GDg l) (muDg l.length) (DgSt.mk i x)), .block 0, .seq (sub B25 [1, 1, 1])], [(0, .so s), (3, .io .i64 x), (4, .io .i64 (↑i : Int)), (8, .bo (decide ((↑i : Int) < (↑s.size : Int))))], []⟩ (by kernel_rfl) (by kernel_rfl) ?_
  rcases Bool.eq_false_or_eq_true (decide ((↑i : Int) < (↑s.size : Int))) with b0 | b0
  · refine At.res 8 (decide ((↑i : Int) < (↑s.size : Int))) true (by kernel_rfl) b0 ?_
    refine At.to (noF_stable) (noF_fewer) 0 300 [0, 3, 4, 11, 12] 0 ⟨pops B25 [1, 1, 0, 1, 4, 4, 1, 0, 4, 0, 0] 2, [.seq (sub B25 [1, 1, 0, 1, 4, 4, 1, 0, 4, 0, 1]), .seq (sub B25 [1, 1, 0, 1, 4, 4, 1, 0, 4, 1]), .block 1, .seq (sub B25 [1, 1, 0, 1, 4, 4, 1, 1]), .next (Sx.Next w.heap.size w Tryz.f25.ntmps (frDg s) locDg (GDg l) (muDg l.length) (DgSt.mk i x)), .block 0, .seq (sub B25 [1, 1, 1])], [(0, .so s), (3, .io .i64 x), (4, .io .i64 (↑i : Int)), (11, .so s), (12, .io .i64 (↑i : Int))], []⟩ (by kernel_rfl) (by kernel_rfl) ?_
    have hi : i < l.length := by have := of_decide_eq_true b0; omega
    clear b0
    obtain ⟨b, hb⟩ : ∃ b, l[i]? = some b := ⟨_, List.getElem?_eq_getElem hi⟩
    refine At.six s (i : Int) b (by kernel_rfl) (by omega) (by rw [hl, Int.toNat_natCast]; exact hb) noF_stable ?_
    refine At.to (noF_stable) (noF_fewer) 0 300 [0, 3, 4, 14, 15] 0 ⟨pops B25 [1, 1, 0, 1, 4, 4, 1, 0, 4, 0, 0] 5, [.seq (sub B25 [1, 1, 0, 1, 4, 4, 1, 0, 4, 0, 1]), .seq (sub B25 [1, 1, 0, 1, 4, 4, 1, 0, 4, 1]), .block 1, .seq (sub B25 [1, 1, 0, 1, 4, 4, 1, 1]), .next (Sx.Next w.heap.size w Tryz.f25.ntmps (frDg s) locDg (GDg l) (muDg l.length) (DgSt.mk i x)), .block 0, .seq (sub B25 [1, 1, 1])], [(0, .so s), (3, .io .i64 x), (4, .io .i64 (↑i : Int)), (14, .bo (decide ((↑b.toNat : Int) < 48))), (15, .bo (decide ((↑b.toNat : Int) < 48)))], []⟩ (by kernel_rfl) (by kernel_rfl) ?_
    rcases Bool.eq_false_or_eq_true (decide ((↑b.toNat : Int) < 48)) with b0 | b0
    · refine At.res 15 (decide ((↑b.toNat : Int) < 48)) true (by kernel_rfl) b0 ?_
      refine At.to (noF_stable) (noF_fewer) 0 300 [2] 0 ⟨.exit .ret, [], [(2, .v (.int .i64 0))], []⟩ (by kernel_rfl) (by kernel_rfl) ?_
      refine At.ret (by kernel_rfl) (.v (.int .i64 0)) (by kernel_rfl) ?_
      have hn : b.toNat < 48 := by have := of_decide_eq_true b0; omega
      intro ρ w9 hm hf
      refine ⟨?_, hm.below⟩
      rw [← h1, drop_w hb, digGo, if_pos hn]
      rfl
    · refine At.res 15 (decide ((↑b.toNat : Int) < 48)) false (by kernel_rfl) b0 ?_
      refine At.to (noF_stable) (noF_fewer) 0 300 [0, 3, 4, 14, 15, 16, 17] 0 ⟨pops B25 [1, 1, 0, 1, 4, 4, 1, 0, 4, 0, 0] 7, [.seq (sub B25 [1, 1, 0, 1, 4, 4, 1, 0, 4, 0, 1]), .seq (sub B25 [1, 1, 0, 1, 4, 4, 1, 0, 4, 1]), .block 1, .seq (sub B25 [1, 1, 0, 1, 4, 4, 1, 1]), .next (Sx.Next w.heap.size w Tryz.f25.ntmps (frDg s) locDg (GDg l) (muDg l.length) (DgSt.mk i x)), .block 0, .seq (sub B25 [1, 1, 1])], [(0, .so s), (3, .io .i64 x), (4, .io .i64 (↑i : Int)), (14, .bo (decide ((↑b.toNat : Int) < 48))), (15, .v (.bool false)), (16, .so s), (17, .io .i64 (↑i : Int))], []⟩ (by kernel_rfl) (by kernel_rfl) ?_
      have hn : ¬ b.toNat < 48 := by have := of_decide_eq_false b0; omega
      refine At.six s (i : Int) b (by kernel_rfl) (by omega) (by rw [hl, Int.toNat_natCast]; exact hb) noF_stable ?_
      refine At.to (noF_stable) (noF_fewer) 0 300 [0, 3, 4, 21] 0 ⟨pops B25 [1, 1, 0, 1, 4, 4, 1, 0, 4, 0, 0] 11, [.seq (sub B25 [1, 1, 0, 1, 4, 4, 1, 0, 4, 0, 1]), .seq (sub B25 [1, 1, 0, 1, 4, 4, 1, 0, 4, 1]), .block 1, .seq (sub B25 [1, 1, 0, 1, 4, 4, 1, 1]), .next (Sx.Next w.heap.size w Tryz.f25.ntmps (frDg s) locDg (GDg l) (muDg l.length) (DgSt.mk i x)), .block 0, .seq (sub B25 [1, 1, 1])], [(0, .so s), (3, .io .i64 x), (4, .io .i64 (↑i : Int)), (21, .bo (decide ((↑b.toNat : Int) > 57)))], []⟩ (by kernel_rfl) (by kernel_rfl) ?_
      rcases Bool.eq_false_or_eq_true (decide ((↑b.toNat : Int) > 57)) with b0 | b0
      · refine At.res 21 (decide ((↑b.toNat : Int) > 57)) true (by kernel_rfl) b0 ?_
        refine At.to (noF_stable) (noF_fewer) 0 300 [2] 0 ⟨.exit .ret, [], [(2, .v (.int .i64 0))], []⟩ (by kernel_rfl) (by kernel_rfl) ?_
        refine At.ret (by kernel_rfl) (.v (.int .i64 0)) (by kernel_rfl) ?_
        have hn2 : 57 < b.toNat := by have := of_decide_eq_true b0; omega
        intro ρ w9 hm hf
        refine ⟨?_, hm.below⟩
        rw [← h1, drop_w hb, digGo, if_neg hn, if_pos hn2]
        rfl
      · refine At.res 21 (decide ((↑b.toNat : Int) > 57)) false (by kernel_rfl) b0 ?_
        refine At.to (noF_stable) (noF_fewer) 0 300 [0, 3, 4, 24] 0 ⟨.code (sub B25 [1, 1, 0, 1, 4, 4, 1, 0, 4, 0, 1]), [.seq (sub B25 [1, 1, 0, 1, 4, 4, 1, 0, 4, 1]), .block 1, .seq (sub B25 [1, 1, 0, 1, 4, 4, 1, 1]), .next (Sx.Next w.heap.size w Tryz.f25.ntmps (frDg s) locDg (GDg l) (muDg l.length) (DgSt.mk i x)), .block 0, .seq (sub B25 [1, 1, 1])], [(0, .so s), (3, .io .i64 x), (4, .io .i64 (↑i : Int)), (24, .bo (decide ((↑i : Int) > 17)))], []⟩ (by kernel_rfl) (by kernel_rfl) ?_
        rcases Bool.eq_false_or_eq_true (decide ((↑i : Int) > 17)) with b1 | b1
        · refine At.res 24 (decide ((↑i : Int) > 17)) true (by kernel_rfl) b1 ?_
          refine At.to (noF_stable) (noF_fewer) 0 300 [2] 0 ⟨.exit .ret, [], [(2, .v (.int .i64 0))], []⟩ (by kernel_rfl) (by kernel_rfl) ?_
          refine At.ret (by kernel_rfl) (.v (.int .i64 0)) (by kernel_rfl) ?_
          have hn2 : ¬ 57 < b.toNat := by have := of_decide_eq_false b0; omega
          have hn3 : 17 < i := by have := of_decide_eq_true b1; omega
          intro ρ w9 hm hf
          refine ⟨?_, hm.below⟩
          rw [← h1, drop_w hb, digGo, if_neg hn, if_neg hn2, if_pos hn3]
          rfl
        · refine At.res 24 (decide ((↑i : Int) > 17)) false (by kernel_rfl) b1 ?_
          refine At.to (noF_stable) (noF_fewer) 0 300 [0, 4, 26, 27, 28] 0 ⟨pops B25 [1, 1, 0, 1, 4, 4, 1, 0, 4, 1] 4, [.block 1, .seq (sub B25 [1, 1, 0, 1, 4, 4, 1, 1]), .next (Sx.Next w.heap.size w Tryz.f25.ntmps (frDg s) locDg (GDg l) (muDg l.length) (DgSt.mk i x)), .block 0, .seq (sub B25 [1, 1, 1])], [(0, .so s), (4, .io .i64 (↑i : Int)), (26, .io .i64 (IntKind.i64.wrap (10 * x))), (27, .so s), (28, .io .i64 (↑i : Int))], []⟩ (by kernel_rfl) (by kernel_rfl) ?_
          have hn2 : ¬ 57 < b.toNat := by have := of_decide_eq_false b0; omega
          have hn3 : ¬ 17 < i := by have := of_decide_eq_false b1; omega
          refine At.six s (i : Int) b (by kernel_rfl) (by omega) (by rw [hl, Int.toNat_natCast]; exact hb) noF_stable ?_
          refine At.to (noF_stable) (noF_fewer) 0 300 [0, 3, 4] 0 ⟨.exit .normal, [.next (Sx.Next w.heap.size w Tryz.f25.ntmps (frDg s) locDg (GDg l) (muDg l.length) (DgSt.mk i x)), .block 0, .seq (sub B25 [1, 1, 1])], [(0, .so s), (3, .io .i64 (IntKind.i64.wrap (IntKind.i64.wrap (10 * x) + IntKind.i64.wrap (IntKind.u8.wrap ((↑b.toNat : Int) - 48))))), (4, .io .i64 (IntKind.i64.wrap ((↑i : Int) + 1)))], []⟩ (by kernel_rfl) (by kernel_rfl) ?_
          have hw2 : IntKind.i64.wrap ((i : Int) + 1) = ((i + 1 : Nat) : Int) := by
            rw [wrap63 (by omega) (by omega)]
            omega
          rw [hw2]
          have hw3 : IntKind.u8.wrap ((b.toNat : Int) - 48) = ((b.toNat - 48 : Nat) : Int) := by
            rw [wrap8 (by omega) (by omega)]
            omega
          rw [hw3]
          have hw4 : IntKind.i64.wrap ((b.toNat - 48 : Nat) : Int) = ((b.toNat - 48 : Nat) : Int) := wrap63 (by omega) (by omega)
          rw [hw4]
          refine At.next (σ := DgSt) ⟨i + 1, IntKind.i64.wrap (IntKind.i64.wrap (10 * x) + ((b.toNat - 48 : Nat) : Int))⟩ rfl rfl (by unfold subFr; kernel_rfl) (by kernel_rfl) ?_ ?_
          · intro ρ a w' hi' hf
            refine ⟨hf, by omega, ?_⟩
            rw [← h1, drop_w hb, digGo, if_neg hn, if_neg hn2, if_neg hn3]
          · simp only [muDg]
            omega
  · refine At.res 8 (decide ((↑i : Int) < (↑s.size : Int))) false (by kernel_rfl) b0 ?_
    refine At.to (noF_stable) (noF_fewer) 0 300 [2] 0 ⟨.exit .ret, [], [(2, .io .i64 x)], []⟩ (by kernel_rfl) (by kernel_rfl) ?_
    refine At.ret (by kernel_rfl) (.io .i64 x) (by kernel_rfl) ?_
    have hi : i = l.length := by have := of_decide_eq_false b0; omega
    intro ρ w9 hm hf
    refine ⟨?_, hm.below⟩
    rw [← h1, hi, List.drop_length]
    rfl

noncomputable def B27 : Code := (Tryz.f27.body).getD .skip
set_option maxHeartbeats 4000000 in
set_option maxRecDepth 100000 in
theorem rof_any (g s k sz sl of gp lt ea d : Int) (w : World) : Calls Tryz.prog 27 #[.agg #[.int .i64 g, .int .i64 s, .int .i64 k, .int .i64 sz, .int .i64 sl, .int .i64 of, .int .i64 gp, .int .i64 lt, .int .i64 ea, .int .i64 d]] w fun e w' => e = .returned (.agg #[.int .i64 g, .int .i64 s, .int .i64 k, .int .i64 sz, .int .i64 sl, .int .i64 of, .int .i64 gp, .int .i64 lt, .int .i64 ea, .bool (d == 1)]) ∧ Below w.heap.size w w' := by
  refine enter (fn := Tryz.f27) (c := B27) [.agg [.io .i64 g, .io .i64 s, .io .i64 k, .io .i64 sz, .io .i64 sl, .io .i64 of, .io .i64 gp, .io .i64 lt, .io .i64 ea, .io .i64 d]] Tryz.func27 rfl rfl ?_
  refine At.to noF_stable noF_fewer 20 400 [2] 2 ⟨.exit .ret, [], [(2, .lp 1 0)], [([.io .i64 g, .io .i64 s, .io .i64 k, .io .i64 sz, .io .i64 sl, .io .i64 of, .io .i64 gp, .io .i64 lt, .io .i64 ea, .io .i64 d], 50), ([.io .i64 g, .io .i64 s, .io .i64 k, .io .i64 sz, .io .i64 sl, .io .i64 of, .io .i64 gp, .io .i64 lt, .io .i64 ea, .bo (d == 1)], 24)]⟩ (by kernel_rfl) (by kernel_rfl) ?_
  refine At.ret (by kernel_rfl) (.agg [.io .i64 g, .io .i64 s, .io .i64 k, .io .i64 sz, .io .i64 sl, .io .i64 of, .io .i64 gp, .io .i64 lt, .io .i64 ea, .bo (d == 1)]) (by kernel_rfl) ?_
  intro ρ w9 hw9 _
  exact ⟨rfl, hw9.below⟩

noncomputable def B38 : Code := (Tryz.f38.body).getD .skip
set_option maxHeartbeats 4000000 in
set_option maxRecDepth 100000 in
theorem rfields_any (g s k sz sl of gp lt ea : Int) (d : Bool) (w : World) : Calls Tryz.prog 38 #[.agg #[.int .i64 g, .int .i64 s, .int .i64 k, .int .i64 sz, .int .i64 sl, .int .i64 of, .int .i64 gp, .int .i64 lt, .int .i64 ea, .bool d]] w fun e w' => e = .returned (.agg #[.int .i64 g, .int .i64 s, .int .i64 k, .int .i64 sz, .int .i64 sl, .int .i64 of, .int .i64 gp, .int .i64 lt, .int .i64 ea, .int .i64 (bif d then 1 else 0)]) ∧ Below w.heap.size w w' := by
  refine enter (fn := Tryz.f38) (c := B38) [.agg (cfgL g s k sz sl of gp lt ea d)] Tryz.func38 rfl rfl ?_
  refine At.to noF_stable noF_fewer 20 400 [1, 2, 3, 5] 2 ⟨.code (sub B38 [1, 1, 0, 1]), [.seq (sub B38 [1, 1, 1])], [(1, .lp 0 0), (2, .lp 1 0), (3, .v (.int .i64 0)), (5, .bo d)], [((cfgL g s k sz sl of gp lt ea d), 24), ([.v (.int .i64 0), .v (.int .i64 0), .v (.int .i64 0), .v (.int .i64 0), .v (.int .i64 0), .v (.int .i64 0), .v (.int .i64 0), .v (.int .i64 0), .v (.int .i64 0), .v (.int .i64 0)], 50)]⟩ (by kernel_rfl) (by kernel_rfl) ?_
  rcases Bool.eq_false_or_eq_true (d) with b0 | b0
  · refine At.res 5 (d) true (by kernel_rfl) b0 ?_
    refine At.to noF_stable noF_fewer 20 400 [2] 2 ⟨.exit .ret, [], [(2, .lp 1 0)], [((cfgL g s k sz sl of gp lt ea d), 24), ([.io .i64 g, .io .i64 s, .io .i64 k, .io .i64 sz, .io .i64 sl, .io .i64 of, .io .i64 gp, .io .i64 lt, .io .i64 ea, .v (.int .i64 1)], 50)]⟩ (by kernel_rfl) (by kernel_rfl) ?_
    refine At.ret (by kernel_rfl) (.agg [.io .i64 g, .io .i64 s, .io .i64 k, .io .i64 sz, .io .i64 sl, .io .i64 of, .io .i64 gp, .io .i64 lt, .io .i64 ea, .v (.int .i64 1)]) (by kernel_rfl) ?_
    intro ρ w9 hw9 _
    exact ⟨by simp only [*]; rfl, hw9.below⟩
  · refine At.res 5 (d) false (by kernel_rfl) b0 ?_
    refine At.to noF_stable noF_fewer 20 400 [2] 2 ⟨.exit .ret, [], [(2, .lp 1 0)], [((cfgL g s k sz sl of gp lt ea d), 24), ([.io .i64 g, .io .i64 s, .io .i64 k, .io .i64 sz, .io .i64 sl, .io .i64 of, .io .i64 gp, .io .i64 lt, .io .i64 ea, .v (.int .i64 0)], 50)]⟩ (by kernel_rfl) (by kernel_rfl) ?_
    refine At.ret (by kernel_rfl) (.agg [.io .i64 g, .io .i64 s, .io .i64 k, .io .i64 sz, .io .i64 sl, .io .i64 of, .io .i64 gp, .io .i64 lt, .io .i64 ea, .v (.int .i64 0)]) (by kernel_rfl) ?_
    intro ρ w9 hw9 _
    exact ⟨by simp only [*]; rfl, hw9.below⟩

noncomputable def B41 : Code := (Tryz.f41.body).getD .skip
set_option maxHeartbeats 4000000 in
set_option maxRecDepth 100000 in
theorem names_any (w : World) : Calls Tryz.prog 41 #[] w fun e w' => ∃ ρc, e = .returned ((SV.ls 0 0 10 10).den ρc) ∧ WInv w.heap.size w ρc [([.v (.string ⟨#[103, 114, 111, 117, 112, 115]⟩), .v (.string ⟨#[115, 111, 117, 114, 99, 101, 115]⟩), .v (.string ⟨#[107, 105, 110, 100]⟩), .v (.string ⟨#[115, 105, 122, 101]⟩), .v (.string ⟨#[115, 108, 105, 100, 101]⟩), .v (.string ⟨#[111, 102, 102, 115, 101, 116]⟩), .v (.string ⟨#[103, 97, 112]⟩), .v (.string ⟨#[108, 97, 116, 101]⟩), .v (.string ⟨#[101, 97, 114, 108, 121]⟩), .v (.string ⟨#[100, 105, 115, 99, 97, 114, 100]⟩)], 9)] w' := by
  refine enter (fn := Tryz.f41) (c := B41) [] Tryz.func41 rfl rfl ?_
  refine At.to (noF_stable) (noF_fewer) 0 100 [0] 1 ⟨.exit .ret, [], [(0, .ls 0 0 10 10)], [([.v (.string (ByteArray.mk #[103, 114, 111, 117, 112, 115])), .v (.string (ByteArray.mk #[115, 111, 117, 114, 99, 101, 115])), .v (.string (ByteArray.mk #[107, 105, 110, 100])), .v (.string (ByteArray.mk #[115, 105, 122, 101])), .v (.string (ByteArray.mk #[115, 108, 105, 100, 101])), .v (.string (ByteArray.mk #[111, 102, 102, 115, 101, 116])), .v (.string (ByteArray.mk #[103, 97, 112])), .v (.string (ByteArray.mk #[108, 97, 116, 101])), .v (.string (ByteArray.mk #[101, 97, 114, 108, 121])), .v (.string (ByteArray.mk #[100, 105, 115, 99, 97, 114, 100]))], 9)]⟩ (by kernel_rfl) (by kernel_rfl) ?_
  refine At.ret (by kernel_rfl) (.ls 0 0 10 10) (by kernel_rfl) ?_
  intro ρ w9 hm _
  exact ⟨ρ, rfl, hm⟩

noncomputable def B26 : Code := (Tryz.f26.body).getD .skip
set_option maxHeartbeats 4000000 in
set_option maxRecDepth 100000 in
theorem value_k1 (w : World) : Calls Tryz.prog 26 #[.int .i64 2, .int .i64 1] w fun e w' => e = .returned (.string ⟨#[116, 117, 109, 98, 108, 105, 110, 103]⟩) ∧ Below w.heap.size w w' := by
  refine enter (fn := Tryz.f26) (c := B26) [.v (.int .i64 2), .v (.int .i64 1)] Tryz.func26 rfl rfl ?_
  refine At.to noF_stable noF_fewer 20 400 [4] 0 ⟨.exit .ret, [], [(4, .v (.string (ByteArray.mk #[116, 117, 109, 98, 108, 105, 110, 103])))], []⟩ (by kernel_rfl) (by kernel_rfl) ?_
  refine At.ret (by kernel_rfl) (.v (.string (ByteArray.mk #[116, 117, 109, 98, 108, 105, 110, 103]))) (by kernel_rfl) ?_
  intro ρ w9 hw9 _
  exact ⟨rfl, hw9.below⟩

set_option maxHeartbeats 4000000 in
set_option maxRecDepth 100000 in
theorem value_k2 (w : World) : Calls Tryz.prog 26 #[.int .i64 2, .int .i64 2] w fun e w' => e = .returned (.string ⟨#[115, 108, 105, 100, 105, 110, 103]⟩) ∧ Below w.heap.size w w' := by
  refine enter (fn := Tryz.f26) (c := B26) [.v (.int .i64 2), .v (.int .i64 2)] Tryz.func26 rfl rfl ?_
  refine At.to noF_stable noF_fewer 20 400 [4] 0 ⟨.exit .ret, [], [(4, .v (.string (ByteArray.mk #[115, 108, 105, 100, 105, 110, 103])))], []⟩ (by kernel_rfl) (by kernel_rfl) ?_
  refine At.ret (by kernel_rfl) (.v (.string (ByteArray.mk #[115, 108, 105, 100, 105, 110, 103]))) (by kernel_rfl) ?_
  intro ρ w9 hw9 _
  exact ⟨rfl, hw9.below⟩

set_option maxHeartbeats 4000000 in
set_option maxRecDepth 100000 in
theorem value_k3 (w : World) : Calls Tryz.prog 26 #[.int .i64 2, .int .i64 3] w fun e w' => e = .returned (.string ⟨#[115, 101, 115, 115, 105, 111, 110]⟩) ∧ Below w.heap.size w w' := by
  refine enter (fn := Tryz.f26) (c := B26) [.v (.int .i64 2), .v (.int .i64 3)] Tryz.func26 rfl rfl ?_
  refine At.to noF_stable noF_fewer 20 400 [4] 0 ⟨.exit .ret, [], [(4, .v (.string (ByteArray.mk #[115, 101, 115, 115, 105, 111, 110])))], []⟩ (by kernel_rfl) (by kernel_rfl) ?_
  refine At.ret (by kernel_rfl) (.v (.string (ByteArray.mk #[115, 101, 115, 115, 105, 111, 110]))) (by kernel_rfl) ?_
  intro ρ w9 hw9 _
  exact ⟨rfl, hw9.below⟩

set_option maxHeartbeats 4000000 in
set_option maxRecDepth 100000 in
theorem value_d0 (w : World) : Calls Tryz.prog 26 #[.int .i64 9, .int .i64 0] w fun e w' => e = .returned (.string ⟨#[110, 111]⟩) ∧ Below w.heap.size w w' := by
  refine enter (fn := Tryz.f26) (c := B26) [.v (.int .i64 9), .v (.int .i64 0)] Tryz.func26 rfl rfl ?_
  refine At.to noF_stable noF_fewer 20 400 [4] 0 ⟨.exit .ret, [], [(4, .v (.string (ByteArray.mk #[110, 111])))], []⟩ (by kernel_rfl) (by kernel_rfl) ?_
  refine At.ret (by kernel_rfl) (.v (.string (ByteArray.mk #[110, 111]))) (by kernel_rfl) ?_
  intro ρ w9 hw9 _
  exact ⟨rfl, hw9.below⟩

set_option maxHeartbeats 4000000 in
set_option maxRecDepth 100000 in
theorem value_d1 (w : World) : Calls Tryz.prog 26 #[.int .i64 9, .int .i64 1] w fun e w' => e = .returned (.string ⟨#[121, 101, 115]⟩) ∧ Below w.heap.size w w' := by
  refine enter (fn := Tryz.f26) (c := B26) [.v (.int .i64 9), .v (.int .i64 1)] Tryz.func26 rfl rfl ?_
  refine At.to noF_stable noF_fewer 20 400 [4] 0 ⟨.exit .ret, [], [(4, .v (.string (ByteArray.mk #[121, 101, 115])))], []⟩ (by kernel_rfl) (by kernel_rfl) ?_
  refine At.ret (by kernel_rfl) (.v (.string (ByteArray.mk #[121, 101, 115]))) (by kernel_rfl) ?_
  intro ρ w9 hw9 _
  exact ⟨rfl, hw9.below⟩

set_option maxHeartbeats 4000000 in
set_option maxRecDepth 100000 in
theorem value_n (i n : Int) (hi2 : (i == 2) = false) (hi9 : (i == 9) = false) (h0 : 0 ≤ n) (h1 : n < 1000000000000000000) (w : World) (htab : Lib.TabIs Tryz.prog w "internal/strconv.uint64pow10" .u64 Lib.pow10Tab) : Calls Tryz.prog 26 #[.int .i64 i, .int .i64 n] w fun e w' => e = .returned (.string (mkB (Lib.itoa n))) ∧ Below w.heap.size w w' := by
  refine enter (fn := Tryz.f26) (c := B26) [.io .i64 i, .io .i64 n] Tryz.func26 rfl rfl ?_
  refine At.to (noF_stable) (noF_fewer) 0 100 [0, 1, 6] 0 ⟨.code (sub B26 [1, 0, 1]), [.seq (sub B26 [1, 1])], [(0, .io .i64 i), (1, .io .i64 n), (6, .bo (i == 2))], []⟩ (by kernel_rfl) (by kernel_rfl) ?_
  refine At.res 6 (i == 2) false (by kernel_rfl) hi2 ?_
  refine At.to (noF_stable) (noF_fewer) 0 100 [1, 13] 0 ⟨.code (sub B26 [1, 1, 0, 1]), [.seq (sub B26 [1, 1, 1])], [(1, .io .i64 n), (13, .bo (i == 9))], []⟩ (by kernel_rfl) (by kernel_rfl) ?_
  refine At.res 13 (i == 9) false (by kernel_rfl) hi9 ?_
  refine At.to (noF_stable) (noF_fewer) 0 100 [18] 0 ⟨pops B26 [1, 1, 1, 0] 1, [.seq (sub B26 [1, 0, 1, 2, 1])], [(18, .io .i64 n)], []⟩ (by kernel_rfl) (by kernel_rfl) ?_
  refine At.call noF_stable 35 [.io .i64 n, .v (.int .i64 10)] (.so (mkB (Lib.itoa n))) (by kernel_rfl) (by kernel_rfl) (by kernel_rfl) (fun _ _ w1 hi _ => fmt_any n h0 h1 w1 (tab_below htab hi.mem.below rfl)) ?_
  refine At.to (noF_stable) (noF_fewer) 0 100 [4] 0 ⟨.exit .ret, [], [(4, .so (mkB (Lib.itoa n)))], []⟩ (by kernel_rfl) (by kernel_rfl) ?_
  refine At.ret (by kernel_rfl) (.so (mkB (Lib.itoa n))) (by kernel_rfl) ?_
  intro ρ w9 hm hf
  exact ⟨rfl, hm.below⟩

end Go.Proofs.YtiehnigbcfkcdaaGreatDoor
