/- Joined texts: RH, LN, RL, BN, AF, AG, AH, TB. -/
import Derived.Test.YthfpekhpeiebjaaGreatDoorMAM
set_option linter.unusedSimpArgs false
set_option linter.unusedVariables false
namespace Go.Sx
open Go
def cfAN (g s k sz sl of gp lt ea : Int) (d : Bool) : List SV := [.io .i64 g, .io .i64 s, .io .i64 k, .io .i64 sz, .io .i64 sl, .io .i64 of, .io .i64 gp, .io .i64 lt, .io .i64 ea, .bo d]
def cwAN (g s k sz sl of gp lt ea : Int) (d : Bool) (wk : Int) (A : Option Addr) (n c : Nat) : List SV := [.io .i64 g, .io .i64 s, .io .i64 k, .io .i64 sz, .io .i64 sl, .io .i64 of, .io .i64 gp, .io .i64 lt, .io .i64 ea, .bo d, .io .i64 wk, .sl A n c]
def pAN0 : List Nat := [1, 0, 1, 4, 1, 2, 0, 1, 4, 1, 2, 1]
def pAN1 : List Nat := [1, 1, 1, 1, 0, 1, 4, 4, 1, 1]
def pAN2 : List Nat := [1, 0, 1, 4, 1, 3, 1, 2, 0]
def pAN3 : List Nat := [1, 0, 1, 4, 1, 2, 1]
def pAN4 : List Nat := [1, 1, 1, 1, 1]
def pAN5 : List Nat := [1, 1]
end Go.Sx
section
namespace Go.Proofs.YthfpekhpeiebjaaGreatDoor
open Go.RowKit Go.Sx
noncomputable def B22 : Code := (Tryz.f22.body).getD .skip
def frRC (i : Nat) : Fr := [(1, .lp 0 0), (5, .io .i64 (i : Int))]
set_option maxHeartbeats 8000000 in
set_option maxRecDepth 100000 in
theorem rcheck_go (g s k sz sl of gp lt ea : Int) (d : Bool) (wk : Int) (A : Option Addr) (n cap : Nat) (xs : List St) (w : World) (hS : SlS w A n xs) (hn : n ≤ 1048576) :
  Calls Tryz.prog 22 #[.agg #[.int .i64 g, .int .i64 s, .int .i64 k, .int .i64 sz, .int .i64 sl, .int .i64 of, .int .i64 gp, .int .i64 lt, .int .i64 ea, .bool d, .int .i64 wk, .slice A n cap]] w fun e w' => e = .returned (.tuple #[.int .i64 (chkP ⟨g, s, k, sz, sl, of, gp, lt, ea, d⟩ wk xs).1, .int .i64 (chkP ⟨g, s, k, sz, sl, of, gp, lt, ea, d⟩ wk xs).2]) ∧ Below w.heap.size w w' := by
 have hl := hS.1
 refine enter (fn := Tryz.f22) (c := B22) [.agg (cwAN g s k sz sl of gp lt ea d wk A n cap)] Tryz.func22 rfl rfl ?_
 refine zN [1, 8] 1 ⟨pops B22 [1, 0] 2, [.seq (sub B22 pAN5)], [(1, .lp 0 0), (8, .agg (cfAN g s k sz sl of gp lt ea d))], [((cwAN g s k sz sl of gp lt ea d wk A n cap), 28)]⟩ ?_
 refine zC noF_stable 44 [.agg (cfAN g s k sz sl of gp lt ea d)] (.bo (decide (jobK g s k sz sl of gp lt ea))) (fun _ _ w1 _ _ => rjob_any g s k sz sl of gp lt ea d w1) ?_
 refine zNq [1, 11] 1 ?_
 rcases Bool.eq_false_or_eq_true (!decide (jobK g s k sz sl of gp lt ea)) with b0 | b0
 ·refine zR 11 b0 ?_
  refine zN [2, 3] 0 ⟨.exit .ret, [], [(2, .v (.int .i64 0)), (3, .v (.int .i64 2))], []⟩ ?_
  refine zE (.tup [.v (.int .i64 0), .v (.int .i64 2)]) ?_
  have hwr : ¬ wrongR g s k sz sl of gp lt ea = 0 := by rw [← job_iff]; simpa using b0
  have hR2 : chkP ⟨g, s, k, sz, sl, of, gp, lt, ea, d⟩ wk xs = (0, 2) := if_pos hwr
  intro ρ w9 hm' hf
  exact ⟨by rw [hR2]; rfl, hm'.below⟩
 refine zR 11 b0 ?_
 refine zN [1, 15] 1 ⟨pops B22 [1, 1, 1, 0, 0] 4, [.seq (sub B22 [1, 1, 1, 0, 1]), .seq (sub B22 [1, 1, 1, 1])], [(1, .lp 0 0), (15, .bo (decide (wk < 1)))], [((cwAN g s k sz sl of gp lt ea d wk A n cap), 28)]⟩ ?_
 rcases Bool.eq_false_or_eq_true (decide (wk < 1)) with b1 | b1
 ·refine zR 15 b1 ?_
  refine zN [2, 3] 0 ⟨.exit .ret, [], [(2, .v (.int .i64 1)), (3, .v (.int .i64 2))], []⟩ ?_
  refine zE (.tup [.v (.int .i64 1), .v (.int .i64 2)]) ?_
  have hwr : wrongR g s k sz sl of gp lt ea = 0 := by rw [← job_iff]; simpa using b0
  have hR2 : chkP ⟨g, s, k, sz, sl, of, gp, lt, ea, d⟩ wk xs = (1, 2) := chkP_1 hwr (Or.inl (of_decide_eq_true b1))
  intro ρ w9 hm' hf
  exact ⟨by rw [hR2]; rfl, hm'.below⟩
 refine zR 15 b1 ?_
 refine zNq [1, 22] 1 ?_
 rcases Bool.eq_false_or_eq_true (decide (wk > g)) with b2 | b2
 ·refine zR 22 b2 ?_
  refine zN [2, 3] 0 ⟨.exit .ret, [], [(2, .v (.int .i64 1)), (3, .v (.int .i64 2))], []⟩ ?_
  refine zE (.tup [.v (.int .i64 1), .v (.int .i64 2)]) ?_
  have hwr : wrongR g s k sz sl of gp lt ea = 0 := by rw [← job_iff]; simpa using b0
  have hR2 : chkP ⟨g, s, k, sz, sl, of, gp, lt, ea, d⟩ wk xs = (1, 2) := chkP_1 hwr (Or.inr (of_decide_eq_true b2))
  intro ρ w9 hm' hf
  exact ⟨by rw [hR2]; rfl, hm'.below⟩
 refine zR 22 b2 ?_
 refine zN [1, 5] 1 ⟨.code (sub B22 [1, 1, 1, 1, 0, 1, 4]), [.block 0, .seq (sub B22 pAN4)], [(1, .lp 0 0), (5, .v (.int .i64 0))], [((cwAN g s k sz sl of gp lt ea d wk A n cap), 28)]⟩ ?_
 have hwr : wrongR g s k sz sl of gp lt ea = 0 := by rw [← job_iff]; simpa using b0
 have hlo := of_decide_eq_false b1
 have hhi := of_decide_eq_false b2
 clear b0 b1 b2
 have hR2 : chkP ⟨g, s, k, sz, sl, of, gp, lt, ea, d⟩ wk xs = chkE (badI ⟨g, s, k, sz, sl, of, gp, lt, ea, d⟩ xs 0) := chkP_2 hwr (by show ¬ (wk < 1 ∨ g < wk); omega)
 rw [hR2]
 generalize hR : chkE (badI ⟨g, s, k, sz, sl, of, gp, lt, ea, d⟩ xs 0) = R
 refine At.canonT [5] _ rfl ?_
 refine At.loop (σ := Nat) (sub B22 [1, 1, 1, 1, 0, 1, 4, 4]) frRC (locC ⟨g, s, k, sz, sl, of, gp, lt, ea, d⟩ wk A n cap) (GC ⟨g, s, k, sz, sl, of, gp, lt, ea, d⟩ xs R) (fun i => n - i) 0 (by kernel_rfl) (by unfold subFr; kernel_rfl) (by kernel_rfl) (fun _ _ _ _ h => ⟨h, hR, Nat.zero_le _⟩) ?_
 clear hR hR2
 intro i
 refine At.pure fun ⟨h1, h2⟩ => ?_
 refine zNq [1, 5, 27] 1 ?_
 rcases Bool.eq_false_or_eq_true (decide ((↑i : Int) < (↑n : Int))) with b0 | b0
 ·refine zR 27 b0 ?_
  refine zN [1, 5, 31, 33, 34] 1 ⟨pqops B22 [1, 1, 1, 1, 0, 1, 4, 4, 1, 0, 4, 0] 5, [.seq (sub B22 [1, 1, 1, 1, 0, 1, 4, 4, 1, 0, 4, 1]), .block 1, .seq (sub B22 pAN1), .next (Sx.Next w.heap.size w Tryz.f22.ntmps frRC (locC (Cf.mk g s k sz sl of gp lt ea d) wk A n cap) (GC (Cf.mk g s k sz sl of gp lt ea d) xs R) (fun i => n - i) i), .block 0, .seq (sub B22 pAN4)], [(1, .lp 0 0), (5, .io .i64 (↑i : Int)), (31, .agg (cfAN g s k sz sl of gp lt ea d)), (33, .sl A n cap), (34, .io .i64 (↑i : Int))], [((cwAN g s k sz sl of gp lt ea d wk A n cap), 28)]⟩ ?_
  have hi : i < n := by have := of_decide_eq_true b0; omega
  clear b0
  obtain ⟨x, hx⟩ : ∃ x, xs[i]? = some x := ⟨_, List.getElem?_eq_getElem (by rw [← hS.1]; exact hi)⟩
  obtain ⟨a, rfl, hcell⟩ := hS.get hx
  rw [drop_at hx] at h1
  simp only [badI] at h1
  obtain ⟨kd, ik, key, ti, v, src, wk2, wks, bit, mask⟩ := x
  refine At.idx a n 10 (i : Int) (by kernel_rfl) (by omega) (by omega) noF_stable ?_
  refine At.lda (a.add ((i : Int).toNat * 10)) 10 [.io .i64 kd, .io .i64 ik, .so (mkB key), .io .i64 ti, .io .i64 v, .io .i64 src, .io .i64 wk2, .io .i64 wks, .io .i64 bit, .io .u32 mask] (by kernel_rfl) rfl noF_stable (fun ρ w1 hm' hf j v2 hj => cell_below (hcell j v2 hj) hm'.below) ?_
  refine zN [1, 5, 31, 36] 1 ⟨pqops B22 [1, 1, 1, 1, 0, 1, 4, 4, 1, 0, 4, 0] 7, [.seq (sub B22 [1, 1, 1, 1, 0, 1, 4, 4, 1, 0, 4, 1]), .block 1, .seq (sub B22 pAN1), .next (Sx.Next w.heap.size w Tryz.f22.ntmps frRC (locC (Cf.mk g s k sz sl of gp lt ea d) wk (some a) n cap) (GC (Cf.mk g s k sz sl of gp lt ea d) xs R) (fun i => n - i) i), .block 0, .seq (sub B22 pAN4)], [(1, .lp 0 0), (5, .io .i64 (↑i : Int)), (31, .agg (cfAN g s k sz sl of gp lt ea d)), (36, .agg [.io .i64 kd, .io .i64 ik, .so (mkB key), .io .i64 ti, .io .i64 v, .io .i64 src, .io .i64 wk2, .io .i64 wks, .io .i64 bit, .io IntKind.u32 mask])], [((cwAN g s k sz sl of gp lt ea d wk (some a) n cap), 28)]⟩ ?_
  refine zC noF_stable 45 [.agg (cfAN g s k sz sl of gp lt ea d), .agg [.io .i64 kd, .io .i64 ik, .so (mkB key), .io .i64 ti, .io .i64 v, .io .i64 src, .io .i64 wk2, .io .i64 wks, .io .i64 bit, .io .u32 mask]] (.bo (mayB ⟨g, s, k, sz, sl, of, gp, lt, ea, d⟩ ⟨kd, ik, key, ti, v, src, wk2, wks, bit, mask⟩)) (fun _ _ w1 _ _ => rstep_any g s k sz sl of gp lt ea d kd ik key ti v src wk2 wks bit mask w1) ?_
  refine zNq [1, 5, 39] 1 ?_
  rcases Bool.eq_false_or_eq_true (!mayB (Cf.mk g s k sz sl of gp lt ea d) (St.mk kd ik key ti v src wk2 wks bit mask)) with b0 | b0
  ·refine zR 39 b0 ?_
   refine zN [2, 3] 0 ⟨.exit .ret, [], [(2, .io .i64 (IntKind.i64.wrap (2 + (↑i : Int)))), (3, .v (.int .i64 2))], []⟩ ?_
   refine zE (.tup [.io .i64 (IntKind.i64.wrap (2 + (↑i : Int))), .v (.int .i64 2)]) ?_
   have hmay : mayB ⟨g, s, k, sz, sl, of, gp, lt, ea, d⟩ ⟨kd, ik, key, ti, v, src, wk2, wks, bit, mask⟩ = false := by simpa using b0
   rw [hmay] at h1
   have hw2 : IntKind.i64.wrap (2 + (i : Int)) = 2 + (i : Int) := wrap63 (by omega) (by omega)
   rw [hw2]
   intro ρ w9 hm' hf
   exact ⟨by rw [← h1]; rfl, hm'.below⟩
  refine zR 39 b0 ?_
  refine zN [1, 5] 1 ⟨.exit .normal, [.next (Sx.Next w.heap.size w Tryz.f22.ntmps frRC (locC (Cf.mk g s k sz sl of gp lt ea d) wk (some a) n cap) (GC (Cf.mk g s k sz sl of gp lt ea d) xs R) (fun i => n - i) i), .block 0, .seq (sub B22 pAN4)], [(1, .lp 0 0), (5, .io .i64 (IntKind.i64.wrap ((↑i : Int) + 1)))], [((cwAN g s k sz sl of gp lt ea d wk (some a) n cap), 28)]⟩ ?_
  have hmay : mayB ⟨g, s, k, sz, sl, of, gp, lt, ea, d⟩ ⟨kd, ik, key, ti, v, src, wk2, wks, bit, mask⟩ = true := by simpa using b0
  rw [hmay] at h1
  have hw3 : IntKind.i64.wrap ((i : Int) + 1) = ((i + 1 : Nat) : Int) := by
   rw [wrap63 (by omega) (by omega)]
   omega
  rw [hw3]
  refine At.next (σ := Nat) (i + 1) rfl rfl (by unfold subFr; kernel_rfl) (by kernel_rfl) ?_ ?_
  ·intro ρ a' w' hi' hf
   exact ⟨hf, h1, by omega⟩
  show n - (i + 1) < n - i
  omega
 refine zR 27 b0 ?_
 refine zN [2, 3] 0 ⟨.exit .ret, [], [(2, .v (.int .i64 0)), (3, .v (.int .i64 0))], []⟩ ?_
 refine zE (.tup [.v (.int .i64 0), .v (.int .i64 0)]) ?_
 have hi : ¬ (i : Int) < (n : Int) := of_decide_eq_false b0
 rw [List.drop_eq_nil_of_le (by rw [← hS.1]; omega)] at h1
 simp only [badI] at h1
 intro ρ w9 hm' hf
 exact ⟨by rw [← h1]; rfl, hm'.below⟩
end Go.Proofs.YthfpekhpeiebjaaGreatDoor
end
section
namespace Go.Proofs.YthfpekhpeiebjaaGreatDoor
open Go.RowKit Go.Sx
def lineS : St → List UInt8
 | ⟨kd, ik, key, ti, v, src, wk, wks, bit, mask⟩ => if kd = 1 then (if ik = 1 then [101, 118, 101, 110, 116, 32] ++ quoteB key ++ [32] ++ Lib.itoa ti ++ [32] ++ Lib.itoa v else if ik = 2 then [109, 97, 114, 107, 32] ++ Lib.itoa src ++ [32] ++ Lib.itoa ti else [115, 97, 118, 101])
  else if kd = 2 then [112, 105, 99, 107, 32] ++ Lib.itoa wk else if kd = 4 then [114, 101, 115, 116, 111, 114, 101, 32] ++ Lib.itoa wks else if kd = 5 then [115, 112, 111, 105, 108, 32] ++ Lib.itoa bit ++ [32] ++ Lib.itoa mask else [100, 114, 97, 105, 110]
def St.ok (x : St) : Prop := in64 x.t ∧ in64 x.v ∧ in64 x.src ∧ in64 x.wk ∧ in64 x.wks ∧ in64 x.bit ∧ (0 ≤ x.mask ∧ x.mask < 4294967296)
section
variable {Q : Exit → Act → World → Prop} {N : Nat} {w0 : World} {ntm : Nat} {F : List Nat → World → Prop} [Md]
theorem catX {s : S} (x y : List UInt8) (hq : catI Tryz.prog ntm s = some (mkB x, mkB y)) (hs : x.length + y.length ≤ 1000000) (hF : Stable F) (h : At Tryz.prog Q N w0 ntm F (s.tail ntm (.so (mkB (x ++ y))))) : At Tryz.prog Q N w0 ntm F s := by
 refine At.cat _ _ hq (by rw [mkB_size, mkB_size]; omega) hF ?_
 rw [mkB_app]
 exact h
end
theorem itoa_any (n : Int) (h : in64 n) (w : World) (htab : Lib.TabIs Tryz.prog w "internal/strconv.uint64pow10" .u64 Lib.pow10Tab) : Calls Tryz.prog 38 #[.int .i64 n] w fun e w' => e = .returned (.string (mkB (Lib.itoa n))) ∧ Below w.heap.size w w' :=
 (Tryz.strconv_Itoa n h.1 h.2 w htab).mono fun e w' h => by
  obtain ⟨rfl, k, os, rfl⟩ := h
  exact ⟨rfl, grown_under w k os⟩
theorem fmtM (mask : Int) (h : 0 ≤ mask ∧ mask < 4294967296) (w : World) (htab : Lib.TabIs Tryz.prog w "internal/strconv.uint64pow10" .u64 Lib.pow10Tab) : Calls Tryz.prog 71 #[.int .u64 (IntKind.u64.wrap mask), .int .i64 10] w fun e w' => e = .returned (.string (mkB (Lib.itoa mask))) ∧ Below w.heap.size w w' := by
 obtain ⟨u, rfl⟩ : ∃ u : Nat, mask = u := ⟨mask.toNat, by omega⟩
 rw [show IntKind.u64.wrap (u : Int) = (u : Int) from by rw [wrap_u64]; omega]
 exact fmtU_any u (by omega) w htab
noncomputable def B39 : Code := (Tryz.f39.body).getD .skip
set_option maxHeartbeats 8000000 in
set_option maxRecDepth 100000 in
theorem line_go (kd ik : Int) (key : List UInt8) (ti v src wk2 wks bit mask : Int) (hk : key.length ≤ 256) (i0 : in64 ti) (i1 : in64 v) (i2 : in64 src) (i3 : in64 wk2) (i4 : in64 wks) (i5 : in64 bit) (i6 : 0 ≤ mask ∧ mask < 4294967296) (w : World) (htp : Lib.TabIs Tryz.prog w "internal/strconv.uint64pow10" .u64 Lib.pow10Tab) :
  Calls Tryz.prog 39 #[.agg #[.int .i64 kd, .int .i64 ik, .string (mkB key), .int .i64 ti, .int .i64 v, .int .i64 src, .int .i64 wk2, .int .i64 wks, .int .i64 bit, .int .u32 mask]] w fun e w' => e = .returned (.string (mkB (lineS ⟨kd, ik, key, ti, v, src, wk2, wks, bit, mask⟩))) ∧ Below w.heap.size w w' := by
 have hq0 := quote_short hk
 have hl0 := itoa_short i0
 have hl1 := itoa_short i1
 have hl2 := itoa_short i2
 have hl3 := itoa_short i3
 have hl4 := itoa_short i4
 have hl5 := itoa_short i5
 have hl6 := itoa_short (show in64 mask from ⟨by omega, by omega⟩)
 refine enter (fn := Tryz.f39) (c := B39) [.agg [.io .i64 kd, .io .i64 ik, .so (mkB key), .io .i64 ti, .io .i64 v, .io .i64 src, .io .i64 wk2, .io .i64 wks, .io .i64 bit, .io .u32 mask]] Tryz.func39 rfl rfl ?_
 refine zM [1, 4, 5] 1 ⟨.code (sub B39 [1, 0, 1, 4, 1]), [.block 0, .seq (sub B39 pAN5)], [(1, .lp 0 0), (4, .io .i64 kd), (5, .bo (kd == 1))], [([.io .i64 kd, .io .i64 ik, .so (mkB key), .io .i64 ti, .io .i64 v, .io .i64 src, .io .i64 wk2, .io .i64 wks, .io .i64 bit, .io IntKind.u32 mask], 41)]⟩ ?_
 rcases Bool.eq_false_or_eq_true (kd == 1) with b0 | b0
 ·refine zR 5 b0 ?_
  refine zM [1, 9, 10] 1 ⟨.code (sub B39 [1, 0, 1, 4, 1, 2, 0, 1, 4, 1]), [.block 1, .seq (sub B39 pAN3), .block 0, .seq (sub B39 pAN5)], [(1, .lp 0 0), (9, .io .i64 ik), (10, .bo (ik == 1))], [([.io .i64 kd, .io .i64 ik, .so (mkB key), .io .i64 ti, .io .i64 v, .io .i64 src, .io .i64 wk2, .io .i64 wks, .io .i64 bit, .io IntKind.u32 mask], 41)]⟩ ?_
  rcases Bool.eq_false_or_eq_true (ik == 1) with b1 | b1
  ·refine zR 10 b1 ?_
   refine zM [1, 14] 1 ⟨pqops B39 [1, 0, 1, 4, 1, 2, 0, 1, 4, 1, 2, 0] 3, [.seq (sub B39 pAN0), .block 1, .seq (sub B39 pAN3), .block 0, .seq (sub B39 pAN5)], [(1, .lp 0 0), (14, .so (mkB key))], [([.io .i64 kd, .io .i64 ik, .so (mkB key), .io .i64 ti, .io .i64 v, .io .i64 src, .io .i64 wk2, .io .i64 wks, .io .i64 bit, .io IntKind.u32 mask], 41)]⟩ ?_
   refine zC noF_stable 19 [.so (mkB key)] (.so (mkB (quoteB key))) (fun _ _ w1 _ _ => quote_any key (by omega) w1) ?_
   refine zM [1, 15] 1 ⟨pqops B39 [1, 0, 1, 4, 1, 2, 0, 1, 4, 1, 2, 0] 4, [.seq (sub B39 pAN0), .block 1, .seq (sub B39 pAN3), .block 0, .seq (sub B39 pAN5)], [(1, .lp 0 0), (15, .so (mkB (quoteB key)))], [([.io .i64 kd, .io .i64 ik, .so (mkB key), .io .i64 ti, .io .i64 v, .io .i64 src, .io .i64 wk2, .io .i64 wks, .io .i64 bit, .io IntKind.u32 mask], 41)]⟩ ?_
   refine catX ([101, 118, 101, 110, 116, 32] : List UInt8) (quoteB key) (by kernel_rfl) (by simp only [List.length_append, List.length_cons, List.length_nil]; omega) noF_stable ?_
   refine zM [1, 16] 1 ⟨pqops B39 [1, 0, 1, 4, 1, 2, 0, 1, 4, 1, 2, 0] 5, [.seq (sub B39 pAN0), .block 1, .seq (sub B39 pAN3), .block 0, .seq (sub B39 pAN5)], [(1, .lp 0 0), (16, .so (mkB ([101, 118, 101, 110, 116, 32] ++ quoteB key)))], [([.io .i64 kd, .io .i64 ik, .so (mkB key), .io .i64 ti, .io .i64 v, .io .i64 src, .io .i64 wk2, .io .i64 wks, .io .i64 bit, .io IntKind.u32 mask], 41)]⟩ ?_
   refine catX ([101, 118, 101, 110, 116, 32] ++ quoteB key) ([32] : List UInt8) (by kernel_rfl) (by simp only [List.length_append, List.length_cons, List.length_nil]; omega) noF_stable ?_
   refine zM [1, 17, 20] 1 ⟨pqops B39 [1, 0, 1, 4, 1, 2, 0, 1, 4, 1, 2, 0] 9, [.seq (sub B39 pAN0), .block 1, .seq (sub B39 pAN3), .block 0, .seq (sub B39 pAN5)], [(1, .lp 0 0), (17, .so (mkB ([101, 118, 101, 110, 116, 32] ++ quoteB key ++ [32]))), (20, .io .i64 ti)], [([.io .i64 kd, .io .i64 ik, .so (mkB key), .io .i64 ti, .io .i64 v, .io .i64 src, .io .i64 wk2, .io .i64 wks, .io .i64 bit, .io IntKind.u32 mask], 41)]⟩ ?_
   refine zC noF_stable 59 [.io .i64 ti, .v (.int .i64 10)] (.so (mkB (Lib.itoa ti))) (fun _ _ w1 hi _ => fmt_any ti i0 w1 (tab_below htp hi.mem.below rfl)) ?_
   refine zM [1, 17, 21] 1 ⟨pqops B39 [1, 0, 1, 4, 1, 2, 0, 1, 4, 1, 2, 0] 10, [.seq (sub B39 pAN0), .block 1, .seq (sub B39 pAN3), .block 0, .seq (sub B39 pAN5)], [(1, .lp 0 0), (17, .so (mkB ([101, 118, 101, 110, 116, 32] ++ quoteB key ++ [32]))), (21, .so (mkB (Lib.itoa ti)))], [([.io .i64 kd, .io .i64 ik, .so (mkB key), .io .i64 ti, .io .i64 v, .io .i64 src, .io .i64 wk2, .io .i64 wks, .io .i64 bit, .io IntKind.u32 mask], 41)]⟩ ?_
   refine catX ([101, 118, 101, 110, 116, 32] ++ quoteB key ++ [32]) (Lib.itoa ti) (by kernel_rfl) (by simp only [List.length_append, List.length_cons, List.length_nil]; omega) noF_stable ?_
   refine zM [1, 22] 1 ⟨pqops B39 [1, 0, 1, 4, 1, 2, 0, 1, 4, 1, 2, 0] 11, [.seq (sub B39 pAN0), .block 1, .seq (sub B39 pAN3), .block 0, .seq (sub B39 pAN5)], [(1, .lp 0 0), (22, .so (mkB ([101, 118, 101, 110, 116, 32] ++ quoteB key ++ [32] ++ Lib.itoa ti)))], [([.io .i64 kd, .io .i64 ik, .so (mkB key), .io .i64 ti, .io .i64 v, .io .i64 src, .io .i64 wk2, .io .i64 wks, .io .i64 bit, .io IntKind.u32 mask], 41)]⟩ ?_
   refine catX ([101, 118, 101, 110, 116, 32] ++ quoteB key ++ [32] ++ Lib.itoa ti) ([32] : List UInt8) (by kernel_rfl) (by simp only [List.length_append, List.length_cons, List.length_nil]; omega) noF_stable ?_
   refine zM [23, 26] 0 ⟨pqops B39 [1, 0, 1, 4, 1, 2, 0, 1, 4, 1, 2, 0] 15, [.seq (sub B39 pAN0), .block 1, .seq (sub B39 pAN3), .block 0, .seq (sub B39 pAN5)], [(23, .so (mkB ([101, 118, 101, 110, 116, 32] ++ quoteB key ++ [32] ++ Lib.itoa ti ++ [32]))), (26, .io .i64 v)], []⟩ ?_
   refine zC noF_stable 59 [.io .i64 v, .v (.int .i64 10)] (.so (mkB (Lib.itoa v))) (fun _ _ w1 hi _ => fmt_any v i1 w1 (tab_below htp hi.mem.below rfl)) ?_
   refine zM [23, 27] 0 ⟨pqops B39 [1, 0, 1, 4, 1, 2, 0, 1, 4, 1, 2, 0] 16, [.seq (sub B39 pAN0), .block 1, .seq (sub B39 pAN3), .block 0, .seq (sub B39 pAN5)], [(23, .so (mkB ([101, 118, 101, 110, 116, 32] ++ quoteB key ++ [32] ++ Lib.itoa ti ++ [32]))), (27, .so (mkB (Lib.itoa v)))], []⟩ ?_
   refine catX ([101, 118, 101, 110, 116, 32] ++ quoteB key ++ [32] ++ Lib.itoa ti ++ [32]) (Lib.itoa v) (by kernel_rfl) (by simp only [List.length_append, List.length_cons, List.length_nil]; omega) noF_stable ?_
   refine zM [2] 0 ⟨.exit .ret, [], [(2, .so (mkB ([101, 118, 101, 110, 116, 32] ++ quoteB key ++ [32] ++ Lib.itoa ti ++ [32] ++ Lib.itoa v)))], []⟩ ?_
   refine zE (.so (mkB ([101, 118, 101, 110, 116, 32] ++ quoteB key ++ [32] ++ Lib.itoa ti ++ [32] ++ Lib.itoa v))) ?_
   intro ρ w9 hm' hf
   refine ⟨?_, hm'.below⟩
   have hq9 : lineS ⟨kd, ik, key, ti, v, src, wk2, wks, bit, mask⟩ = ([101, 118, 101, 110, 116, 32] ++ quoteB key ++ [32] ++ Lib.itoa ti ++ [32] ++ Lib.itoa v) := by
    unfold lineS
    simp only [beq_iff_eq, bne_iff_ne, ne_eq, beq_eq_false_iff_ne] at *
    simp [*]
   rw [hq9]
   rfl
  refine zR 10 b1 ?_
  refine zM [1, 29] 1 ⟨.code (sub B39 [1, 0, 1, 4, 1, 2, 0, 1, 4, 1, 3, 1]), [.block 1, .seq (sub B39 pAN3), .block 0, .seq (sub B39 pAN5)], [(1, .lp 0 0), (29, .bo (ik == 2))], [([.io .i64 kd, .io .i64 ik, .so (mkB key), .io .i64 ti, .io .i64 v, .io .i64 src, .io .i64 wk2, .io .i64 wks, .io .i64 bit, .io IntKind.u32 mask], 41)]⟩ ?_
  rcases Bool.eq_false_or_eq_true (ik == 2) with b2 | b2
  ·refine zR 29 b2 ?_
   refine zM [1, 33] 1 ⟨pqops B39 [1, 0, 1, 4, 1, 2, 0, 1, 4, 1, 3, 1, 2, 0] 3, [.seq (sub B39 pAN0), .block 1, .seq (sub B39 pAN3), .block 0, .seq (sub B39 pAN5)], [(1, .lp 0 0), (33, .io .i64 src)], [([.io .i64 kd, .io .i64 ik, .so (mkB key), .io .i64 ti, .io .i64 v, .io .i64 src, .io .i64 wk2, .io .i64 wks, .io .i64 bit, .io IntKind.u32 mask], 41)]⟩ ?_
   refine zC noF_stable 38 [.io .i64 src] (.so (mkB (Lib.itoa src))) (fun _ _ w1 hi _ => itoa_any src i2 w1 (tab_below htp hi.mem.below rfl)) ?_
   refine zM [1, 34] 1 ⟨pqops B39 [1, 0, 1, 4, 1, 2, 0, 1, 4, 1, 3, 1, 2, 0] 4, [.seq (sub B39 pAN0), .block 1, .seq (sub B39 pAN3), .block 0, .seq (sub B39 pAN5)], [(1, .lp 0 0), (34, .so (mkB (Lib.itoa src)))], [([.io .i64 kd, .io .i64 ik, .so (mkB key), .io .i64 ti, .io .i64 v, .io .i64 src, .io .i64 wk2, .io .i64 wks, .io .i64 bit, .io IntKind.u32 mask], 41)]⟩ ?_
   refine catX ([109, 97, 114, 107, 32] : List UInt8) (Lib.itoa src) (by kernel_rfl) (by simp only [List.length_append, List.length_cons, List.length_nil]; omega) noF_stable ?_
   refine zM [1, 35] 1 ⟨pqops B39 [1, 0, 1, 4, 1, 2, 0, 1, 4, 1, 3, 1, 2, 0] 5, [.seq (sub B39 pAN0), .block 1, .seq (sub B39 pAN3), .block 0, .seq (sub B39 pAN5)], [(1, .lp 0 0), (35, .so (mkB ([109, 97, 114, 107, 32] ++ Lib.itoa src)))], [([.io .i64 kd, .io .i64 ik, .so (mkB key), .io .i64 ti, .io .i64 v, .io .i64 src, .io .i64 wk2, .io .i64 wks, .io .i64 bit, .io IntKind.u32 mask], 41)]⟩ ?_
   refine catX ([109, 97, 114, 107, 32] ++ Lib.itoa src) ([32] : List UInt8) (by kernel_rfl) (by simp only [List.length_append, List.length_cons, List.length_nil]; omega) noF_stable ?_
   refine zM [36, 39] 0 ⟨pqops B39 [1, 0, 1, 4, 1, 2, 0, 1, 4, 1, 3, 1, 2, 0] 9, [.seq (sub B39 pAN0), .block 1, .seq (sub B39 pAN3), .block 0, .seq (sub B39 pAN5)], [(36, .so (mkB ([109, 97, 114, 107, 32] ++ Lib.itoa src ++ [32]))), (39, .io .i64 ti)], []⟩ ?_
   refine zC noF_stable 59 [.io .i64 ti, .v (.int .i64 10)] (.so (mkB (Lib.itoa ti))) (fun _ _ w1 hi _ => fmt_any ti i0 w1 (tab_below htp hi.mem.below rfl)) ?_
   refine zM [36, 40] 0 ⟨pqops B39 [1, 0, 1, 4, 1, 2, 0, 1, 4, 1, 3, 1, 2, 0] 10, [.seq (sub B39 pAN0), .block 1, .seq (sub B39 pAN3), .block 0, .seq (sub B39 pAN5)], [(36, .so (mkB ([109, 97, 114, 107, 32] ++ Lib.itoa src ++ [32]))), (40, .so (mkB (Lib.itoa ti)))], []⟩ ?_
   refine catX ([109, 97, 114, 107, 32] ++ Lib.itoa src ++ [32]) (Lib.itoa ti) (by kernel_rfl) (by simp only [List.length_append, List.length_cons, List.length_nil]; omega) noF_stable ?_
   refine zM [2] 0 ⟨.exit .ret, [], [(2, .so (mkB ([109, 97, 114, 107, 32] ++ Lib.itoa src ++ [32] ++ Lib.itoa ti)))], []⟩ ?_
   refine zE (.so (mkB ([109, 97, 114, 107, 32] ++ Lib.itoa src ++ [32] ++ Lib.itoa ti))) ?_
   intro ρ w9 hm' hf
   refine ⟨?_, hm'.below⟩
   have hq9 : lineS ⟨kd, ik, key, ti, v, src, wk2, wks, bit, mask⟩ = ([109, 97, 114, 107, 32] ++ Lib.itoa src ++ [32] ++ Lib.itoa ti) := by
    unfold lineS
    simp only [beq_iff_eq, bne_iff_ne, ne_eq, beq_eq_false_iff_ne] at *
    simp [*]
   rw [hq9]
   rfl
  refine zR 29 b2 ?_
  refine zM [2] 0 ⟨.exit .ret, [], [(2, .v (.string (ByteArray.mk #[115, 97, 118, 101])))], []⟩ ?_
  refine zE (.v (.string (ByteArray.mk #[115, 97, 118, 101]))) ?_
  intro ρ w9 hm' hf
  refine ⟨?_, hm'.below⟩
  have hq9 : lineS ⟨kd, ik, key, ti, v, src, wk2, wks, bit, mask⟩ = [115, 97, 118, 101] := by
   unfold lineS
   simp only [beq_iff_eq, bne_iff_ne, ne_eq, beq_eq_false_iff_ne] at *
   simp [*]
  rw [hq9]
  rfl
 refine zR 5 b0 ?_
 refine zM [1, 4, 42] 1 ⟨.code (sub B39 [1, 0, 1, 4, 1, 3, 1]), [.block 0, .seq (sub B39 pAN5)], [(1, .lp 0 0), (4, .io .i64 kd), (42, .bo (kd == 2))], [([.io .i64 kd, .io .i64 ik, .so (mkB key), .io .i64 ti, .io .i64 v, .io .i64 src, .io .i64 wk2, .io .i64 wks, .io .i64 bit, .io IntKind.u32 mask], 41)]⟩ ?_
 rcases Bool.eq_false_or_eq_true (kd == 2) with b3 | b3
 ·refine zR 42 b3 ?_
  refine zM [45] 0 ⟨pops B39 pAN2 2, [.seq (sub B39 pAN0), .block 0, .seq (sub B39 pAN5)], [(45, .io .i64 wk2)], []⟩ ?_
  refine zC noF_stable 38 [.io .i64 wk2] (.so (mkB (Lib.itoa wk2))) (fun _ _ w1 hi _ => itoa_any wk2 i3 w1 (tab_below htp hi.mem.below rfl)) ?_
  refine zM [46] 0 ⟨pops B39 pAN2 3, [.seq (sub B39 pAN0), .block 0, .seq (sub B39 pAN5)], [(46, .so (mkB (Lib.itoa wk2)))], []⟩ ?_
  refine catX ([112, 105, 99, 107, 32] : List UInt8) (Lib.itoa wk2) (by kernel_rfl) (by simp only [List.length_append, List.length_cons, List.length_nil]; omega) noF_stable ?_
  refine zM [2] 0 ⟨.exit .ret, [], [(2, .so (mkB ([112, 105, 99, 107, 32] ++ Lib.itoa wk2)))], []⟩ ?_
  refine zE (.so (mkB ([112, 105, 99, 107, 32] ++ Lib.itoa wk2))) ?_
  intro ρ w9 hm' hf
  refine ⟨?_, hm'.below⟩
  have hq9 : lineS ⟨kd, ik, key, ti, v, src, wk2, wks, bit, mask⟩ = ([112, 105, 99, 107, 32] ++ Lib.itoa wk2) := by
   unfold lineS
   simp only [beq_iff_eq, bne_iff_ne, ne_eq, beq_eq_false_iff_ne] at *
   simp [*]
  rw [hq9]
  rfl
 refine zR 42 b3 ?_
 refine zM [1, 4, 48] 1 ⟨.code (sub B39 [1, 0, 1, 4, 1, 3, 1, 3, 1]), [.block 0, .seq (sub B39 pAN5)], [(1, .lp 0 0), (4, .io .i64 kd), (48, .bo (kd == 4))], [([.io .i64 kd, .io .i64 ik, .so (mkB key), .io .i64 ti, .io .i64 v, .io .i64 src, .io .i64 wk2, .io .i64 wks, .io .i64 bit, .io IntKind.u32 mask], 41)]⟩ ?_
 rcases Bool.eq_false_or_eq_true (kd == 4) with b4 | b4
 ·refine zR 48 b4 ?_
  refine zM [51] 0 ⟨pops B39 [1, 0, 1, 4, 1, 3, 1, 3, 1, 2, 0] 2, [.seq (sub B39 pAN0), .block 0, .seq (sub B39 pAN5)], [(51, .io .i64 wks)], []⟩ ?_
  refine zC noF_stable 38 [.io .i64 wks] (.so (mkB (Lib.itoa wks))) (fun _ _ w1 hi _ => itoa_any wks i4 w1 (tab_below htp hi.mem.below rfl)) ?_
  refine zM [52] 0 ⟨pops B39 [1, 0, 1, 4, 1, 3, 1, 3, 1, 2, 0] 3, [.seq (sub B39 pAN0), .block 0, .seq (sub B39 pAN5)], [(52, .so (mkB (Lib.itoa wks)))], []⟩ ?_
  refine catX ([114, 101, 115, 116, 111, 114, 101, 32] : List UInt8) (Lib.itoa wks) (by kernel_rfl) (by simp only [List.length_append, List.length_cons, List.length_nil]; omega) noF_stable ?_
  refine zM [2] 0 ⟨.exit .ret, [], [(2, .so (mkB ([114, 101, 115, 116, 111, 114, 101, 32] ++ Lib.itoa wks)))], []⟩ ?_
  refine zE (.so (mkB ([114, 101, 115, 116, 111, 114, 101, 32] ++ Lib.itoa wks))) ?_
  intro ρ w9 hm' hf
  refine ⟨?_, hm'.below⟩
  have hq9 : lineS ⟨kd, ik, key, ti, v, src, wk2, wks, bit, mask⟩ = ([114, 101, 115, 116, 111, 114, 101, 32] ++ Lib.itoa wks) := by
   unfold lineS
   simp only [beq_iff_eq, bne_iff_ne, ne_eq, beq_eq_false_iff_ne] at *
   simp [*]
  rw [hq9]
  rfl
 refine zR 48 b4 ?_
 refine zM [1, 54] 1 ⟨.code (sub B39 [1, 0, 1, 4, 1, 3, 1, 3, 1, 3, 1]), [.block 0, .seq (sub B39 pAN5)], [(1, .lp 0 0), (54, .bo (kd == 5))], [([.io .i64 kd, .io .i64 ik, .so (mkB key), .io .i64 ti, .io .i64 v, .io .i64 src, .io .i64 wk2, .io .i64 wks, .io .i64 bit, .io IntKind.u32 mask], 41)]⟩ ?_
 rcases Bool.eq_false_or_eq_true (kd == 5) with b5 | b5
 ·refine zR 54 b5 ?_
  refine zM [1, 57] 1 ⟨pqops B39 [1, 0, 1, 4, 1, 3, 1, 3, 1, 3, 1, 2, 0] 2, [.seq (sub B39 pAN0), .block 0, .seq (sub B39 pAN5)], [(1, .lp 0 0), (57, .io .i64 bit)], [([.io .i64 kd, .io .i64 ik, .so (mkB key), .io .i64 ti, .io .i64 v, .io .i64 src, .io .i64 wk2, .io .i64 wks, .io .i64 bit, .io IntKind.u32 mask], 41)]⟩ ?_
  refine zC noF_stable 38 [.io .i64 bit] (.so (mkB (Lib.itoa bit))) (fun _ _ w1 hi _ => itoa_any bit i5 w1 (tab_below htp hi.mem.below rfl)) ?_
  refine zM [1, 58] 1 ⟨pqops B39 [1, 0, 1, 4, 1, 3, 1, 3, 1, 3, 1, 2, 0] 3, [.seq (sub B39 pAN0), .block 0, .seq (sub B39 pAN5)], [(1, .lp 0 0), (58, .so (mkB (Lib.itoa bit)))], [([.io .i64 kd, .io .i64 ik, .so (mkB key), .io .i64 ti, .io .i64 v, .io .i64 src, .io .i64 wk2, .io .i64 wks, .io .i64 bit, .io IntKind.u32 mask], 41)]⟩ ?_
  refine catX ([115, 112, 111, 105, 108, 32] : List UInt8) (Lib.itoa bit) (by kernel_rfl) (by simp only [List.length_append, List.length_cons, List.length_nil]; omega) noF_stable ?_
  refine zM [1, 59] 1 ⟨pqops B39 [1, 0, 1, 4, 1, 3, 1, 3, 1, 3, 1, 2, 0] 4, [.seq (sub B39 pAN0), .block 0, .seq (sub B39 pAN5)], [(1, .lp 0 0), (59, .so (mkB ([115, 112, 111, 105, 108, 32] ++ Lib.itoa bit)))], [([.io .i64 kd, .io .i64 ik, .so (mkB key), .io .i64 ti, .io .i64 v, .io .i64 src, .io .i64 wk2, .io .i64 wks, .io .i64 bit, .io IntKind.u32 mask], 41)]⟩ ?_
  refine catX ([115, 112, 111, 105, 108, 32] ++ Lib.itoa bit) ([32] : List UInt8) (by kernel_rfl) (by simp only [List.length_append, List.length_cons, List.length_nil]; omega) noF_stable ?_
  refine zM [60, 63] 0 ⟨pqops B39 [1, 0, 1, 4, 1, 3, 1, 3, 1, 3, 1, 2, 0] 8, [.seq (sub B39 pAN0), .block 0, .seq (sub B39 pAN5)], [(60, .so (mkB ([115, 112, 111, 105, 108, 32] ++ Lib.itoa bit ++ [32]))), (63, .io IntKind.u64 (IntKind.u64.wrap mask))], []⟩ ?_
  refine zC noF_stable 71 [.io IntKind.u64 (IntKind.u64.wrap mask), .v (.int .i64 10)] (.so (mkB (Lib.itoa mask))) (fun _ _ w1 hi _ => fmtM mask i6 w1 (tab_below htp hi.mem.below rfl)) ?_
  refine zM [60, 64] 0 ⟨pqops B39 [1, 0, 1, 4, 1, 3, 1, 3, 1, 3, 1, 2, 0] 9, [.seq (sub B39 pAN0), .block 0, .seq (sub B39 pAN5)], [(60, .so (mkB ([115, 112, 111, 105, 108, 32] ++ Lib.itoa bit ++ [32]))), (64, .so (mkB (Lib.itoa mask)))], []⟩ ?_
  refine catX ([115, 112, 111, 105, 108, 32] ++ Lib.itoa bit ++ [32]) (Lib.itoa mask) (by kernel_rfl) (by simp only [List.length_append, List.length_cons, List.length_nil]; omega) noF_stable ?_
  refine zM [2] 0 ⟨.exit .ret, [], [(2, .so (mkB ([115, 112, 111, 105, 108, 32] ++ Lib.itoa bit ++ [32] ++ Lib.itoa mask)))], []⟩ ?_
  refine zE (.so (mkB ([115, 112, 111, 105, 108, 32] ++ Lib.itoa bit ++ [32] ++ Lib.itoa mask))) ?_
  intro ρ w9 hm' hf
  refine ⟨?_, hm'.below⟩
  have hq9 : lineS ⟨kd, ik, key, ti, v, src, wk2, wks, bit, mask⟩ = ([115, 112, 111, 105, 108, 32] ++ Lib.itoa bit ++ [32] ++ Lib.itoa mask) := by
   unfold lineS
   simp only [beq_iff_eq, bne_iff_ne, ne_eq, beq_eq_false_iff_ne] at *
   simp [*]
  rw [hq9]
  rfl
 refine zR 54 b5 ?_
 refine zM [2] 0 ⟨.exit .ret, [], [(2, .v (.string (ByteArray.mk #[100, 114, 97, 105, 110])))], []⟩ ?_
 refine zE (.v (.string (ByteArray.mk #[100, 114, 97, 105, 110]))) ?_
 intro ρ w9 hm' hf
 refine ⟨?_, hm'.below⟩
 have hq9 : lineS ⟨kd, ik, key, ti, v, src, wk2, wks, bit, mask⟩ = [100, 114, 97, 105, 110] := by
  unfold lineS
  simp only [beq_iff_eq, bne_iff_ne, ne_eq, beq_eq_false_iff_ne] at *
  simp [*]
 rw [hq9]
 rfl
end Go.Proofs.YthfpekhpeiebjaaGreatDoor
end
section
namespace Go.Proofs.YthfpekhpeiebjaaGreatDoor
open Go.RowKit Go.Sx
noncomputable def B48 : Code := (Tryz.f48.body).getD .skip
set_option maxHeartbeats 8000000 in
set_option maxRecDepth 100000 in
theorem rline_go (kd ik : Int) (key : List UInt8) (ti v src wk2 wks bit mask : Int) (hkd : 1 ≤ kd ∧ kd ≤ 5) (hk : key.length ≤ 256) (i0 : in64 ti) (i1 : in64 v) (i2 : in64 src) (i3 : in64 wk2) (i4 : in64 wks) (i5 : in64 bit) (i6 : 0 ≤ mask ∧ mask < 4294967296) (w : World) :
  Calls Tryz.prog 48 #[.agg #[.int .i64 kd, .int .i64 ik, .string (mkB key), .int .i64 ti, .int .i64 v, .int .i64 src, .int .i64 wk2, .int .i64 wks, .int .i64 bit, .int .u32 mask]] w fun e w' => e = .returned (.string (mkB (lineS ⟨kd, ik, key, ti, v, src, wk2, wks, bit, mask⟩))) ∧ Below w.heap.size w w' := by
 have hq0 := quote_short hk
 have hl0 := itoa_short i0
 have hl1 := itoa_short i1
 have hl2 := itoa_short i2
 have hl3 := itoa_short i3
 have hl4 := itoa_short i4
 have hl5 := itoa_short i5
 have hl6 := itoa_short (show in64 mask from ⟨by omega, by omega⟩)
 have hmw : IntKind.i64.wrap mask = mask := wrap63 i6.1 (by omega)
 refine enter (fn := Tryz.f48) (c := B48) [.agg [.io .i64 kd, .io .i64 ik, .so (mkB key), .io .i64 ti, .io .i64 v, .io .i64 src, .io .i64 wk2, .io .i64 wks, .io .i64 bit, .io .u32 mask]] Tryz.func48 rfl rfl ?_
 refine zNq [1, 4, 5] 1 ?_
 rcases Bool.eq_false_or_eq_true (kd == 1) with b0 | b0
 ·refine zR 5 b0 ?_
  refine zN [1, 9, 10] 1 ⟨.code (sub B48 [1, 0, 1, 4, 1, 2, 0, 1, 4, 1]), [.block 1, .seq (sub B48 pAN3), .block 0, .seq (sub B48 pAN5)], [(1, .lp 0 0), (9, .io .i64 ik), (10, .bo (ik == 1))], [([.io .i64 kd, .io .i64 ik, .so (mkB key), .io .i64 ti, .io .i64 v, .io .i64 src, .io .i64 wk2, .io .i64 wks, .io .i64 bit, .io IntKind.u32 mask], 41)]⟩ ?_
  rcases Bool.eq_false_or_eq_true (ik == 1) with b1 | b1
  ·refine zR 10 b1 ?_
   refine zN [1, 14] 1 ⟨pqops B48 [1, 0, 1, 4, 1, 2, 0, 1, 4, 1, 2, 0] 3, [.seq (sub B48 pAN0), .block 1, .seq (sub B48 pAN3), .block 0, .seq (sub B48 pAN5)], [(1, .lp 0 0), (14, .so (mkB key))], [([.io .i64 kd, .io .i64 ik, .so (mkB key), .io .i64 ti, .io .i64 v, .io .i64 src, .io .i64 wk2, .io .i64 wks, .io .i64 bit, .io IntKind.u32 mask], 41)]⟩ ?_
   refine zC noF_stable 20 [.so (mkB key)] (.so (mkB (quoteB key))) (fun _ _ w1 _ _ => rquote_any key (by omega) w1) ?_
   refine zN [1, 15] 1 ⟨pqops B48 [1, 0, 1, 4, 1, 2, 0, 1, 4, 1, 2, 0] 4, [.seq (sub B48 pAN0), .block 1, .seq (sub B48 pAN3), .block 0, .seq (sub B48 pAN5)], [(1, .lp 0 0), (15, .so (mkB (quoteB key)))], [([.io .i64 kd, .io .i64 ik, .so (mkB key), .io .i64 ti, .io .i64 v, .io .i64 src, .io .i64 wk2, .io .i64 wks, .io .i64 bit, .io IntKind.u32 mask], 41)]⟩ ?_
   refine catX ([101, 118, 101, 110, 116, 32] : List UInt8) (quoteB key) (by kernel_rfl) (by simp only [List.length_append, List.length_cons, List.length_nil]; omega) noF_stable ?_
   refine zN [1, 16] 1 ⟨pqops B48 [1, 0, 1, 4, 1, 2, 0, 1, 4, 1, 2, 0] 5, [.seq (sub B48 pAN0), .block 1, .seq (sub B48 pAN3), .block 0, .seq (sub B48 pAN5)], [(1, .lp 0 0), (16, .so (mkB ([101, 118, 101, 110, 116, 32] ++ quoteB key)))], [([.io .i64 kd, .io .i64 ik, .so (mkB key), .io .i64 ti, .io .i64 v, .io .i64 src, .io .i64 wk2, .io .i64 wks, .io .i64 bit, .io IntKind.u32 mask], 41)]⟩ ?_
   refine catX ([101, 118, 101, 110, 116, 32] ++ quoteB key) ([32] : List UInt8) (by kernel_rfl) (by simp only [List.length_append, List.length_cons, List.length_nil]; omega) noF_stable ?_
   refine zN [1, 17, 20] 1 ⟨pqops B48 [1, 0, 1, 4, 1, 2, 0, 1, 4, 1, 2, 0] 9, [.seq (sub B48 pAN0), .block 1, .seq (sub B48 pAN3), .block 0, .seq (sub B48 pAN5)], [(1, .lp 0 0), (17, .so (mkB ([101, 118, 101, 110, 116, 32] ++ quoteB key ++ [32]))), (20, .io .i64 ti)], [([.io .i64 kd, .io .i64 ik, .so (mkB key), .io .i64 ti, .io .i64 v, .io .i64 src, .io .i64 wk2, .io .i64 wks, .io .i64 bit, .io IntKind.u32 mask], 41)]⟩ ?_
   refine zC noF_stable 47 [.io .i64 ti] (.so (mkB (Lib.itoa ti))) (fun _ _ w1 hi _ => rdigits_any ti i0 w1) ?_
   refine zN [1, 17, 21] 1 ⟨pqops B48 [1, 0, 1, 4, 1, 2, 0, 1, 4, 1, 2, 0] 10, [.seq (sub B48 pAN0), .block 1, .seq (sub B48 pAN3), .block 0, .seq (sub B48 pAN5)], [(1, .lp 0 0), (17, .so (mkB ([101, 118, 101, 110, 116, 32] ++ quoteB key ++ [32]))), (21, .so (mkB (Lib.itoa ti)))], [([.io .i64 kd, .io .i64 ik, .so (mkB key), .io .i64 ti, .io .i64 v, .io .i64 src, .io .i64 wk2, .io .i64 wks, .io .i64 bit, .io IntKind.u32 mask], 41)]⟩ ?_
   refine catX ([101, 118, 101, 110, 116, 32] ++ quoteB key ++ [32]) (Lib.itoa ti) (by kernel_rfl) (by simp only [List.length_append, List.length_cons, List.length_nil]; omega) noF_stable ?_
   refine zN [1, 22] 1 ⟨pqops B48 [1, 0, 1, 4, 1, 2, 0, 1, 4, 1, 2, 0] 11, [.seq (sub B48 pAN0), .block 1, .seq (sub B48 pAN3), .block 0, .seq (sub B48 pAN5)], [(1, .lp 0 0), (22, .so (mkB ([101, 118, 101, 110, 116, 32] ++ quoteB key ++ [32] ++ Lib.itoa ti)))], [([.io .i64 kd, .io .i64 ik, .so (mkB key), .io .i64 ti, .io .i64 v, .io .i64 src, .io .i64 wk2, .io .i64 wks, .io .i64 bit, .io IntKind.u32 mask], 41)]⟩ ?_
   refine catX ([101, 118, 101, 110, 116, 32] ++ quoteB key ++ [32] ++ Lib.itoa ti) ([32] : List UInt8) (by kernel_rfl) (by simp only [List.length_append, List.length_cons, List.length_nil]; omega) noF_stable ?_
   refine zN [23, 26] 0 ⟨pqops B48 [1, 0, 1, 4, 1, 2, 0, 1, 4, 1, 2, 0] 15, [.seq (sub B48 pAN0), .block 1, .seq (sub B48 pAN3), .block 0, .seq (sub B48 pAN5)], [(23, .so (mkB ([101, 118, 101, 110, 116, 32] ++ quoteB key ++ [32] ++ Lib.itoa ti ++ [32]))), (26, .io .i64 v)], []⟩ ?_
   refine zC noF_stable 47 [.io .i64 v] (.so (mkB (Lib.itoa v))) (fun _ _ w1 hi _ => rdigits_any v i1 w1) ?_
   refine zN [23, 27] 0 ⟨pqops B48 [1, 0, 1, 4, 1, 2, 0, 1, 4, 1, 2, 0] 16, [.seq (sub B48 pAN0), .block 1, .seq (sub B48 pAN3), .block 0, .seq (sub B48 pAN5)], [(23, .so (mkB ([101, 118, 101, 110, 116, 32] ++ quoteB key ++ [32] ++ Lib.itoa ti ++ [32]))), (27, .so (mkB (Lib.itoa v)))], []⟩ ?_
   refine catX ([101, 118, 101, 110, 116, 32] ++ quoteB key ++ [32] ++ Lib.itoa ti ++ [32]) (Lib.itoa v) (by kernel_rfl) (by simp only [List.length_append, List.length_cons, List.length_nil]; omega) noF_stable ?_
   refine zN [2] 0 ⟨.exit .ret, [], [(2, .so (mkB ([101, 118, 101, 110, 116, 32] ++ quoteB key ++ [32] ++ Lib.itoa ti ++ [32] ++ Lib.itoa v)))], []⟩ ?_
   refine zE (.so (mkB ([101, 118, 101, 110, 116, 32] ++ quoteB key ++ [32] ++ Lib.itoa ti ++ [32] ++ Lib.itoa v))) ?_
   intro ρ w9 hm' hf
   refine ⟨?_, hm'.below⟩
   have hq9 : lineS ⟨kd, ik, key, ti, v, src, wk2, wks, bit, mask⟩ = ([101, 118, 101, 110, 116, 32] ++ quoteB key ++ [32] ++ Lib.itoa ti ++ [32] ++ Lib.itoa v) := by
    unfold lineS
    simp only [beq_iff_eq, bne_iff_ne, ne_eq, beq_eq_false_iff_ne] at *
    first | (simp [*]; done) | (obtain rfl : kd = 5 := (by omega); rfl)
   rw [hq9]
   rfl
  refine zR 10 b1 ?_
  refine zNq [1, 29] 1 ?_
  rcases Bool.eq_false_or_eq_true (ik == 2) with b2 | b2
  ·refine zR 29 b2 ?_
   refine zN [1, 33] 1 ⟨pqops B48 [1, 0, 1, 4, 1, 2, 0, 1, 4, 1, 3, 1, 2, 0] 3, [.seq (sub B48 pAN0), .block 1, .seq (sub B48 pAN3), .block 0, .seq (sub B48 pAN5)], [(1, .lp 0 0), (33, .io .i64 src)], [([.io .i64 kd, .io .i64 ik, .so (mkB key), .io .i64 ti, .io .i64 v, .io .i64 src, .io .i64 wk2, .io .i64 wks, .io .i64 bit, .io IntKind.u32 mask], 41)]⟩ ?_
   refine zC noF_stable 47 [.io .i64 src] (.so (mkB (Lib.itoa src))) (fun _ _ w1 hi _ => rdigits_any src i2 w1) ?_
   refine zN [1, 34] 1 ⟨pqops B48 [1, 0, 1, 4, 1, 2, 0, 1, 4, 1, 3, 1, 2, 0] 4, [.seq (sub B48 pAN0), .block 1, .seq (sub B48 pAN3), .block 0, .seq (sub B48 pAN5)], [(1, .lp 0 0), (34, .so (mkB (Lib.itoa src)))], [([.io .i64 kd, .io .i64 ik, .so (mkB key), .io .i64 ti, .io .i64 v, .io .i64 src, .io .i64 wk2, .io .i64 wks, .io .i64 bit, .io IntKind.u32 mask], 41)]⟩ ?_
   refine catX ([109, 97, 114, 107, 32] : List UInt8) (Lib.itoa src) (by kernel_rfl) (by simp only [List.length_append, List.length_cons, List.length_nil]; omega) noF_stable ?_
   refine zN [1, 35] 1 ⟨pqops B48 [1, 0, 1, 4, 1, 2, 0, 1, 4, 1, 3, 1, 2, 0] 5, [.seq (sub B48 pAN0), .block 1, .seq (sub B48 pAN3), .block 0, .seq (sub B48 pAN5)], [(1, .lp 0 0), (35, .so (mkB ([109, 97, 114, 107, 32] ++ Lib.itoa src)))], [([.io .i64 kd, .io .i64 ik, .so (mkB key), .io .i64 ti, .io .i64 v, .io .i64 src, .io .i64 wk2, .io .i64 wks, .io .i64 bit, .io IntKind.u32 mask], 41)]⟩ ?_
   refine catX ([109, 97, 114, 107, 32] ++ Lib.itoa src) ([32] : List UInt8) (by kernel_rfl) (by simp only [List.length_append, List.length_cons, List.length_nil]; omega) noF_stable ?_
   refine zN [36, 39] 0 ⟨pqops B48 [1, 0, 1, 4, 1, 2, 0, 1, 4, 1, 3, 1, 2, 0] 9, [.seq (sub B48 pAN0), .block 1, .seq (sub B48 pAN3), .block 0, .seq (sub B48 pAN5)], [(36, .so (mkB ([109, 97, 114, 107, 32] ++ Lib.itoa src ++ [32]))), (39, .io .i64 ti)], []⟩ ?_
   refine zC noF_stable 47 [.io .i64 ti] (.so (mkB (Lib.itoa ti))) (fun _ _ w1 hi _ => rdigits_any ti i0 w1) ?_
   refine zN [36, 40] 0 ⟨pqops B48 [1, 0, 1, 4, 1, 2, 0, 1, 4, 1, 3, 1, 2, 0] 10, [.seq (sub B48 pAN0), .block 1, .seq (sub B48 pAN3), .block 0, .seq (sub B48 pAN5)], [(36, .so (mkB ([109, 97, 114, 107, 32] ++ Lib.itoa src ++ [32]))), (40, .so (mkB (Lib.itoa ti)))], []⟩ ?_
   refine catX ([109, 97, 114, 107, 32] ++ Lib.itoa src ++ [32]) (Lib.itoa ti) (by kernel_rfl) (by simp only [List.length_append, List.length_cons, List.length_nil]; omega) noF_stable ?_
   refine zN [2] 0 ⟨.exit .ret, [], [(2, .so (mkB ([109, 97, 114, 107, 32] ++ Lib.itoa src ++ [32] ++ Lib.itoa ti)))], []⟩ ?_
   refine zE (.so (mkB ([109, 97, 114, 107, 32] ++ Lib.itoa src ++ [32] ++ Lib.itoa ti))) ?_
   intro ρ w9 hm' hf
   refine ⟨?_, hm'.below⟩
   have hq9 : lineS ⟨kd, ik, key, ti, v, src, wk2, wks, bit, mask⟩ = ([109, 97, 114, 107, 32] ++ Lib.itoa src ++ [32] ++ Lib.itoa ti) := by
    unfold lineS
    simp only [beq_iff_eq, bne_iff_ne, ne_eq, beq_eq_false_iff_ne] at *
    first | (simp [*]; done) | (obtain rfl : kd = 5 := (by omega); rfl)
   rw [hq9]
   rfl
  refine zR 29 b2 ?_
  refine zN [2] 0 ⟨.exit .ret, [], [(2, .v (.string (ByteArray.mk #[115, 97, 118, 101])))], []⟩ ?_
  refine zE (.v (.string (ByteArray.mk #[115, 97, 118, 101]))) ?_
  intro ρ w9 hm' hf
  refine ⟨?_, hm'.below⟩
  have hq9 : lineS ⟨kd, ik, key, ti, v, src, wk2, wks, bit, mask⟩ = [115, 97, 118, 101] := by
   unfold lineS
   simp only [beq_iff_eq, bne_iff_ne, ne_eq, beq_eq_false_iff_ne] at *
   first | (simp [*]; done) | (obtain rfl : kd = 5 := (by omega); rfl)
  rw [hq9]
  rfl
 refine zR 5 b0 ?_
 refine zN [1, 4, 42] 1 ⟨.code (sub B48 [1, 0, 1, 4, 1, 3, 1]), [.block 0, .seq (sub B48 pAN5)], [(1, .lp 0 0), (4, .io .i64 kd), (42, .bo (kd == 2))], [([.io .i64 kd, .io .i64 ik, .so (mkB key), .io .i64 ti, .io .i64 v, .io .i64 src, .io .i64 wk2, .io .i64 wks, .io .i64 bit, .io IntKind.u32 mask], 41)]⟩ ?_
 rcases Bool.eq_false_or_eq_true (kd == 2) with b3 | b3
 ·refine zR 42 b3 ?_
  refine zN [45] 0 ⟨pops B48 pAN2 2, [.seq (sub B48 pAN0), .block 0, .seq (sub B48 pAN5)], [(45, .io .i64 wk2)], []⟩ ?_
  refine zC noF_stable 47 [.io .i64 wk2] (.so (mkB (Lib.itoa wk2))) (fun _ _ w1 hi _ => rdigits_any wk2 i3 w1) ?_
  refine zN [46] 0 ⟨pops B48 pAN2 3, [.seq (sub B48 pAN0), .block 0, .seq (sub B48 pAN5)], [(46, .so (mkB (Lib.itoa wk2)))], []⟩ ?_
  refine catX ([112, 105, 99, 107, 32] : List UInt8) (Lib.itoa wk2) (by kernel_rfl) (by simp only [List.length_append, List.length_cons, List.length_nil]; omega) noF_stable ?_
  refine zN [2] 0 ⟨.exit .ret, [], [(2, .so (mkB ([112, 105, 99, 107, 32] ++ Lib.itoa wk2)))], []⟩ ?_
  refine zE (.so (mkB ([112, 105, 99, 107, 32] ++ Lib.itoa wk2))) ?_
  intro ρ w9 hm' hf
  refine ⟨?_, hm'.below⟩
  have hq9 : lineS ⟨kd, ik, key, ti, v, src, wk2, wks, bit, mask⟩ = ([112, 105, 99, 107, 32] ++ Lib.itoa wk2) := by
   unfold lineS
   simp only [beq_iff_eq, bne_iff_ne, ne_eq, beq_eq_false_iff_ne] at *
   first | (simp [*]; done) | (obtain rfl : kd = 5 := (by omega); rfl)
  rw [hq9]
  rfl
 refine zR 42 b3 ?_
 refine zNq [1, 4, 48] 1 ?_
 rcases Bool.eq_false_or_eq_true (kd == 3) with b4 | b4
 ·refine zR 48 b4 ?_
  refine zN [2] 0 ⟨.exit .ret, [], [(2, .v (.string (ByteArray.mk #[100, 114, 97, 105, 110])))], []⟩ ?_
  refine zE (.v (.string (ByteArray.mk #[100, 114, 97, 105, 110]))) ?_
  intro ρ w9 hm' hf
  refine ⟨?_, hm'.below⟩
  have hq9 : lineS ⟨kd, ik, key, ti, v, src, wk2, wks, bit, mask⟩ = [100, 114, 97, 105, 110] := by
   unfold lineS
   simp only [beq_iff_eq, bne_iff_ne, ne_eq, beq_eq_false_iff_ne] at *
   first | (simp [*]; done) | (obtain rfl : kd = 5 := (by omega); rfl)
  rw [hq9]
  rfl
 refine zR 48 b4 ?_
 refine zN [1, 50] 1 ⟨.code (sub B48 [1, 0, 1, 4, 1, 3, 1, 3, 1, 3, 1]), [.block 0, .seq (sub B48 pAN5)], [(1, .lp 0 0), (50, .bo (kd == 4))], [([.io .i64 kd, .io .i64 ik, .so (mkB key), .io .i64 ti, .io .i64 v, .io .i64 src, .io .i64 wk2, .io .i64 wks, .io .i64 bit, .io IntKind.u32 mask], 41)]⟩ ?_
 rcases Bool.eq_false_or_eq_true (kd == 4) with b5 | b5
 ·refine zR 50 b5 ?_
  refine zN [53] 0 ⟨pops B48 [1, 0, 1, 4, 1, 3, 1, 3, 1, 3, 1, 2, 0] 2, [.seq (sub B48 pAN0), .block 0, .seq (sub B48 pAN5)], [(53, .io .i64 wks)], []⟩ ?_
  refine zC noF_stable 47 [.io .i64 wks] (.so (mkB (Lib.itoa wks))) (fun _ _ w1 hi _ => rdigits_any wks i4 w1) ?_
  refine zN [54] 0 ⟨pops B48 [1, 0, 1, 4, 1, 3, 1, 3, 1, 3, 1, 2, 0] 3, [.seq (sub B48 pAN0), .block 0, .seq (sub B48 pAN5)], [(54, .so (mkB (Lib.itoa wks)))], []⟩ ?_
  refine catX ([114, 101, 115, 116, 111, 114, 101, 32] : List UInt8) (Lib.itoa wks) (by kernel_rfl) (by simp only [List.length_append, List.length_cons, List.length_nil]; omega) noF_stable ?_
  refine zN [2] 0 ⟨.exit .ret, [], [(2, .so (mkB ([114, 101, 115, 116, 111, 114, 101, 32] ++ Lib.itoa wks)))], []⟩ ?_
  refine zE (.so (mkB ([114, 101, 115, 116, 111, 114, 101, 32] ++ Lib.itoa wks))) ?_
  intro ρ w9 hm' hf
  refine ⟨?_, hm'.below⟩
  have hq9 : lineS ⟨kd, ik, key, ti, v, src, wk2, wks, bit, mask⟩ = ([114, 101, 115, 116, 111, 114, 101, 32] ++ Lib.itoa wks) := by
   unfold lineS
   simp only [beq_iff_eq, bne_iff_ne, ne_eq, beq_eq_false_iff_ne] at *
   first | (simp [*]; done) | (obtain rfl : kd = 5 := (by omega); rfl)
  rw [hq9]
  rfl
 refine zR 50 b5 ?_
 refine zN [1, 57] 1 ⟨pqops B48 [1, 1, 0] 2, [.seq (sub B48 pAN0)], [(1, .lp 0 0), (57, .io .i64 bit)], [([.io .i64 kd, .io .i64 ik, .so (mkB key), .io .i64 ti, .io .i64 v, .io .i64 src, .io .i64 wk2, .io .i64 wks, .io .i64 bit, .io IntKind.u32 mask], 41)]⟩ ?_
 refine zC noF_stable 47 [.io .i64 bit] (.so (mkB (Lib.itoa bit))) (fun _ _ w1 hi _ => rdigits_any bit i5 w1) ?_
 refine zN [1, 58] 1 ⟨pqops B48 [1, 1, 0] 3, [.seq (sub B48 pAN0)], [(1, .lp 0 0), (58, .so (mkB (Lib.itoa bit)))], [([.io .i64 kd, .io .i64 ik, .so (mkB key), .io .i64 ti, .io .i64 v, .io .i64 src, .io .i64 wk2, .io .i64 wks, .io .i64 bit, .io IntKind.u32 mask], 41)]⟩ ?_
 refine catX ([115, 112, 111, 105, 108, 32] : List UInt8) (Lib.itoa bit) (by kernel_rfl) (by simp only [List.length_append, List.length_cons, List.length_nil]; omega) noF_stable ?_
 refine zN [1, 59] 1 ⟨pqops B48 [1, 1, 0] 4, [.seq (sub B48 pAN0)], [(1, .lp 0 0), (59, .so (mkB ([115, 112, 111, 105, 108, 32] ++ Lib.itoa bit)))], [([.io .i64 kd, .io .i64 ik, .so (mkB key), .io .i64 ti, .io .i64 v, .io .i64 src, .io .i64 wk2, .io .i64 wks, .io .i64 bit, .io IntKind.u32 mask], 41)]⟩ ?_
 refine catX ([115, 112, 111, 105, 108, 32] ++ Lib.itoa bit) ([32] : List UInt8) (by kernel_rfl) (by simp only [List.length_append, List.length_cons, List.length_nil]; omega) noF_stable ?_
 refine zN [60, 63] 0 ⟨pqops B48 [1, 1, 0] 8, [.seq (sub B48 pAN0)], [(60, .so (mkB ([115, 112, 111, 105, 108, 32] ++ Lib.itoa bit ++ [32]))), (63, .io .i64 (IntKind.i64.wrap mask))], []⟩ ?_
 rw [hmw]
 refine zC noF_stable 47 [.io .i64 mask] (.so (mkB (Lib.itoa mask))) (fun _ _ w1 hi _ => rdigits_any mask ⟨by omega, by omega⟩ w1) ?_
 refine zN [60, 64] 0 ⟨pqops B48 [1, 1, 0] 9, [.seq (sub B48 pAN0)], [(60, .so (mkB ([115, 112, 111, 105, 108, 32] ++ Lib.itoa bit ++ [32]))), (64, .so (mkB (Lib.itoa mask)))], []⟩ ?_
 refine catX ([115, 112, 111, 105, 108, 32] ++ Lib.itoa bit ++ [32]) (Lib.itoa mask) (by kernel_rfl) (by simp only [List.length_append, List.length_cons, List.length_nil]; omega) noF_stable ?_
 refine zN [2] 0 ⟨.exit .ret, [], [(2, .so (mkB ([115, 112, 111, 105, 108, 32] ++ Lib.itoa bit ++ [32] ++ Lib.itoa mask)))], []⟩ ?_
 refine zE (.so (mkB ([115, 112, 111, 105, 108, 32] ++ Lib.itoa bit ++ [32] ++ Lib.itoa mask))) ?_
 intro ρ w9 hm' hf
 refine ⟨?_, hm'.below⟩
 have hq9 : lineS ⟨kd, ik, key, ti, v, src, wk2, wks, bit, mask⟩ = ([115, 112, 111, 105, 108, 32] ++ Lib.itoa bit ++ [32] ++ Lib.itoa mask) := by
  unfold lineS
  simp only [beq_iff_eq, bne_iff_ne, ne_eq, beq_eq_false_iff_ne] at *
  first | (simp [*]; done) | (obtain rfl : kd = 5 := (by omega); rfl)
 rw [hq9]
 rfl
end Go.Proofs.YthfpekhpeiebjaaGreatDoor
end
section
/-! In a region that draws its order: an operation that looks at memory, taken ahead of those that leave what was there as it was. -/
namespace Go.Sx
open Go.RowKit
section
variable {P : Program} {Q : Exit → Act → World → Prop} {N : Nat} {w0 : World} {ntm : Nat} {F : List Nat → World → Prop}
theorem run_buildSlice_ok {t : TypeId} {len : Nat} {parts : Array (Nat × Value)} {v : Value} {w w' : World} (h : (Instr.buildSlice t len parts).run P w = .ok v w') : ∃ o, w' = w.alloc o := by
 unfold Instr.buildSlice at h
 cases hu : P.underlying t with
 | none => simp [underlying, hu, Result.andThen] at h
 | some d =>
  cases d
  case slice e =>
   cases hi : P.info? e with
   | none => simp [run_underlying hu, sizeOf, typeInfo, hi, Result.andThen] at h
   | some i =>
    simp only [Sem.run_bind, run_underlying hu, sizeOf, typeInfo, run_program, hi, Result.andThen_ok, Sem.run_pure] at h
    by_cases hbig : len * i.size > 2 ^ 24
    ·rw [if_pos hbig] at h
     simp [Result.andThen] at h
    rw [if_neg hbig] at h
    by_cases h0 : len * i.size = 0
    ·rw [if_pos h0] at h
     simp only [Sem.run_bind, Sem.run_pure, Result.andThen_ok] at h
     split at h
     ·simp [newRow, Result.andThen] at h
      exact ⟨_, h.2.symm⟩
     simp [Result.andThen] at h
    rw [if_neg h0] at h
    cases hz : i.zero with
    | none => simp [zeroValue, typeInfo, run_program, hi, hz, Result.andThen] at h
    | some z =>
     simp only [Sem.run_bind, zeroValue, typeInfo, run_program, hi, hz, Sem.run_pure, Result.andThen_ok] at h
     split at h
     ·simp [newRow, Result.andThen] at h
      exact ⟨_, h.2.symm⟩
     simp [Result.andThen] at h
  all_goals simp [run_underlying hu, Result.andThen] at h
def hangs (all : Array Oper) (L : Array Bool) (i : Nat) (ds : List Nat) : Bool := ds.all fun k => !L.getD k true && (match all[k]? with
 | some o => o.after.toList.any fun e => Region.binds .any e && (Nat.beq e.on i || ds.contains e.on)
 | none => false)
def isBS (o : Oper) : Bool := match o.op with
 | .buildSlice .. => true
 | _ => false
theorem isBS_run {o : Oper} {a : Act} {w w' : World} {n : Go.Next} (h : isBS o = true) (hr : (execOp a.eval o).run P w = .ok n w') : ∃ v ob, n = .value v ∧ w' = w.alloc ob := by
 obtain ⟨dst, op, ty, pos, after, guard⟩ := o
 cases op <;> simp only [isBS] at h <;> try (cases h; done)
 rename_i t len parts
 simp only [execOp, Sem.run_bind] at hr
 generalize hq : (Instr.buildSlice t len (parts.map fun x => (x.1, a.eval x.2))).run P w = q at hr
 cases q with
 | halt x y => simp [Result.andThen] at hr
 | ok v y =>
  simp only [Result.andThen_ok, Sem.run_pure, Result.ok.injEq] at hr
  obtain ⟨rfl, rfl⟩ := hr
  obtain ⟨ob, rfl⟩ := run_buildSlice_ok hq
  exact ⟨v, ob, rfl, rfl⟩
def benign (P : Program) (sub : Fr) (loc : Loc) (o : Oper) : Bool := isBS o || (pureOp P loc sub o.op).isSome
theorem WInv.later {ρ : List Nat} {loc : Loc} {w w' : World} (h : WInv N w0 ρ loc w) (hb : Below w.heap.size w w') : WInv N w0 ρ loc w' :=
 ⟨h.below.trans ⟨hb.os, hb.tape, hb.output, hb.size, fun k hk => hb.block k (Nat.lt_of_lt_of_le hk h.hN)⟩, Nat.le_trans h.hN hb.size, h.len, h.nodup, fun b hm => ⟨(h.ge b hm).1, Nat.lt_of_lt_of_le (h.ge b hm).2 hb.size⟩, fun i c t hi => by
  have := h.cells i c t hi
  rw [hb.block _ (Array.getElem?_eq_some_iff.1 this).1]
  exact this⟩
def restFr (s : S) : Fr := match s.pc with
 | .any all _ dn => drops ((unl all (listedOf all.size dn)).filterMap (·.dst)) s.fr
 | _ => []
end
end Go.Sx
end
section
/-! A region that draws its order: each operation's value by itself, whatever went before. -/
namespace Go.Sx
open Go.RowKit
inductive Kn where
 | eq (s : SV)
 | ex (X : Type) (r : X → SV) (G : X → List Nat → World → Prop)
def Kn.ok : Kn → List Nat → World → Value → Prop
 | .eq s, ρ, _, v => v = s.den ρ
 | .ex _ r G, ρ, w, v => ∃ x, v = (r x).den ρ ∧ G x ρ w
def Kn.St : Kn → Prop
 | .eq _ => True
 | .ex _ _ G => ∀ x, Stable (G x)
theorem Kn.ok.keep {k : Kn} (hs : k.St) {ρ : List Nat} {w w' : World} {v : Value} (h : k.ok ρ w v) (hb : Below w.heap.size w w') : k.ok ρ w' v := by
 cases k with
 | eq s => exact h
 | ex X r G =>
  obtain ⟨x, hx, hg⟩ := h
  exact ⟨x, hx, hs x ρ w ρ w' (Grow.refl _ _) (Keep.of_below hb) hg⟩
def knOf : List (Nat × Kn) → Nat → Option Kn
 | [], _ => none
 | (k, s) :: l, t => match Nat.beq k t with | true => some s | false => knOf l t
def Done (all : Array Oper) (L0 : Array Bool) (kn : List (Nat × Kn)) (ρ : List Nat) (L : Array Bool) (a : Act) (w : World) : Prop :=
 ∀ i o t k, all[i]? = some o → L0.getD i true = false → L.getD i true = true → o.dst = some t → knOf kn i = some k → ∃ v, a.tmps[t]? = some v ∧ k.ok ρ w v
def eqFr (all : Array Oper) (L0 : Array Bool) (kn : List (Nat × Kn)) : List Nat → Fr → Fr
 | [], fr => fr
 | i :: l, fr => match L0.getD i true, all[i]?, knOf kn i with
  | false, some ⟨some t, _, _, _, _, _⟩, some (.eq s) => (t, s) :: eqFr all L0 kn l fr
  | _, _, _ => eqFr all L0 kn l fr
def onsOf (o : Oper) : List Nat := (o.after.toList.filter (Region.binds .any)).map (·.on)
theorem AInv.moreK {ntm : Nat} {ρ : List Nat} {fr : Fr} {a : Act} (h : AInv ntm ρ fr a) {t : Nat} {s : SV} (hs : a.tmps[t]? = some (s.den ρ)) : AInv ntm ρ ((t, s) :: fr) a := by
 refine ⟨h.defers, h.size, fun t' s' hl => ?_⟩
 simp only [look] at hl
 split at hl
 ·rename_i e
  have e := Nat.eq_of_beq_eq_true e
  subst e
  simp only [Option.some.injEq] at hl
  subst hl
  exact hs
 exact h.slot t' s' hl
theorem Done.fr {all : Array Oper} {L0 L : Array Bool} {kn : List (Nat × Kn)} {ρ : List Nat} {a : Act} {w : World} {ntm : Nat} {fr : Fr} (hd : Done all L0 kn ρ L a w) (ha : AInv ntm ρ fr a) : ∀ (l : List Nat), (∀ i ∈ l, L0.getD i true = false → L.getD i true = true) → AInv ntm ρ (eqFr all L0 kn l fr) a
 | [], _ => ha
 | i :: l, hl => by
  have ih := hd.fr ha l fun j hj => hl j (List.mem_cons_of_mem _ hj)
  unfold eqFr
  split
  ·rename_i h1 t op ty pos af g s h2 h3 h4
   obtain ⟨v, hv, hk⟩ := hd i _ t _ h3 h2 (hl i (List.mem_cons_self ..) h2) rfl h4
   exact ih.moreK (by rw [hv]; exact congrArg some hk)
  exact ih
section
variable {P : Program} {Q : Exit → Act → World → Prop} {N : Nat} {w0 : World} {ntm : Nat} {F : List Nat → World → Prop}
def StepK (P : Program) (N : Nat) (w0 : World) (ntm : Nat) (F : List Nat → World → Prop) (all : Array Oper) (L0 : Array Bool) (kn : List (Nat × Kn)) (fr0 : Fr) (loc : Loc) (i : Nat) : Prop :=
 ∀ o k, all[i]? = some o → knOf kn i = some k → ∀ ρ L a w, AInv ntm ρ (eqFr all L0 kn (onsOf o) fr0) a → Done all L0 kn ρ L a w → (∀ j ∈ onsOf o, L.getD j true = true) → WInv N w0 ρ loc w → F ρ w →
  Region.wanted o (yielded all a.tmps) = true ∧ o.wp P a w (fun a' w' => ∃ v, a' = a.put o.dst v ∧ k.ok ρ w' v ∧ Below w.heap.size w w') (fun _ _ _ => False)
def pureK (P : Program) (all : Array Oper) (L0 : Array Bool) (kn : List (Nat × Kn)) (fr0 : Fr) (loc : Loc) (i : Nat) : Option SV :=
 match all[i]? with
 | some o => match guardS all (eqFr all L0 kn (onsOf o) fr0) o with
  | some true => pureOp P loc (eqFr all L0 kn (onsOf o) fr0) o.op
  | _ => none
 | none => none
theorem StepK.pure {all : Array Oper} {L0 : Array Bool} {kn : List (Nat × Kn)} {fr0 : Fr} {loc : Loc} {i : Nat} {s : SV} (hs : pureK P all L0 kn fr0 loc i = some s) (hk : knOf kn i = some (.eq s)) : StepK P N w0 ntm F all L0 kn fr0 loc i := by
 intro o k ho hk' ρ L a w ha hd hl hw hf
 rw [hk] at hk'
 simp only [Option.some.injEq] at hk'
 subst hk'
 unfold pureK at hs
 simp only [ho] at hs
 split at hs
 ·rename_i hg
  refine ⟨guardS_ok ha hg, ?_⟩
  unfold Oper.wp
  rw [run_pureOp (N := N) (w0 := w0) ha (fun _ => hw) hs]
  exact ⟨_, rfl, rfl, Below.refl _ _⟩
 cases hs
def atK (all : Array Oper) (L0 : Array Bool) (kn : List (Nat × Kn)) (fr0 : Fr) (i : Nat) : Option (Oper × Fr) :=
 match all[i]? with
 | some o => match guardS all (eqFr all L0 kn (onsOf o) fr0) o with
  | some true => some (o, eqFr all L0 kn (onsOf o) fr0)
  | _ => none
 | none => none
theorem StepK.run {all : Array Oper} {L0 : Array Bool} {kn : List (Nat × Kn)} {fr0 fr : Fr} {loc : Loc} {i : Nat} {o : Oper} {s : SV} (ho : atK all L0 kn fr0 i = some (o, fr)) (hk : knOf kn i = some (.eq s))
  (hr : ∀ ρ a w, AInv ntm ρ fr a → WInv N w0 ρ loc w → F ρ w → (execOp a.eval o).run P w = .ok (.value (s.den ρ)) w) : StepK P N w0 ntm F all L0 kn fr0 loc i := by
 intro o' k ho' hk' ρ L a w ha hd hl hw hf
 rw [hk] at hk'
 simp only [Option.some.injEq] at hk'
 subst hk'
 unfold atK at ho
 simp only [ho'] at ho
 split at ho
 ·rename_i hg
  simp only [Option.some.injEq, Prod.mk.injEq] at ho
  obtain ⟨rfl, rfl⟩ := ho
  refine ⟨guardS_ok ha hg, ?_⟩
  unfold Oper.wp
  rw [hr ρ a w ha hw hf]
  exact ⟨_, rfl, rfl, Below.refl _ _⟩
 cases ho
def exAt (all : Array Oper) (L0 : Array Bool) (i j : Nat) : Option Nat :=
 match all[i]?, all[j]?, L0.getD j true with
 | some o, some oj, false => match (onsOf o).contains j with
  | true => oj.dst
  | false => none
 | _, _, _ => none
theorem StepK.runX {all : Array Oper} {L0 : Array Bool} {kn : List (Nat × Kn)} {fr0 fr : Fr} {loc : Loc} {i : Nat} {o : Oper} {s : SV} {X : Type} {r : X → SV} {G : X → List Nat → World → Prop} (j t : Nat) (ho : atK all L0 kn fr0 i = some (o, fr)) (hk : knOf kn i = some (.eq s)) (hj : exAt all L0 i j = some t) (hkj : knOf kn j = some (.ex X r G))
  (hr : ∀ x ρ a w, AInv ntm ρ ((t, r x) :: fr) a → WInv N w0 ρ loc w → F ρ w → G x ρ w → (execOp a.eval o).run P w = .ok (.value (s.den ρ)) w) : StepK P N w0 ntm F all L0 kn fr0 loc i := by
 intro o' k ho' hk' ρ L a w ha hd hl hw hf
 rw [hk] at hk'
 simp only [Option.some.injEq] at hk'
 subst hk'
 unfold atK at ho
 simp only [ho'] at ho
 split at ho
 ·rename_i hg
  simp only [Option.some.injEq, Prod.mk.injEq] at ho
  obtain ⟨rfl, rfl⟩ := ho
  refine ⟨guardS_ok ha hg, ?_⟩
  unfold exAt at hj
  split at hj
  ·rename_i o2 oj h1 h2 h3
   rw [ho'] at h1
   simp only [Option.some.injEq] at h1
   subst h1
   split at hj
   ·rename_i hjo
    obtain ⟨v, hv, x, rfl, hx⟩ := hd j oj t _ h2 h3 (hl j (List.contains_iff_mem.1 hjo)) hj hkj
    unfold Oper.wp
    rw [hr x ρ a w (ha.moreK hv) hw hf hx]
    exact ⟨_, rfl, rfl, Below.refl _ _⟩
   cases hj
  cases hj
 cases ho
theorem StepK.call {all : Array Oper} {L0 : Array Bool} {kn : List (Nat × Kn)} {fr0 : Fr} {loc : Loc} {i : Nat} {k : Kn} (g : FuncId) (vs : List SV) (hq : ((atK all L0 kn fr0 i).bind fun x => callS x.2 x.1) = some (g, vs)) (hk : knOf kn i = some k) (hb : bodied P g = true)
  (hr : ∀ ρ w, WInv N w0 ρ loc w → F ρ w → Calls P g (SV.denL ρ vs).toArray w fun e w' => ∃ v, e = .returned v ∧ k.ok ρ w' v ∧ Below w.heap.size w w') : StepK P N w0 ntm F all L0 kn fr0 loc i := by
 obtain ⟨⟨o, fr⟩, ho, hc⟩ := Option.bind_eq_some_iff.1 hq
 intro o' k' ho' hk' ρ L a w ha hd hl hw hf
 rw [hk] at hk'
 simp only [Option.some.injEq] at hk'
 subst hk'
 unfold atK at ho
 simp only [ho'] at ho
 split at ho
 ·rename_i hg
  simp only [Option.some.injEq, Prod.mk.injEq] at ho
  obtain ⟨rfl, rfl⟩ := ho
  refine ⟨guardS_ok ha hg, ?_⟩
  unfold Oper.wp
  rw [run_callS ha hc hb]
  refine (hr ρ w hw hf).mono ?_
  rintro e w' ⟨v, rfl, h1, h2⟩
  exact ⟨v, rfl, h1, h2⟩
 cases ho
def cntL (n : Nat) (L : Array Bool) : Nat := ((List.range n).filter fun j => !L.getD j true).length
theorem cntL_set {n i : Nat} {L : Array Bool} (hi : i < n) (h : L.getD i true = false) : cntL n (L.setIfInBounds i true) < cntL n L := by
 have hsz : i < L.size := by
  rcases Nat.lt_or_ge i L.size with h' | h'
  ·exact h'
  simp [Array.getElem?_eq_none h'] at h
 have hs : ((List.range n).filter fun j => !(L.setIfInBounds i true).getD j true).Sublist ((List.range n).filter fun j => !L.getD j true) := by
  have e : ((List.range n).filter fun j => !(L.setIfInBounds i true).getD j true) = ((List.range n).filter fun j => !L.getD j true).filter fun j => !(L.setIfInBounds i true).getD j true := by
   rw [List.filter_filter]
   refine List.filter_congr fun j _ => ?_
   by_cases hij : i = j
   ·subst hij; simp [hsz]
   rw [getD_set_ne true hij]; simp
  rw [e]
  exact List.filter_sublist
 unfold cntL
 refine Nat.lt_of_le_of_ne hs.length_le fun e => ?_
 have := hs.eq_of_length e
 have hm : i ∈ ((List.range n).filter fun j => !L.getD j true) := List.mem_filter.2 ⟨List.mem_range.2 hi, by rw [h]; rfl⟩
 rw [← this] at hm
 have := (List.mem_filter.1 hm).2
 simp [hsz] at this
def fwd (all : Array Oper) : Bool := (List.range all.size).all fun i => match all[i]? with
 | some o => (onsOf o).all fun j => Nat.blt j i
 | none => true
theorem ready_nil {all : Array Oper} {L : Array Bool} (hf : fwd all = true) (hs : L.size = all.size) (h : Region.ready .any all L = []) : ∀ i, L.getD i true = true := by
 intro i
 induction i using Nat.strongRecOn with
 | _ i ih =>
  cases hi : L.getD i true with
  | true => rfl
  | false =>
   have hlt : i < L.size := by
    rcases Nat.lt_or_ge i L.size with h' | h'
    ·exact h'
    simp [Array.getElem?_eq_none h'] at hi
   have ho : all[i]? = some all[i] := Array.getElem?_eq_getElem (by omega)
   have hm : i ∈ Region.ready .any all L := by
    refine mem_ready.2 ⟨hi, _, ho, fun e he hb => ?_⟩
    have h1 := List.all_eq_true.1 hf i (List.mem_range.2 (by omega))
    rw [ho] at h1
    have h2 := List.all_eq_true.1 h1 e.on (List.mem_map.2 ⟨e, List.mem_filter.2 ⟨by simpa using he, hb⟩, rfl⟩)
    have h3 : e.on < i := by simpa using h2
    have h4 := ih e.on h3
    have hlt2 : e.on < L.size := by omega
    simpa [Array.getElem?_eq_getElem hlt2] using h4
   rw [h] at hm
   cases hm
def pendL (n : Nat) (L0 : Array Bool) : List Nat := (List.range n).filter fun j => !L0.getD j true
def okK (ntm : Nat) (all : Array Oper) (g : Nat) (L0 : Array Bool) (kn : List (Nat × Kn)) : Bool :=
 fwd all && (Nat.beq L0.size all.size && (Nat.ble (cntL all.size L0) g && ((pendL all.size L0).all (fun i => (knOf kn i).isSome && (match all[i]? with
  | some o => match o.dst with
   | some t => Nat.blt t ntm
   | none => false
  | none => false)) && decide (((pendL all.size L0).filterMap fun i => (all[i]?).bind (·.dst)).Nodup))))
theorem nodup_ne {l : List Nat} {f : Nat → Option Nat} (h : (l.filterMap f).Nodup) {i j t : Nat} (hi : i ∈ l) (hj : j ∈ l) (hij : i ≠ j) (h1 : f i = some t) : f j ≠ some t := by
 induction l with
 | nil => cases hi
 | cons x l ih =>
  intro h2
  rw [List.filterMap_cons] at h
  rcases List.mem_cons.1 hi with hi2 | hi2
  ·subst hi2
   rcases List.mem_cons.1 hj with hj2 | hj2
   ·exact hij hj2.symm
   rw [h1] at h
   exact (List.nodup_cons.1 h).1 (List.mem_filterMap.2 ⟨j, hj2, h2⟩)
  rcases List.mem_cons.1 hj with hj2 | hj2
  ·subst hj2
   rw [h2] at h
   exact (List.nodup_cons.1 h).1 (List.mem_filterMap.2 ⟨i, hi2, h1⟩)
  refine ih ?_ hi2 hj2 h2
  cases hx : f x with
  | none => rw [hx] at h; exact h
  | some y => rw [hx] at h; exact (List.nodup_cons.1 h).2
theorem drawn_all {all : Array Oper} {g : Nat} {L0 : Array Bool} {kn : List (Nat × Kn)} {fr0 : Fr} {ds : List Nat} {fr : Fr} {loc : Loc} (hfr : fr0 = drops ds fr) (hds : ∀ o ∈ unl all L0, ∀ t, o.dst = some t → t ∈ ds) (hok : okK ntm all g L0 kn = true) (hF : Stable F) (hkn : ∀ i k, knOf kn i = some k → k.St)
  (hst : ∀ i, L0.getD i true = false → i < all.size → StepK P N w0 ntm F all L0 kn fr0 loc i) {ρ : List Nat} {Q : Exit → Act → World → Prop}
  (hQ : ∀ a w, AInv ntm ρ fr0 a → Done all L0 kn ρ (Array.replicate all.size true) a w → WInv N w0 ρ loc w → F ρ w → Q .normal a w) :
  ∀ (f : Nat) (L : Array Bool) (a : Act) (w : World), L.size = all.size → (∀ i, L0.getD i true = true → L.getD i true = true) → cntL all.size L ≤ f → AInv ntm ρ fr0 a → Done all L0 kn ρ L a w → WInv N w0 ρ loc w → F ρ w → wpAny P .any all Q f L a w := by
 simp only [okK, Bool.and_eq_true] at hok
 obtain ⟨hfw, hs0, _, hp, hnd⟩ := hok
 have hend : ∀ (L : Array Bool) (a : Act) (w : World), L.size = all.size → Region.ready .any all L = [] → AInv ntm ρ fr0 a → Done all L0 kn ρ L a w → WInv N w0 ρ loc w → F ρ w → Q .normal a w := fun L a w hsz hr ha hd hw hf =>
  hQ a w ha (fun i o t k h1 h2 _ h4 h5 => hd i o t k h1 h2 (ready_nil hfw hsz hr i) h4 h5) hw hf
 intro f
 induction f with
 | zero =>
  intro L a w hsz hsub hc ha hd hw hf
  have hr : Region.ready .any all L = [] := by
   refine List.eq_nil_iff_forall_not_mem.2 fun i hi => ?_
   obtain ⟨h1, o, ho, _⟩ := mem_ready.1 hi
   have := cntL_set (Array.getElem?_eq_some_iff.1 ho).1 h1
   omega
  exact ⟨hr, hend L a w hsz hr ha hd hw hf⟩
 | succ f ih =>
  intro L a w hsz hsub hc ha hd hw hf
  refine ⟨fun hr => hend L a w hsz hr ha hd hw hf, fun i hi => ?_⟩
  obtain ⟨h1, o, ho, hall⟩ := mem_ready.1 hi
  have hlt := (Array.getElem?_eq_some_iff.1 ho).1
  have h0 : L0.getD i true = false := by
   cases h : L0.getD i true with
   | false => rfl
   | true => rw [hsub i h] at h1; cases h1
  have hpi : i ∈ pendL all.size L0 := List.mem_filter.2 ⟨List.mem_range.2 hlt, by rw [h0]; rfl⟩
  have hpp := List.all_eq_true.1 hp i hpi
  rw [ho] at hpp
  simp only [Bool.and_eq_true] at hpp
  obtain ⟨hkk, hdst⟩ := hpp
  obtain ⟨k, hk⟩ := Option.isSome_iff_exists.1 hkk
  obtain ⟨t, ht, htn⟩ : ∃ t, o.dst = some t ∧ t < ntm := by
   split at hdst
   ·rename_i t ht
    exact ⟨t, ht, by simpa using hdst⟩
   cases hdst
  have hons : ∀ j ∈ onsOf o, L.getD j true = true := fun j hj => by
   obtain ⟨e, he, rfl⟩ := List.mem_map.1 hj
   obtain ⟨he1, he2⟩ := List.mem_filter.1 he
   have h5 := hall e (by simpa using he1) he2
   rcases Nat.lt_or_ge e.on L.size with h' | h'
   ·simpa [Array.getElem?_eq_getElem h'] using h5
   simp [Array.getElem?_eq_none h'] at h5
  obtain ⟨hwn, hwp⟩ := hst i h0 hlt o k ho hk ρ L a w (hd.fr ha _ fun j hj _ => hons j hj) hd hons hw hf
  unfold wpOp
  simp only [ho, hwn, if_true]
  refine .inl (wp_mono2 ?_ (fun _ _ _ h => h.elim) hwp)
  rintro a' w' ⟨v, rfl, hv, hb⟩
  have hat : t < a.tmps.size := by rw [ha.size]; exact htn
  have hput : (a.put o.dst v).tmps = a.tmps.setIfInBounds t v := by rw [ht]; rfl
  refine ih _ _ _ (by simpa using hsz) (fun j hj => ?_) ?_ ?_ ?_ (hw.later hb) (hF ρ w ρ w' (Grow.refl _ _) (Keep.of_below hb) hf)
  ·by_cases hij : i = j
   ·subst hij; simp [show i < L.size by omega]
   rw [getD_set_ne true hij]; exact hsub j hj
  ·have := cntL_set (n := all.size) hlt h1
   omega
  ·subst hfr
   exact ha.over (hds o (mem_unl ho h0)) v
  intro j oj tj kj hj1 hj2 hj3 hj4 hj5
  rw [hput]
  by_cases hij : i = j
  ·subst hij
   rw [ho] at hj1
   simp only [Option.some.injEq] at hj1
   subst hj1
   rw [ht] at hj4
   simp only [Option.some.injEq] at hj4
   subst hj4
   rw [hk] at hj5
   simp only [Option.some.injEq] at hj5
   subst hj5
   exact ⟨v, by simp [hat], hv⟩
  rw [getD_set_ne true hij] at hj3
  obtain ⟨u, hu1, hu2⟩ := hd j oj tj kj hj1 hj2 hj3 hj4 hj5
  have hjp : j ∈ pendL all.size L0 := List.mem_filter.2 ⟨List.mem_range.2 (Array.getElem?_eq_some_iff.1 hj1).1, by rw [hj2]; rfl⟩
  have hne : t ≠ tj := fun e => nodup_ne (of_decide_eq_true hnd) hpi hjp hij (show ((all[i]?).bind (·.dst)) = some t by rw [ho]; exact ht) (show ((all[j]?).bind (·.dst)) = some t by rw [hj1, e]; exact hj4)
  exact ⟨u, by rw [Array.getElem?_setIfInBounds_ne hne]; exact hu1, hu2.keep (hkn j kj hj5) hb⟩
theorem At.drawn {Y : Type} {s : S} {all : Array Oper} {g : Nat} {dn : List Nat} (kn : List (Nat × Kn)) (frY : Y → Fr) (GY : Y → List Nat → World → Prop) (hpc : s.pc = .any all g dn) (hok : okK ntm all g (listedOf all.size dn) kn = true) (hF : Stable F) (hkn : ∀ i k, knOf kn i = some k → k.St)
  (hst : ∀ i ∈ pendL all.size (listedOf all.size dn), StepK P N w0 ntm F all (listedOf all.size dn) kn (drops ((unl all (listedOf all.size dn)).filterMap (·.dst)) s.fr) s.loc i)
  (hfin : ∀ ρ a w, AInv ntm ρ (eqFr all (listedOf all.size dn) kn (pendL all.size (listedOf all.size dn)) (drops ((unl all (listedOf all.size dn)).filterMap (·.dst)) s.fr)) a → Done all (listedOf all.size dn) kn ρ (Array.replicate all.size true) a w → F ρ w → ∃ y, AInv ntm ρ (frY y) a ∧ GY y ρ w)
  (h : ∀ y, At P Q N w0 ntm (GY y) ⟨.exit .normal, s.ks, frY y, s.loc⟩) : At P Q N w0 ntm F s := by
 have hok' := hok
 simp only [okK, Bool.and_eq_true] at hok'
 obtain ⟨_, hs0, hc0, _⟩ := hok'
 have hs0 := Nat.eq_of_beq_eq_true hs0
 have hc0 := Nat.le_of_ble_eq_true hc0
 intro ρ a w hi hf
 rw [hpc]
 refine drawn_all (ds := (unl all (listedOf all.size dn)).filterMap (·.dst)) (fr := s.fr) rfl (fun o ho t ht => List.mem_filterMap.2 ⟨o, ho, ht⟩) hok hF hkn (fun i h0 hlt => hst i (List.mem_filter.2 ⟨List.mem_range.2 hlt, by rw [h0]; rfl⟩)) (ρ := ρ) ?_ g _ a w hs0 (fun _ h => h) hc0 (hi.act.drops_ _) ?_ hi.mem hf
 ·intro a' w' ha hd hw hf'
  obtain ⟨y, hy1, hy2⟩ := hfin ρ a' w' (hd.fr ha _ fun i hi _ => by
   have := List.mem_range.1 (List.mem_filter.1 hi).1
   simp [this]) hd hf'
  exact h y ρ a' w' ⟨hy1, hw⟩ hy2
 intro i o t k h1 h2 h3
 rw [h2] at h3
 cases h3
def knSts : List (Nat × Kn) → Prop
 | [] => True
 | p :: l => p.2.St ∧ knSts l
theorem knSt {kn : List (Nat × Kn)} (h : knSts kn) : ∀ i k, knOf kn i = some k → k.St := by
 induction kn with
 | nil => intro i k hk; cases hk
 | cons p l ih =>
  intro i k hk
  simp only [knOf] at hk
  split at hk
  ·simp only [Option.some.injEq] at hk
   subst hk
   exact h.1
  exact ih h.2 i k hk
theorem At.drawnY {Y : Type} {s : S} {all : Array Oper} {g : Nat} {dn : List Nat} (kn : List (Nat × Kn)) (js : List Nat) (frY : Y → Fr) (GY : Y → List Nat → World → Prop) (hpc : s.pc = .any all g dn) (hok : okK ntm all g (listedOf all.size dn) kn = true) (hjs : pendL all.size (listedOf all.size dn) = js) (hF : Stable F) (hkn : knSts kn)
  (hst : allOf js fun i => StepK P N w0 ntm F all (listedOf all.size dn) kn (drops ((unl all (listedOf all.size dn)).filterMap (·.dst)) s.fr) s.loc i)
  (hfin : ∀ ρ a w, AInv ntm ρ (eqFr all (listedOf all.size dn) kn js (drops ((unl all (listedOf all.size dn)).filterMap (·.dst)) s.fr)) a → Done all (listedOf all.size dn) kn ρ (Array.replicate all.size true) a w → F ρ w → ∃ y, AInv ntm ρ (frY y) a ∧ GY y ρ w)
  (h : ∀ y, At P Q N w0 ntm (GY y) ⟨.exit .normal, s.ks, frY y, s.loc⟩) : At P Q N w0 ntm F s := by
 subst hjs
 exact At.drawn kn frY GY hpc hok hF (knSt hkn) (fun i hi => hst.mem i hi) hfin h
theorem At.drawn0 {s : S} {all : Array Oper} {g : Nat} {dn : List Nat} (kn : List (Nat × Kn)) (js : List Nat) (fr' : Fr) (hpc : s.pc = .any all g dn) (hok : okK ntm all g (listedOf all.size dn) kn = true) (hjs : pendL all.size (listedOf all.size dn) = js) (hF : Stable F) (hkn : knSts kn)
  (hst : allOf js fun i => StepK P N w0 ntm F all (listedOf all.size dn) kn (drops ((unl all (listedOf all.size dn)).filterMap (·.dst)) s.fr) s.loc i)
  (hsub : subFr fr' (eqFr all (listedOf all.size dn) kn js (drops ((unl all (listedOf all.size dn)).filterMap (·.dst)) s.fr)))
  (h : At P Q N w0 ntm F ⟨.exit .normal, s.ks, fr', s.loc⟩) : At P Q N w0 ntm F s :=
 At.drawnY (Y := Unit) kn js (fun _ => fr') (fun _ => F) hpc hok hjs hF hkn hst (fun ρ a w ha _ hf => ⟨(), ha.sub hsub, hf⟩) (fun _ => h)
end
end Go.Sx
end
section
/-! In a region that draws its order: a look at local blocks taken ahead of two appends (the second one to the first one's row), and of allocations. -/
namespace Go.Sx
open Go.RowKit
section
variable {P : Program} {Q : Exit → Act → World → Prop} {N : Nat} {w0 : World} {ntm : Nat} {F : List Nat → World → Prop}
def alP (P : Program) (o : Oper) : Bool := match o.op with
 | .alloc t => match P.info? t with
  | some i => i.zero.isSome
  | none => false
 | _ => false
theorem alP_run {o : Oper} {a : Act} {w w' : World} {n : Go.Next} (h : alP P o = true) (hr : (execOp a.eval o).run P w = .ok n w') : ∃ v ob, n = .value v ∧ w' = w.alloc ob := by
 obtain ⟨dst, op, ty, pos, after, guard⟩ := o
 cases op <;> simp only [alP] at h <;> try (cases h; done)
 rename_i t
 cases hi : P.info? t with
 | none => rw [hi] at h; cases h
 | some i =>
  rw [hi] at h
  obtain ⟨z, hz⟩ := Option.isSome_iff_exists.1 h
  simp only [execOp, Instr.alloc, zeroValue, typeInfo, run_program, hi, hz, newVar, newRow, Sem.run_bind, Sem.run_pure, Result.andThen_ok, run_newObj] at hr
  simp only [Result.ok.injEq] at hr
  exact ⟨_, _, hr.1.symm, hr.2.symm⟩
def bnA (P : Program) (sub : Fr) (loc : Loc) (o : Oper) : Bool := benign P sub loc o || alP P o
theorem StepK.idx {all : Array Oper} {L0 : Array Bool} {kn : List (Nat × Kn)} {fr0 : Fr} {loc : Loc} {k : Nat} {s : SV} (a : Addr) (n size : Nat) (i : Int) (hq : ((atK all L0 kn fr0 k).bind fun x => idxQ P x.2 x.1) = some (a, n, i, size)) (hk : knOf kn k = some (.eq s)) (h0 : 0 ≤ i) (hn : i < n) (hs : ∀ ρ, s.den ρ = .pointer (some (a.add (i.toNat * size)))) : StepK P N w0 ntm F all L0 kn fr0 loc k := by
 obtain ⟨⟨o, fr⟩, ho, hq⟩ := Option.bind_eq_some_iff.1 hq
 exact StepK.run ho hk fun ρ act w ha hw hf => by rw [hs]; exact run_idxQ ha hq h0 hn w
theorem StepK.ldx {all : Array Oper} {L0 : Array Bool} {kn : List (Nat × Kn)} {fr0 : Fr} {loc : Loc} {k : Nat} {s : SV} (a : Addr) (hq : ((atK all L0 kn fr0 k).bind fun x => ldQ P x.2 x.1) = some a) (hk : knOf kn k = some (.eq s)) (hc : ∀ ρ w, WInv N w0 ρ loc w → F ρ w → w.cell? a = some (s.den ρ)) : StepK P N w0 ntm F all L0 kn fr0 loc k := by
 obtain ⟨⟨o, fr⟩, ho, hq⟩ := Option.bind_eq_some_iff.1 hq
 exact StepK.run ho hk fun ρ act w ha hw hf => run_ldQ ha hq (hc ρ w hw hf)
theorem StepK.cat {all : Array Oper} {L0 : Array Bool} {kn : List (Nat × Kn)} {fr0 : Fr} {loc : Loc} {k : Nat} {s : SV} (a b : ByteArray) (hq : ((atK all L0 kn fr0 k).bind fun x => catQ P x.2 x.1) = some (a, b)) (hk : knOf kn k = some (.eq s)) (h0 : a.size + b.size ≤ 9223372036854775807) (hs : ∀ ρ, s.den ρ = .string (a ++ b)) : StepK P N w0 ntm F all L0 kn fr0 loc k := by
 obtain ⟨⟨o, fr⟩, ho, hq⟩ := Option.bind_eq_some_iff.1 hq
 exact StepK.run ho hk fun ρ act w ha hw hf => by rw [hs]; exact run_catQ ha hq h0 w
end
end Go.Sx
end
section
/-! In a region that draws its order: rows that it makes, and looks into them. -/
namespace Go.Sx
open Go.RowKit
def Cel (a : Addr) (ys : List Value) (ρ : List Nat) (w : World) : Prop := Src w a ys ∧ a.block < w.heap.size ∧ a.block ∉ ρ
theorem Cel.stable {a : Addr} {ys : List Value} : Stable (Cel a ys) := fun ρ w ρ' w' hg hk ⟨h3, h4, h5⟩ => by
 refine ⟨fun j u hj => ?_, Nat.lt_of_lt_of_le h4 hk.size, fun hm => ?_⟩
 ·have := h3 j u hj
  have hb : (a.add j).block = a.block := by unfold Addr.add; split <;> rfl
  simp only [World.cell?, hb] at this ⊢
  rw [hk.block _ h4 h5]
  exact this
 rcases hg.of_mem hm with h | h
 ·exact h5 h
 omega
theorem Cel.fewer {a : Addr} {ys : List Value} : FewerK 0 (Cel a ys) := fun ρ w k _ h => ⟨h.1, h.2.1, fun hm => h.2.2 (List.mem_of_mem_take hm)⟩
theorem cel_new {w0 w w' : World} {N : Nat} {ρ ρc : List Nat} {loc : Loc} {cs : List SV} {t : TypeId} {ys : List Value} (hm : WInv N w0 ρ loc w) (h : WInv w.heap.size w ρc [(cs, t)] w') (hy : ∀ ρ, SV.denL ρ cs = ys) : Cel ⟨nth ρc 0, 0, none⟩ ys ρ w' ∧ Below w.heap.size w w' := by
 have hc := h.cells 0 cs t rfl
 have hmem : nth ρc 0 ∈ ρc := by
  have : 0 < ρc.length := by rw [h.len]; exact Nat.zero_lt_one
  simp [nth, List.getD, this]
 refine ⟨⟨fun j u hj => ?_, (h.ge _ hmem).2, fun hm' => ?_⟩, h.below⟩
 ·rw [add_ok, Nat.zero_add]
  simp only [World.cell?, hc, hy]
  simpa using hj
 have h1 : nth ρc 0 < w.heap.size := (hm.ge _ hm').2
 have h2 := (h.ge _ hmem).1
 omega
section
variable {P : Program} {Q : Exit → Act → World → Prop} {N : Nat} {w0 : World} {ntm : Nat} {F : List Nat → World → Prop}
theorem StepK.runXE {all : Array Oper} {L0 : Array Bool} {kn : List (Nat × Kn)} {fr0 : Fr} {loc : Loc} {i : Nat} {X Y : Type} {r : X → SV} {G : X → List Nat → World → Prop} {r' : Y → SV} {G' : Y → List Nat → World → Prop} (j t : Nat) (hk : knOf kn i = some (.ex Y r' G')) (hat : (atK all L0 kn fr0 i).isSome = true) (hj : exAt all L0 i j = some t) (hkj : knOf kn j = some (.ex X r G))
  (hr : ∀ o fr, atK all L0 kn fr0 i = some (o, fr) → ∀ x ρ a w, AInv ntm ρ ((t, r x) :: fr) a → WInv N w0 ρ loc w → F ρ w → G x ρ w → ∃ y, (execOp a.eval o).run P w = .ok (.value ((r' y).den ρ)) w ∧ G' y ρ w) : StepK P N w0 ntm F all L0 kn fr0 loc i := by
 intro o' k ho' hk' ρ L a w ha hd hl hw hf
 rw [hk] at hk'
 simp only [Option.some.injEq] at hk'
 subst hk'
 obtain ⟨⟨o, fr⟩, ho⟩ := Option.isSome_iff_exists.1 hat
 have ho2 := ho
 unfold atK at ho
 simp only [ho'] at ho
 split at ho
 ·rename_i hg
  simp only [Option.some.injEq, Prod.mk.injEq] at ho
  obtain ⟨rfl, rfl⟩ := ho
  refine ⟨guardS_ok ha hg, ?_⟩
  unfold exAt at hj
  split at hj
  ·rename_i o2 oj h1 h2 h3
   rw [ho'] at h1
   simp only [Option.some.injEq] at h1
   subst h1
   split at hj
   ·rename_i hjo
    obtain ⟨v, hv, x, rfl, hx⟩ := hd j oj t _ h2 h3 (hl j (List.contains_iff_mem.1 hjo)) hj hkj
    obtain ⟨y, hy1, hy2⟩ := hr _ _ ho2 x ρ a w (ha.moreK hv) hw hf hx
    unfold Oper.wp
    rw [hy1]
    exact ⟨_, rfl, ⟨y, rfl, hy2⟩, Below.refl _ _⟩
   cases hj
  cases hj
 cases ho
theorem StepK.idxX {all : Array Oper} {L0 : Array Bool} {kn : List (Nat × Kn)} {fr0 : Fr} {loc : Loc} {k : Nat} (j t n c size : Nat) (i : Int) (ys : List Value) (hk : knOf kn k = some (.ex Nat (fun b => .v (.pointer (some ((⟨b, 0, none⟩ : Addr).add (i.toNat * size))))) (fun b => Cel ⟨b, 0, none⟩ ys))) (hat : (atK all L0 kn fr0 k).isSome = true) (hj : exAt all L0 k j = some t) (hkj : knOf kn j = some (.ex Nat (fun b => .sl (some ⟨b, 0, none⟩) n c) (fun b => Cel ⟨b, 0, none⟩ ys)))
  (hq : ∀ b : Nat, ((atK all L0 kn fr0 k).bind fun x => idxQ P ((t, .sl (some ⟨b, 0, none⟩) n c) :: x.2) x.1) = some (⟨b, 0, none⟩, n, i, size)) (h0 : 0 ≤ i) (hn : i < n) : StepK P N w0 ntm F all L0 kn fr0 loc k :=
 StepK.runXE j t hk hat hj hkj fun o fr ho b ρ a w ha hw hf hx => by
  have h := hq b
  rw [ho] at h
  exact ⟨b, run_idxQ ha h h0 hn w, hx⟩
theorem StepK.ldX {all : Array Oper} {L0 : Array Bool} {kn : List (Nat × Kn)} {fr0 : Fr} {loc : Loc} {k : Nat} {s : SV} (j t p : Nat) (ys : List Value) (hat : (atK all L0 kn fr0 k).isSome = true) (hk : knOf kn k = some (.eq s)) (hj : exAt all L0 k j = some t) (hkj : knOf kn j = some (.ex Nat (fun b => .v (.pointer (some ((⟨b, 0, none⟩ : Addr).add p)))) (fun b => Cel ⟨b, 0, none⟩ ys)))
  (hq : ∀ b : Nat, ((atK all L0 kn fr0 k).bind fun x => ldQ P ((t, .v (.pointer (some ((⟨b, 0, none⟩ : Addr).add p)))) :: x.2) x.1) = some ((⟨b, 0, none⟩ : Addr).add p)) (hs : ∀ ρ, ys[p]? = some (s.den ρ)) : StepK P N w0 ntm F all L0 kn fr0 loc k := by
 obtain ⟨⟨o, fr⟩, ho⟩ := Option.isSome_iff_exists.1 hat
 refine StepK.runX j t ho hk hj hkj fun b ρ a w ha hw hf hx => ?_
 have h := hq b
 rw [ho] at h
 exact run_ldQ ha h (hx.1 p _ (hs ρ))
theorem StepK.bs {all : Array Oper} {L0 : Array Bool} {kn : List (Nat × Kn)} {fr0 : Fr} {loc : Loc} {k : Nat} (n : Nat) (cs : List SV) (t : TypeId) (ys : List Value) (hk : knOf kn k = some (.ex Nat (fun b => .sl (some ⟨b, 0, none⟩) n n) (fun b => Cel ⟨b, 0, none⟩ ys))) (hq : ((atK all L0 kn fr0 k).bind fun x => memOp P x.2 loc x.1.op) = some (some (.ls loc.length 0 n n), loc ++ [(cs, t)])) (hbs : ((atK all L0 kn fr0 k).map fun x => isBS x.1) = some true) (hy : ∀ ρ, SV.denL ρ cs = ys) : StepK P N w0 ntm F all L0 kn fr0 loc k := by
 intro o' k' ho' hk' ρ L a w ha hd hl hw hf
 rw [hk] at hk'
 simp only [Option.some.injEq] at hk'
 subst hk'
 obtain ⟨⟨o, fr⟩, ho, hq⟩ := Option.bind_eq_some_iff.1 hq
 rw [ho] at hbs
 simp only [Option.map_some, Option.some.injEq] at hbs
 unfold atK at ho
 simp only [ho'] at ho
 split at ho
 ·rename_i hg
  simp only [Option.some.injEq, Prod.mk.injEq] at ho
  obtain ⟨rfl, rfl⟩ := ho
  refine ⟨guardS_ok ha hg, ?_⟩
  obtain ⟨ρ', w', hgr, ha', hw', hkp, hrun⟩ := run_memOp ha hw hq
  obtain ⟨v, ob, hv, rfl⟩ := isBS_run hbs hrun
  unfold Oper.wp
  rw [hrun]
  obtain ⟨ext, rfl, hext⟩ := hgr
  have hlen := hw'.len
  have hlen0 := hw.len
  simp only [List.length_append, List.length_singleton] at hlen
  have hmem : nth (ρ ++ ext) loc.length ∈ ρ ++ ext := by
   have : loc.length < (ρ ++ ext).length := by simp; omega
   simp only [nth, List.getD, List.getElem?_eq_getElem this, Option.getD_some]
   exact List.getElem_mem _
  have hin : nth (ρ ++ ext) loc.length ∈ ext := by
   simp only [nth, List.getD]
   rw [List.getElem?_append_right (by omega)]
   have h1 : loc.length - ρ.length < ext.length := by omega
   rw [List.getElem?_eq_getElem h1]
   exact List.getElem_mem _
  refine ⟨_, rfl, ⟨nth (ρ ++ ext) loc.length, rfl, fun j u hj => ?_, (hw'.ge _ hmem).2, fun hm => ?_⟩, (Below.refl _ _).alloc (Nat.le_refl _) ob⟩
  ·rw [add_ok, Nat.zero_add]
   have hc := hw'.cells loc.length cs t (by simp)
   simp only [World.cell?, hc, hy]
   simpa using hj
  have h1 := hw'.nodup
  exact (List.nodup_append.1 h1).2.2 _ hm _ hin rfl
 cases ho
end
end Go.Sx
end
section
namespace Go.Proofs.YthfpekhpeiebjaaGreatDoor
open Go.RowKit Go.Sx
section
variable {Q : Exit → Act → World → Prop} {N : Nat} {w0 : World} {ntm : Nat} [Md]
def BldL (b r0 : Nat) (xs : List Value) (ρ : List Nat) (w : World) : Prop := BldV 85 5 b b xs ρ w ∧ (Tk [r0] ρ w ∧ r0 < b)
omit [Md] in
theorem BldL.stable {b r0 : Nat} {xs : List Value} : Stable (BldL b r0 xs) := fun ρ w ρ' w' hg hk ⟨h1, h2, h3⟩ => ⟨BldV.stable ρ w ρ' w' hg hk h1, Tk.stable ρ w ρ' w' hg hk h2, h3⟩
omit [Md] in
theorem BldL.fewer {b r0 : Nat} {xs : List Value} : FewerK 1 (BldL b r0 xs) := fun ρ w k hk ⟨h1, h2, h3⟩ => ⟨BldV.fewer ρ w k (Nat.zero_le _) h1, Tk.fewer (ρ1 := [r0]) ρ w k hk h2, h3⟩
theorem At.bldAlloc {s : S} (o : Oper) (ho : s.head? = some o) (hop : o.op = .alloc 85) (hd : s.dstOk ntm = true) (hp : s.plain = true) (hloc : s.loc.length = 1)
  (h : ∀ b r0, N ≤ b → At Tryz.prog Q N w0 ntm (BldL b r0 []) (s.tail ntm (.v (.pointer (some ⟨b, 0, none⟩))))) : At Tryz.prog Q N w0 ntm noF s := by
 refine At.opx o (fun x : Nat × Nat => .v (.pointer (some ⟨x.1, 0, none⟩))) (fun x ρ w => BldL x.1 x.2 [] ρ w ∧ N ≤ x.1) ho hd hp ?_ (fun x => At.pure fun hN => h x.1 x.2 hN)
 intro ρ a w hi _
 have hlen : ρ.length = 1 := by rw [hi.mem.len, hloc]
 obtain ⟨r0, rfl⟩ := List.length_eq_one_iff.1 hlen
 have hr0 := hi.mem.ge r0 (by simp)
 have hz : (Tryz.prog.info? 85).bind (·.zero) = some (.agg #[.pointer none, .slice none 0 0]) := by kernel_rfl
 obtain ⟨i, hi1, hi2⟩ := Option.bind_eq_some_iff.1 hz
 refine ⟨(w.heap.size, r0), w.alloc (.cells #[.pointer none, .slice none 0 0] 85), ?_, winv_alloc hi.mem _, ⟨⟨.pointer none, none, 0, 0, .inl rfl, ?_, Row.nil _ _ _ _ _, ?_, Nat.le_refl _⟩, rfl, hr0.2⟩, hi.mem.hN⟩
 ·obtain ⟨dst, op, ty, pos, after, guard⟩ := o
  simp only at hop
  subst hop
  simp only [execOp, Instr.alloc, zeroValue, typeInfo, run_program, hi1, hi2, newVar, newRow, SV.den, Sem.run_bind, Sem.run_pure, Result.andThen_ok, run_newObj, World.alloc]
  rfl
 ·rw [show (w.alloc (.cells #[.pointer none, .slice none 0 0] 85)).heap = w.heap.push (.cells #[.pointer none, .slice none 0 0] 85) from rfl]
  simp
 simp only [List.mem_singleton]
 omega
theorem At.factsL {s : S} {b r0 : Nat} {xs ys : List Value} (hN : N ≤ b) (g : FuncId) (vs : List SV) (r : SV) (hc : s.call? = some (g, vs)) (hb : bodied Tryz.prog g = true) (hd : s.dstOk ntm = true) (hp : s.plain = true) (hsc : scopedFr s.loc.length s.fr = true) (hloc : s.loc.length = 1)
  (hr : ∀ ρ w, WInv N w0 ρ s.loc w → BldV 85 5 b b xs [] w → b ≤ w.heap.size → Calls Tryz.prog g (SV.denL ρ vs).toArray w fun e' w' => e' = .returned (r.den ρ) ∧ BldV 85 5 b b ys [] w' ∧ Below b w w')
  (h : At Tryz.prog Q N w0 ntm (BldL b r0 ys) ((s.tail ntm r).withLoc s.loc)) : At Tryz.prog Q N w0 ntm (BldL b r0 xs) s := by
 refine At.callg (X := Unit) g vs (fun _ => r) (fun _ => s.loc) (fun _ => BldL b r0 ys) hc hb hd hp hsc ?_ (fun _ => h)
 intro ρ w hm ⟨hbv, htk, hlt⟩
 have hρ : ρ = [r0] := htk.eq (by rw [hm.len, hloc]; rfl)
 subst hρ
 have hbs : b ≤ w.heap.size := by
  obtain ⟨p, A, n, c, hp, hg⟩ := hbv
  have := hg.lt
  omega
 refine (hr [r0] w hm (BldV.fewer [r0] w 0 (Nat.zero_le _) hbv) hbs).mono ?_
 rintro e' w' ⟨rfl, hv, hbel⟩
 refine ⟨(), [r0], rfl, Grow.refl _ _, ⟨hm.below.trans (hbel.mono hN), Nat.le_trans hm.hN hbel.size, hm.len, hm.nodup, fun k hk => ⟨(hm.ge k hk).1, Nat.lt_of_lt_of_le (hm.ge k hk).2 hbel.size⟩, fun i c t hi => ?_⟩, ?_, htk, hlt⟩
 ·have hold := hm.cells i c t hi
  have hm1 : nth [r0] i ∈ [r0] := nth_mem (by rw [hm.len]; exact (List.getElem?_eq_some_iff.1 hi).1)
  rw [List.mem_singleton.1 hm1] at hold ⊢
  rw [hbel.block r0 hlt]
  exact hold
 obtain ⟨p, A, n, c, hp, hg1, hg2, hg3, hg4⟩ := hv
 refine ⟨p, A, n, c, hp, hg1, ⟨hg2.1, fun g hg hm2 => ?_⟩, ?_, hg4⟩
 ·have := (hg2.1.lt g hg).1
  rw [List.mem_singleton.1 hm2] at this
  omega
 simp only [List.mem_singleton]
 omega
theorem At.factsN {s : S} {b r0 : Nat} {xs : List Value} (hN : N ≤ b) (g : FuncId) (vs : List SV) (r : SV) (hc : s.call? = some (g, vs)) (hb : bodied Tryz.prog g = true) (hd : s.dstOk ntm = true) (hp : s.plain = true) (hsc : scopedFr s.loc.length s.fr = true) (hloc : s.loc.length = 1)
  (hr : ∀ ρ w, WInv N w0 ρ s.loc w → BldV 85 5 b b xs [] w → b ≤ w.heap.size → Calls Tryz.prog g (SV.denL ρ vs).toArray w fun e' w' => e' = .returned (r.den ρ) ∧ Below b w w')
  (h : At Tryz.prog Q N w0 ntm noF ((s.tail ntm r).withLoc s.loc)) : At Tryz.prog Q N w0 ntm (BldL b r0 xs) s := by
 refine At.callg (X := Unit) g vs (fun _ => r) (fun _ => s.loc) (fun _ => noF) hc hb hd hp hsc ?_ (fun _ => h)
 intro ρ w hm ⟨hbv, htk, hlt⟩
 have hρ : ρ = [r0] := htk.eq (by rw [hm.len, hloc]; rfl)
 subst hρ
 have hbs : b ≤ w.heap.size := by
  obtain ⟨p, A, n, c, hp, hg⟩ := hbv
  have := hg.lt
  omega
 refine (hr [r0] w hm (BldV.fewer [r0] w 0 (Nat.zero_le _) hbv) hbs).mono ?_
 rintro e' w' ⟨rfl, hbel⟩
 refine ⟨(), [r0], rfl, Grow.refl _ _, ⟨hm.below.trans (hbel.mono hN), Nat.le_trans hm.hN hbel.size, hm.len, hm.nodup, fun k hk => ⟨(hm.ge k hk).1, Nat.lt_of_lt_of_le (hm.ge k hk).2 hbel.size⟩, fun i c t hi => ?_⟩, trivial⟩
 have hold := hm.cells i c t hi
 have hm1 : nth [r0] i ∈ [r0] := nth_mem (by rw [hm.len]; exact (List.getElem?_eq_some_iff.1 hi).1)
 rw [List.mem_singleton.1 hm1] at hold ⊢
 rw [hbel.block r0 hlt]
 exact hold
end
end Go.Proofs.YthfpekhpeiebjaaGreatDoor
end
