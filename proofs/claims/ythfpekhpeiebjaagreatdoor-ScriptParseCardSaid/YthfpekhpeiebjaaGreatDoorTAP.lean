/- Joined texts: RS, XE, RH, RL, BN, AF, AG, AH, TB, TX. -/
import Derived.Test.YthfpekhpeiebjaaGreatDoorTAO
set_option linter.unusedSimpArgs false
set_option linter.unusedVariables false
namespace Go.Sx
open Go
def cfAP (g s k sz sl of gp lt ea : Int) (d : Bool) : List SV := [.io .i64 g, .io .i64 s, .io .i64 k, .io .i64 sz, .io .i64 sl, .io .i64 of, .io .i64 gp, .io .i64 lt, .io .i64 ea, .bo d]
def cwAP (g s k sz sl of gp lt ea : Int) (d : Bool) (wk : Int) (A : Option Addr) (n c : Nat) : List SV := [.io .i64 g, .io .i64 s, .io .i64 k, .io .i64 sz, .io .i64 sl, .io .i64 of, .io .i64 gp, .io .i64 lt, .io .i64 ea, .bo d, .io .i64 wk, .sl A n c]
def zAP0 : List SV := [.agg [.v (.int .i64 0), .v (.int .i64 0), .v (.string (ByteArray.mk #[])), .v (.int .i64 0), .v (.int .i64 0), .v (.int .i64 0), .v (.int .i64 0), .v (.int .i64 0), .v (.int .i64 0), .v (.int IntKind.u32 0)], .v (.bool false)]
def zAP1 : List SV := [.v (.int .i64 0), .v (.int .i64 0), .v (.string (ByteArray.mk #[])), .v (.int .i64 0), .v (.int .i64 0), .v (.int .i64 0), .v (.int .i64 0), .v (.int .i64 0), .v (.int .i64 0), .v (.int IntKind.u32 0)]
def pAP2 : List Nat := [1, 1, 0, 1, 4, 1, 3, 1, 3, 1, 3, 1, 2, 1, 0]
def pAP3 : List Nat := [1, 1, 1, 1, 1, 0, 1, 4, 4, 1, 1, 0, 4, 1]
def pAP4 : List Nat := [1, 1, 1, 1, 1, 0, 1, 4, 4, 1, 1, 1]
def pAP5 : List Nat := [1, 1, 0, 1, 4, 1, 3, 1, 2, 1, 0]
def pAP6 : List Nat := [1, 1, 0, 1, 4, 1, 2, 1, 1, 1]
def pAP7 : List Nat := [1, 1, 0, 1, 4, 1, 2, 1, 0]
def pAP8 : List Nat := [1, 1, 0, 1, 4, 1, 2, 1, 1]
def pAP9 : List Nat := [1, 1, 1, 1, 1, 1]
def pAP10 : List Nat := [1, 1, 1, 1, 1]
def pAP11 : List Nat := [1, 1, 1, 1, 0]
def pAP12 : List Nat := [1, 1, 1]
end Go.Sx
section
namespace Go.Proofs.YthfpekhpeiebjaaGreatDoor
open Go.RowKit Go.Sx
theorem beq_of {a b : Bool} (h : a = true ↔ b = true) : a = b := by
 cases a <;> cases b <;> simp_all
theorem time_iff {t : Int} : timeB t = true ↔ (-4611686018427387904 ≤ t ∧ t ≤ 4611686018427387904) := by simp [timeB]
theorem time_no {t : Int} : timeB t = false ↔ ¬ (-4611686018427387904 ≤ t ∧ t ≤ 4611686018427387904) := by rw [← time_iff, Bool.not_eq_true]
def itP (s ik : Int) (key : List UInt8) (t v src : Int) : Prop := (ik = 1 ∧ key.length ≤ 256 ∧ (-4611686018427387904 ≤ t ∧ t ≤ 4611686018427387904) ∧ src = 0) ∨ (ik = 2 ∧ 0 ≤ src ∧ src < s ∧ (-4611686018427387904 ≤ t ∧ t ≤ 4611686018427387904) ∧ key.length = 0 ∧ v = 0) ∨ (ik = 3 ∧ key.length = 0 ∧ t = 0 ∧ v = 0 ∧ src = 0)
theorem itB_iff0 {s ik : Int} {key : List UInt8} {t v src : Int} : itB s ik key t v src = true ↔ itP s ik key t v src := by
 unfold itB itP
 split
 ·simp only [Bool.and_eq_true, beq_iff_eq, decide_eq_true_eq, time_iff, ← List.length_eq_zero_iff]
  omega
 split
 ·simp only [Bool.and_eq_true, beq_iff_eq, decide_eq_true_eq, time_iff, ← List.length_eq_zero_iff]
  omega
 split
 ·simp only [Bool.and_eq_true, beq_iff_eq, decide_eq_true_eq, time_iff, ← List.length_eq_zero_iff]
  omega
 simp only [Bool.false_eq_true, false_iff]
 omega
theorem itB_iff {s ik : Int} {key : List UInt8} {t v src : Int} : itB s ik key t v src = true ↔ ((ik = 1 ∧ key.length ≤ 256 ∧ (-4611686018427387904 ≤ t ∧ t ≤ 4611686018427387904) ∧ src = 0) ∨ (ik = 2 ∧ 0 ≤ src ∧ src < s ∧ (-4611686018427387904 ≤ t ∧ t ≤ 4611686018427387904) ∧ key.length = 0 ∧ v = 0) ∨ (ik = 3 ∧ key.length = 0 ∧ t = 0 ∧ v = 0 ∧ src = 0)) := itB_iff0
theorem itB_no {s ik : Int} {key : List UInt8} {t v src : Int} : itB s ik key t v src = false ↔ ¬ ((ik = 1 ∧ key.length ≤ 256 ∧ (-4611686018427387904 ≤ t ∧ t ≤ 4611686018427387904) ∧ src = 0) ∨ (ik = 2 ∧ 0 ≤ src ∧ src < s ∧ (-4611686018427387904 ≤ t ∧ t ≤ 4611686018427387904) ∧ key.length = 0 ∧ v = 0) ∨ (ik = 3 ∧ key.length = 0 ∧ t = 0 ∧ v = 0 ∧ src = 0)) := by rw [← itB_iff, Bool.not_eq_true]
theorem mayB_iff {c : Cf} {kd ik : Int} {key : List UInt8} {t v src wk wks bit mask : Int} : mayB c ⟨kd, ik, key, t, v, src, wk, wks, bit, mask⟩ = true ↔ ((kd = 1 ∧ wk = 0 ∧ wks = 0 ∧ bit = 0 ∧ mask = 0 ∧ itB c.s ik key t v src = true) ∨ (kd ≠ 1 ∧ ik = 0 ∧ key.length = 0 ∧ t = 0 ∧ v = 0 ∧ src = 0 ∧
  ((kd = 2 ∧ wks = 0 ∧ bit = 0 ∧ mask = 0 ∧ 0 ≤ wk) ∨ (kd = 3 ∧ wk = 0 ∧ wks = 0 ∧ bit = 0 ∧ mask = 0) ∨ (kd = 4 ∧ wk = 0 ∧ bit = 0 ∧ mask = 0 ∧ 1 ≤ wks ∧ wks ≤ c.g) ∨ (kd = 5 ∧ wk = 0 ∧ wks = 0 ∧ 0 ≤ bit)))) := by
 by_cases h1 : kd = 1
 ·rw [mayB_1 h1]
  simp only [Bool.and_eq_true, beq_iff_eq]
  simp [h1]
 rw [mayB_n h1]
 simp only [Bool.and_eq_true, beq_iff_eq, decide_eq_true_eq, ← List.length_eq_zero_iff]
 split
 ·simp only [Bool.and_eq_true, beq_iff_eq, decide_eq_true_eq]
  omega
 split
 ·simp only [Bool.and_eq_true, beq_iff_eq, decide_eq_true_eq]
  omega
 split
 ·simp only [Bool.and_eq_true, beq_iff_eq, decide_eq_true_eq]
  omega
 split
 ·simp only [Bool.and_eq_true, beq_iff_eq, decide_eq_true_eq]
  omega
 simp only [Bool.false_eq_true, and_false, false_iff]
 omega
noncomputable def B90 : Code := (Tryz.f90.body).getD .skip
noncomputable def sq90 (p : List Nat) : Go.Sx.K := .seq (sub B90 p)
set_option maxHeartbeats 8000000 in
set_option maxRecDepth 100000 in
theorem rtime_any (t : Int) (w : World) :
  Calls Tryz.prog 90 #[.int .i64 t] w fun e w' => e = .returned (.bool (timeB t)) ∧ Below w.heap.size w w' := by
 refine enter (fn := Tryz.f90) (c := B90) [.io .i64 t] Tryz.func90 rfl rfl ?_
 refine zN [0, 5] 0 ⟨pops B90 [1, 0] 3, [(sq90 [1, 1])], [(0, .io .i64 t), (5, .bo (decide (t ≥ -4611686018427387904)))], []⟩ ?_
 rcases zB (decide (t ≥ -4611686018427387904)) with b0 | b0
 ·refine zR 5 b0 ?_
  refine zN [2] 0 ⟨.exit .ret, [], [(2, .bo (decide (t ≤ 4611686018427387904)))], []⟩ ?_
  refine zE (.bo (decide (t ≤ 4611686018427387904))) ?_
  intro ρ w9 hm' hf
  refine ⟨congrArg (fun b => Ending.returned (Value.bool b)) ?_, hm'.below⟩
  exact beq_of (by
   rw [time_iff]
   simp only [BEq.rfl, Bool.true_and, Bool.and_true, Bool.and_eq_true, Bool.and_eq_false_iff, beq_iff_eq, beq_eq_false_iff_ne, decide_eq_true_eq, decide_eq_false_iff_not, key_nil, ← List.length_eq_zero_iff, Bool.false_eq_true, true_iff, false_iff, ge_iff_le, time_iff, time_no, mkB_size] at *
   omega)
 refine zR 5 b0 ?_
 refine zN [2] 0 ⟨.exit .ret, [], [(2, .v (.bool false))], []⟩ ?_
 refine zE (.v (.bool false)) ?_
 intro ρ w9 hm' hf
 refine ⟨congrArg (fun b => Ending.returned (Value.bool b)) ?_, hm'.below⟩
 exact beq_of (by
  rw [time_iff]
  simp only [BEq.rfl, Bool.true_and, Bool.and_true, Bool.and_eq_true, Bool.and_eq_false_iff, beq_iff_eq, beq_eq_false_iff_ne, decide_eq_true_eq, decide_eq_false_iff_not, key_nil, ← List.length_eq_zero_iff, Bool.false_eq_true, true_iff, false_iff, ge_iff_le, time_iff, time_no, mkB_size] at *
  omega)
noncomputable def B73 : Code := (Tryz.f73.body).getD .skip
noncomputable def sq73 (p : List Nat) : Go.Sx.K := .seq (sub B73 p)
set_option maxHeartbeats 8000000 in
set_option maxRecDepth 100000 in
theorem ritem_any (g s k sz sl of gp lt ea : Int) (d : Bool) (ik : Int) (key : List UInt8) (t v src : Int) (w : World) :
  Calls Tryz.prog 73 #[.agg #[.int .i64 g, .int .i64 s, .int .i64 k, .int .i64 sz, .int .i64 sl, .int .i64 of, .int .i64 gp, .int .i64 lt, .int .i64 ea, .bool d], .agg #[.int .i64 ik, .string (mkB key), .int .i64 t, .int .i64 v, .int .i64 src]] w fun e w' => e = .returned (.bool (itB s ik key t v src)) ∧ Below w.heap.size w w' := by
 refine enter (fn := Tryz.f73) (c := B73) [.agg (cfAP g s k sz sl of gp lt ea d), .agg [.io .i64 ik, .so (mkB key), .io .i64 t, .io .i64 v, .io .i64 src]] Tryz.func73 rfl rfl ?_
 refine zN [2, 3, 5, 10, 11] 3 ⟨.code (sub B73 [1, 1, 0, 1, 4, 1]), [.block 0, (sq73 pAP12)], [(2, .lp 0 0), (3, .lp 1 0), (5, .lp 2 0), (10, .io .i64 ik), (11, .bo (ik == 1))], [((cfAP g s k sz sl of gp lt ea d), 25), ([.io .i64 ik, .so (mkB key), .io .i64 t, .io .i64 v, .io .i64 src], 38), ([.io .i64 ik, .v (.string (ByteArray.mk #[])), .v (.int .i64 0), .v (.int .i64 0), .v (.int .i64 0)], 38)]⟩ ?_
 rcases zB (ik == 1) with b0 | b0
 ·refine zR 11 b0 ?_
  refine zN [3, 5] 3 ⟨.any (opsOf (sub B73 [1, 1, 0, 1, 4, 1, 2, 0])) 12 [], [(sq73 [1, 1, 0, 1, 4, 1, 2, 1]), .block 0, (sq73 pAP12)], [(3, .lp 1 0), (5, .lp 2 0)], [((cfAP g s k sz sl of gp lt ea d), 25), ([.io .i64 ik, .so (mkB key), .io .i64 t, .io .i64 v, .io .i64 src], 38), ([.io .i64 ik, .v (.string (ByteArray.mk #[])), .v (.int .i64 0), .v (.int .i64 0), .v (.int .i64 0)], 38)]⟩ ?_
  refine At.anyOrder noF_stable (j := 0) (fun _ _ _ _ _ => trivial) rfl 20 15 [3, 5] 3 [(3, .lp 1 0), (5, .lp 2 0)] [((cfAP g s k sz sl of gp lt ea d), 25), ([.io .i64 ik, .so (mkB key), .io .i64 t, .io .i64 v, .io .i64 src], 38), ([.io .i64 ik, .so (mkB key), .io .i64 t, .io .i64 v, .v (.int .i64 0)], 38)] (by kernel_rfl) (by kernel_rfl) ?_
  refine zN [3, 25] 2 ⟨pops B73 pAP7 4, [(sq73 pAP8), .block 0, (sq73 pAP12)], [(3, .lp 1 0), (25, .bo (ik == ik && ((mkB key).toList == (mkB key).toList && (t == t && (v == v && (src == 0 && true))))))], [((cfAP g s k sz sl of gp lt ea d), 25), ([.io .i64 ik, .so (mkB key), .io .i64 t, .io .i64 v, .io .i64 src], 38)]⟩ ?_
  rcases zB (ik == ik && ((mkB key).toList == (mkB key).toList && (t == t && (v == v && (src == 0 && true))))) with b0 | b0
  ·refine zR 25 b0 ?_
   refine zN [3, 31] 2 ⟨pops B73 pAP7 10, [(sq73 pAP8), .block 0, (sq73 pAP12)], [(3, .lp 1 0), (31, .bo (decide ((↑(mkB key).size : Int) ≤ 256)))], [((cfAP g s k sz sl of gp lt ea d), 25), ([.io .i64 ik, .so (mkB key), .io .i64 t, .io .i64 v, .io .i64 src], 38)]⟩ ?_
   rcases zB (decide ((↑(mkB key).size : Int) ≤ 256)) with b1 | b1
   ·refine zR 31 b1 ?_
    refine zN [31, 33] 0 ⟨pops B73 pAP7 12, [(sq73 pAP8), .block 0, (sq73 pAP12)], [(31, .v (.bool true)), (33, .io .i64 t)], []⟩ ?_
    refine zC noF_stable 90 [.io .i64 t] (.bo (timeB t)) (fun _ _ w1 _ _ => rtime_any t w1) ?_
    refine zN [4] 0 ⟨.exit .ret, [], [(4, .bo (timeB t))], []⟩ ?_
    refine zE (.bo (timeB t)) ?_
    intro ρ w9 hm' hf
    refine ⟨congrArg (fun b => Ending.returned (Value.bool b)) ?_, hm'.below⟩
    exact beq_of (by
     rw [itB_iff]
     simp only [BEq.rfl, Bool.true_and, Bool.and_true, Bool.and_eq_true, Bool.and_eq_false_iff, beq_iff_eq, beq_eq_false_iff_ne, decide_eq_true_eq, decide_eq_false_iff_not, key_nil, ← List.length_eq_zero_iff, Bool.false_eq_true, true_iff, false_iff, ge_iff_le, time_iff, time_no, mkB_size] at *
     omega)
   refine zR 31 b1 ?_
   refine zN [4] 0 ⟨.exit .ret, [], [(4, .v (.bool false))], []⟩ ?_
   refine zE (.v (.bool false)) ?_
   intro ρ w9 hm' hf
   refine ⟨congrArg (fun b => Ending.returned (Value.bool b)) ?_, hm'.below⟩
   exact beq_of (by
    rw [itB_iff]
    simp only [BEq.rfl, Bool.true_and, Bool.and_true, Bool.and_eq_true, Bool.and_eq_false_iff, beq_iff_eq, beq_eq_false_iff_ne, decide_eq_true_eq, decide_eq_false_iff_not, key_nil, ← List.length_eq_zero_iff, Bool.false_eq_true, true_iff, false_iff, ge_iff_le, time_iff, time_no, mkB_size] at *
    omega)
  refine zR 25 b0 ?_
  refine zN [4] 0 ⟨.exit .ret, [], [(4, .v (.bool false))], []⟩ ?_
  refine zE (.v (.bool false)) ?_
  intro ρ w9 hm' hf
  refine ⟨congrArg (fun b => Ending.returned (Value.bool b)) ?_, hm'.below⟩
  exact beq_of (by
   rw [itB_iff]
   simp only [BEq.rfl, Bool.true_and, Bool.and_true, Bool.and_eq_true, Bool.and_eq_false_iff, beq_iff_eq, beq_eq_false_iff_ne, decide_eq_true_eq, decide_eq_false_iff_not, key_nil, ← List.length_eq_zero_iff, Bool.false_eq_true, true_iff, false_iff, ge_iff_le, time_iff, time_no, mkB_size] at *
   omega)
 refine zR 11 b0 ?_
 refine zN [2, 3, 5, 10, 36] 3 ⟨.code (sub B73 [1, 1, 0, 1, 4, 1, 3, 1]), [.block 0, (sq73 pAP12)], [(2, .lp 0 0), (3, .lp 1 0), (5, .lp 2 0), (10, .io .i64 ik), (36, .bo (ik == 2))], [((cfAP g s k sz sl of gp lt ea d), 25), ([.io .i64 ik, .so (mkB key), .io .i64 t, .io .i64 v, .io .i64 src], 38), ([.io .i64 ik, .v (.string (ByteArray.mk #[])), .v (.int .i64 0), .v (.int .i64 0), .v (.int .i64 0)], 38)]⟩ ?_
 rcases zB (ik == 2) with b1 | b1
 ·refine zR 36 b1 ?_
  refine zN [2, 3, 5] 3 ⟨.any (opsOf (sub B73 [1, 1, 0, 1, 4, 1, 3, 1, 2, 0])) 8 [], [(sq73 [1, 1, 0, 1, 4, 1, 3, 1, 2, 1]), .block 0, (sq73 pAP12)], [(2, .lp 0 0), (3, .lp 1 0), (5, .lp 2 0)], [((cfAP g s k sz sl of gp lt ea d), 25), ([.io .i64 ik, .so (mkB key), .io .i64 t, .io .i64 v, .io .i64 src], 38), ([.io .i64 ik, .v (.string (ByteArray.mk #[])), .v (.int .i64 0), .v (.int .i64 0), .v (.int .i64 0)], 38)]⟩ ?_
  refine At.anyOrder noF_stable (j := 0) (fun _ _ _ _ _ => trivial) rfl 20 3 [2, 3, 5] 3 [(2, .lp 0 0), (3, .lp 1 0), (5, .lp 2 0)] [((cfAP g s k sz sl of gp lt ea d), 25), ([.io .i64 ik, .so (mkB key), .io .i64 t, .io .i64 v, .io .i64 src], 38), ([.io .i64 ik, .v (.string (ByteArray.mk #[])), .io .i64 t, .v (.int .i64 0), .io .i64 src], 38)] (by kernel_rfl) (by kernel_rfl) ?_
  refine zN [2, 3, 47] 2 ⟨pops B73 pAP5 4, [(sq73 pAP8), .block 0, (sq73 pAP12)], [(2, .lp 0 0), (3, .lp 1 0), (47, .bo (ik == ik && ((mkB key).toList == (ByteArray.mk #[]).toList && (t == t && (v == 0 && (src == src && true))))))], [((cfAP g s k sz sl of gp lt ea d), 25), ([.io .i64 ik, .so (mkB key), .io .i64 t, .io .i64 v, .io .i64 src], 38)]⟩ ?_
  rcases zB (ik == ik && ((mkB key).toList == (ByteArray.mk #[]).toList && (t == t && (v == 0 && (src == src && true))))) with b0 | b0
  ·refine zR 47 b0 ?_
   refine zN [2, 3, 52] 2 ⟨pops B73 pAP5 9, [(sq73 pAP8), .block 0, (sq73 pAP12)], [(2, .lp 0 0), (3, .lp 1 0), (52, .bo (decide (src ≥ 0)))], [((cfAP g s k sz sl of gp lt ea d), 25), ([.io .i64 ik, .so (mkB key), .io .i64 t, .io .i64 v, .io .i64 src], 38)]⟩ ?_
   rcases zB (decide (src ≥ 0)) with b1 | b1
   ·refine zR 52 b1 ?_
    refine zN [3, 59] 2 ⟨pops B73 pAP5 16, [(sq73 pAP8), .block 0, (sq73 pAP12)], [(3, .lp 1 0), (59, .bo (decide (src < s)))], [((cfAP g s k sz sl of gp lt ea d), 25), ([.io .i64 ik, .so (mkB key), .io .i64 t, .io .i64 v, .io .i64 src], 38)]⟩ ?_
    rcases zB (decide (src < s)) with b2 | b2
    ·refine zR 59 b2 ?_
     refine zN [59, 61] 0 ⟨pops B73 pAP5 18, [(sq73 pAP8), .block 0, (sq73 pAP12)], [(59, .v (.bool true)), (61, .io .i64 t)], []⟩ ?_
     refine zC noF_stable 90 [.io .i64 t] (.bo (timeB t)) (fun _ _ w1 _ _ => rtime_any t w1) ?_
     refine zN [4] 0 ⟨.exit .ret, [], [(4, .bo (timeB t))], []⟩ ?_
     refine zE (.bo (timeB t)) ?_
     intro ρ w9 hm' hf
     refine ⟨congrArg (fun b => Ending.returned (Value.bool b)) ?_, hm'.below⟩
     exact beq_of (by
      rw [itB_iff]
      simp only [BEq.rfl, Bool.true_and, Bool.and_true, Bool.and_eq_true, Bool.and_eq_false_iff, beq_iff_eq, beq_eq_false_iff_ne, decide_eq_true_eq, decide_eq_false_iff_not, key_nil, ← List.length_eq_zero_iff, Bool.false_eq_true, true_iff, false_iff, ge_iff_le, time_iff, time_no, mkB_size] at *
      omega)
    refine zR 59 b2 ?_
    refine zN [4] 0 ⟨.exit .ret, [], [(4, .v (.bool false))], []⟩ ?_
    refine zE (.v (.bool false)) ?_
    intro ρ w9 hm' hf
    refine ⟨congrArg (fun b => Ending.returned (Value.bool b)) ?_, hm'.below⟩
    exact beq_of (by
     rw [itB_iff]
     simp only [BEq.rfl, Bool.true_and, Bool.and_true, Bool.and_eq_true, Bool.and_eq_false_iff, beq_iff_eq, beq_eq_false_iff_ne, decide_eq_true_eq, decide_eq_false_iff_not, key_nil, ← List.length_eq_zero_iff, Bool.false_eq_true, true_iff, false_iff, ge_iff_le, time_iff, time_no, mkB_size] at *
     omega)
   refine zR 52 b1 ?_
   refine zN [4] 0 ⟨.exit .ret, [], [(4, .v (.bool false))], []⟩ ?_
   refine zE (.v (.bool false)) ?_
   intro ρ w9 hm' hf
   refine ⟨congrArg (fun b => Ending.returned (Value.bool b)) ?_, hm'.below⟩
   exact beq_of (by
    rw [itB_iff]
    simp only [BEq.rfl, Bool.true_and, Bool.and_true, Bool.and_eq_true, Bool.and_eq_false_iff, beq_iff_eq, beq_eq_false_iff_ne, decide_eq_true_eq, decide_eq_false_iff_not, key_nil, ← List.length_eq_zero_iff, Bool.false_eq_true, true_iff, false_iff, ge_iff_le, time_iff, time_no, mkB_size] at *
    omega)
  refine zR 47 b0 ?_
  refine zN [4] 0 ⟨.exit .ret, [], [(4, .v (.bool false))], []⟩ ?_
  refine zE (.v (.bool false)) ?_
  intro ρ w9 hm' hf
  refine ⟨congrArg (fun b => Ending.returned (Value.bool b)) ?_, hm'.below⟩
  exact beq_of (by
   rw [itB_iff]
   simp only [BEq.rfl, Bool.true_and, Bool.and_true, Bool.and_eq_true, Bool.and_eq_false_iff, beq_iff_eq, beq_eq_false_iff_ne, decide_eq_true_eq, decide_eq_false_iff_not, key_nil, ← List.length_eq_zero_iff, Bool.false_eq_true, true_iff, false_iff, ge_iff_le, time_iff, time_no, mkB_size] at *
   omega)
 refine zR 36 b1 ?_
 refine zN [3, 5, 64] 3 ⟨.code (sub B73 [1, 1, 0, 1, 4, 1, 3, 1, 3, 1]), [.block 0, (sq73 pAP12)], [(3, .lp 1 0), (5, .lp 2 0), (64, .bo (ik == 3))], [((cfAP g s k sz sl of gp lt ea d), 25), ([.io .i64 ik, .so (mkB key), .io .i64 t, .io .i64 v, .io .i64 src], 38), ([.io .i64 ik, .v (.string (ByteArray.mk #[])), .v (.int .i64 0), .v (.int .i64 0), .v (.int .i64 0)], 38)]⟩ ?_
 rcases zB (ik == 3) with b2 | b2
 ·refine zR 64 b2 ?_
  refine zN [4] 0 ⟨.exit .ret, [], [(4, .bo (ik == ik && ((mkB key).toList == (ByteArray.mk #[]).toList && (t == 0 && (v == 0 && (src == 0 && true))))))], []⟩ ?_
  refine zE (.bo (ik == ik && ((mkB key).toList == (ByteArray.mk #[]).toList && (t == 0 && (v == 0 && (src == 0 && true)))))) ?_
  intro ρ w9 hm' hf
  refine ⟨congrArg (fun b => Ending.returned (Value.bool b)) ?_, hm'.below⟩
  exact beq_of (by
   rw [itB_iff]
   simp only [BEq.rfl, Bool.true_and, Bool.and_true, Bool.and_eq_true, Bool.and_eq_false_iff, beq_iff_eq, beq_eq_false_iff_ne, decide_eq_true_eq, decide_eq_false_iff_not, key_nil, ← List.length_eq_zero_iff, Bool.false_eq_true, true_iff, false_iff, ge_iff_le, time_iff, time_no, mkB_size] at *
   omega)
 refine zR 64 b2 ?_
 refine zN [4] 0 ⟨.exit .ret, [], [(4, .v (.bool false))], []⟩ ?_
 refine zE (.v (.bool false)) ?_
 intro ρ w9 hm' hf
 refine ⟨congrArg (fun b => Ending.returned (Value.bool b)) ?_, hm'.below⟩
 exact beq_of (by
  rw [itB_iff]
  simp only [BEq.rfl, Bool.true_and, Bool.and_true, Bool.and_eq_true, Bool.and_eq_false_iff, beq_iff_eq, beq_eq_false_iff_ne, decide_eq_true_eq, decide_eq_false_iff_not, key_nil, ← List.length_eq_zero_iff, Bool.false_eq_true, true_iff, false_iff, ge_iff_le, time_iff, time_no, mkB_size] at *
  omega)
noncomputable def B45 : Code := (Tryz.f45.body).getD .skip
noncomputable def sq45 (p : List Nat) : Go.Sx.K := .seq (sub B45 p)
set_option maxHeartbeats 8000000 in
set_option maxRecDepth 100000 in
theorem rstep_any (g s k sz sl of gp lt ea : Int) (d : Bool) (kd ik : Int) (key : List UInt8) (t v src wk wks bit mask : Int) (w : World) :
  Calls Tryz.prog 45 #[.agg #[.int .i64 g, .int .i64 s, .int .i64 k, .int .i64 sz, .int .i64 sl, .int .i64 of, .int .i64 gp, .int .i64 lt, .int .i64 ea, .bool d], .agg #[.int .i64 kd, .int .i64 ik, .string (mkB key), .int .i64 t, .int .i64 v, .int .i64 src, .int .i64 wk, .int .i64 wks, .int .i64 bit, .int .u32 mask]] w fun e w' => e = .returned (.bool (mayB ⟨g, s, k, sz, sl, of, gp, lt, ea, d⟩ ⟨kd, ik, key, t, v, src, wk, wks, bit, mask⟩)) ∧ Below w.heap.size w w' := by
 refine enter (fn := Tryz.f45) (c := B45) [.agg (cfAP g s k sz sl of gp lt ea d), .agg [.io .i64 kd, .io .i64 ik, .so (mkB key), .io .i64 t, .io .i64 v, .io .i64 src, .io .i64 wk, .io .i64 wks, .io .i64 bit, .io .u32 mask]] Tryz.func45 rfl rfl ?_
 refine zN [2, 3, 5, 11, 12] 3 ⟨.code (sub B45 [1, 1, 0, 1, 4, 1]), [.block 0, (sq45 pAP12)], [(2, .lp 0 0), (3, .lp 1 0), (5, .lp 2 0), (11, .io .i64 kd), (12, .bo (kd == 1))], [((cfAP g s k sz sl of gp lt ea d), 25), ([.io .i64 kd, .io .i64 ik, .so (mkB key), .io .i64 t, .io .i64 v, .io .i64 src, .io .i64 wk, .io .i64 wks, .io .i64 bit, .io IntKind.u32 mask], 41), ([.io .i64 kd, .v (.int .i64 0), .v (.string (ByteArray.mk #[])), .v (.int .i64 0), .v (.int .i64 0), .v (.int .i64 0), .v (.int .i64 0), .v (.int .i64 0), .v (.int .i64 0), .v (.int IntKind.u32 0)], 41)]⟩ ?_
 rcases zB (kd == 1) with b0 | b0
 ·refine zR 12 b0 ?_
  refine zN [3, 5, 17, 19] 3 ⟨pops B45 pAP7 3, [(sq45 pAP8), .block 0, (sq45 pAP12)], [(3, .lp 1 0), (5, .lp 2 0), (17, .agg (cfAP g s k sz sl of gp lt ea d)), (19, .agg [.io .i64 ik, .so (mkB key), .io .i64 t, .io .i64 v, .io .i64 src])], [((cfAP g s k sz sl of gp lt ea d), 25), ([.io .i64 kd, .io .i64 ik, .so (mkB key), .io .i64 t, .io .i64 v, .io .i64 src, .io .i64 wk, .io .i64 wks, .io .i64 bit, .io IntKind.u32 mask], 41), ([.io .i64 kd, .io .i64 ik, .so (mkB key), .io .i64 t, .io .i64 v, .io .i64 src, .v (.int .i64 0), .v (.int .i64 0), .v (.int .i64 0), .v (.int IntKind.u32 0)], 41)]⟩ ?_
  refine zC noF_stable 73 [.agg (cfAP g s k sz sl of gp lt ea d), .agg [.io .i64 ik, .so (mkB key), .io .i64 t, .io .i64 v, .io .i64 src]] (.bo (itB s ik key t v src)) (fun _ _ w1 _ _ => ritem_any g s k sz sl of gp lt ea d ik key t v src w1) ?_
  refine zN [6, 24] 0 ⟨pops B45 [1, 1, 0, 1, 4, 1, 2, 1, 1, 0] 4, [(sq45 pAP6), .block 0, (sq45 pAP12)], [(6, .bo (itB s ik key t v src)), (24, .bo (kd == kd && (ik == ik && ((mkB key).toList == (mkB key).toList && (t == t && (v == v && (src == src && true)))) && (wk == 0 && (wks == 0 && (bit == 0 && (mask == 0 && true)))))))], []⟩ ?_
  rcases zB (kd == kd && (ik == ik && ((mkB key).toList == (mkB key).toList && (t == t && (v == v && (src == src && true)))) && (wk == 0 && (wks == 0 && (bit == 0 && (mask == 0 && true)))))) with b0 | b0
  ·refine zR 24 b0 ?_
   refine zN [4] 0 ⟨.exit .ret, [], [(4, .bo (itB s ik key t v src))], []⟩ ?_
   refine zE (.bo (itB s ik key t v src)) ?_
   intro ρ w9 hm' hf
   refine ⟨congrArg (fun b => Ending.returned (Value.bool b)) ?_, hm'.below⟩
   exact beq_of (by
    rw [mayB_iff]
    simp only [BEq.rfl, Bool.true_and, Bool.and_true, Bool.and_eq_true, Bool.and_eq_false_iff, beq_iff_eq, beq_eq_false_iff_ne, decide_eq_true_eq, decide_eq_false_iff_not, key_nil, ← List.length_eq_zero_iff, Bool.false_eq_true, true_iff, false_iff, ge_iff_le, time_iff, time_no, mkB_size] at *
    try simp only [itB_iff, itB_no] at *
    omega)
  refine zR 24 b0 ?_
  refine zN [4] 0 ⟨.exit .ret, [], [(4, .v (.bool false))], []⟩ ?_
  refine zE (.v (.bool false)) ?_
  intro ρ w9 hm' hf
  refine ⟨congrArg (fun b => Ending.returned (Value.bool b)) ?_, hm'.below⟩
  exact beq_of (by
   rw [mayB_iff]
   simp only [BEq.rfl, Bool.true_and, Bool.and_true, Bool.and_eq_true, Bool.and_eq_false_iff, beq_iff_eq, beq_eq_false_iff_ne, decide_eq_true_eq, decide_eq_false_iff_not, key_nil, ← List.length_eq_zero_iff, Bool.false_eq_true, true_iff, false_iff, ge_iff_le, time_iff, time_no, mkB_size] at *
   try simp only [itB_iff, itB_no] at *
   omega)
 refine zR 12 b0 ?_
 refine zN [2, 3, 5, 11, 27] 3 ⟨.code (sub B45 [1, 1, 0, 1, 4, 1, 3, 1]), [.block 0, (sq45 pAP12)], [(2, .lp 0 0), (3, .lp 1 0), (5, .lp 2 0), (11, .io .i64 kd), (27, .bo (kd == 2))], [((cfAP g s k sz sl of gp lt ea d), 25), ([.io .i64 kd, .io .i64 ik, .so (mkB key), .io .i64 t, .io .i64 v, .io .i64 src, .io .i64 wk, .io .i64 wks, .io .i64 bit, .io IntKind.u32 mask], 41), ([.io .i64 kd, .v (.int .i64 0), .v (.string (ByteArray.mk #[])), .v (.int .i64 0), .v (.int .i64 0), .v (.int .i64 0), .v (.int .i64 0), .v (.int .i64 0), .v (.int .i64 0), .v (.int IntKind.u32 0)], 41)]⟩ ?_
 rcases zB (kd == 2) with b1 | b1
 ·refine zR 27 b1 ?_
  refine zN [3, 35] 2 ⟨pops B45 pAP5 4, [(sq45 pAP6), .block 0, (sq45 pAP12)], [(3, .lp 1 0), (35, .bo (kd == kd && (ik == 0 && ((mkB key).toList == (ByteArray.mk #[]).toList && (t == 0 && (v == 0 && (src == 0 && true)))) && (wk == wk && (wks == 0 && (bit == 0 && (mask == 0 && true)))))))], [((cfAP g s k sz sl of gp lt ea d), 25), ([.io .i64 kd, .io .i64 ik, .so (mkB key), .io .i64 t, .io .i64 v, .io .i64 src, .io .i64 wk, .io .i64 wks, .io .i64 bit, .io IntKind.u32 mask], 41)]⟩ ?_
  rcases zB (kd == kd && (ik == 0 && ((mkB key).toList == (ByteArray.mk #[]).toList && (t == 0 && (v == 0 && (src == 0 && true)))) && (wk == wk && (wks == 0 && (bit == 0 && (mask == 0 && true)))))) with b2 | b2
  ·refine zR 35 b2 ?_
   refine zN [4] 0 ⟨.exit .ret, [], [(4, .bo (decide (wk ≥ 0)))], []⟩ ?_
   refine zE (.bo (decide (wk ≥ 0))) ?_
   intro ρ w9 hm' hf
   refine ⟨congrArg (fun b => Ending.returned (Value.bool b)) ?_, hm'.below⟩
   exact beq_of (by
    rw [mayB_iff]
    simp only [BEq.rfl, Bool.true_and, Bool.and_true, Bool.and_eq_true, Bool.and_eq_false_iff, beq_iff_eq, beq_eq_false_iff_ne, decide_eq_true_eq, decide_eq_false_iff_not, key_nil, ← List.length_eq_zero_iff, Bool.false_eq_true, true_iff, false_iff, ge_iff_le, time_iff, time_no, mkB_size] at *
    try simp only [itB_iff, itB_no] at *
    omega)
  refine zR 35 b2 ?_
  refine zN [4] 0 ⟨.exit .ret, [], [(4, .v (.bool false))], []⟩ ?_
  refine zE (.v (.bool false)) ?_
  intro ρ w9 hm' hf
  refine ⟨congrArg (fun b => Ending.returned (Value.bool b)) ?_, hm'.below⟩
  exact beq_of (by
   rw [mayB_iff]
   simp only [BEq.rfl, Bool.true_and, Bool.and_true, Bool.and_eq_true, Bool.and_eq_false_iff, beq_iff_eq, beq_eq_false_iff_ne, decide_eq_true_eq, decide_eq_false_iff_not, key_nil, ← List.length_eq_zero_iff, Bool.false_eq_true, true_iff, false_iff, ge_iff_le, time_iff, time_no, mkB_size] at *
   try simp only [itB_iff, itB_no] at *
   omega)
 refine zR 27 b1 ?_
 refine zN [2, 3, 5, 11, 40] 3 ⟨.code (sub B45 [1, 1, 0, 1, 4, 1, 3, 1, 3, 1]), [.block 0, (sq45 pAP12)], [(2, .lp 0 0), (3, .lp 1 0), (5, .lp 2 0), (11, .io .i64 kd), (40, .bo (kd == 3))], [((cfAP g s k sz sl of gp lt ea d), 25), ([.io .i64 kd, .io .i64 ik, .so (mkB key), .io .i64 t, .io .i64 v, .io .i64 src, .io .i64 wk, .io .i64 wks, .io .i64 bit, .io IntKind.u32 mask], 41), ([.io .i64 kd, .v (.int .i64 0), .v (.string (ByteArray.mk #[])), .v (.int .i64 0), .v (.int .i64 0), .v (.int .i64 0), .v (.int .i64 0), .v (.int .i64 0), .v (.int .i64 0), .v (.int IntKind.u32 0)], 41)]⟩ ?_
 rcases zB (kd == 3) with b3 | b3
 ·refine zR 40 b3 ?_
  refine zN [4] 0 ⟨.exit .ret, [], [(4, .bo (kd == kd && (ik == 0 && ((mkB key).toList == (ByteArray.mk #[]).toList && (t == 0 && (v == 0 && (src == 0 && true)))) && (wk == 0 && (wks == 0 && (bit == 0 && (mask == 0 && true)))))))], []⟩ ?_
  refine zE (.bo (kd == kd && (ik == 0 && ((mkB key).toList == (ByteArray.mk #[]).toList && (t == 0 && (v == 0 && (src == 0 && true)))) && (wk == 0 && (wks == 0 && (bit == 0 && (mask == 0 && true))))))) ?_
  intro ρ w9 hm' hf
  refine ⟨congrArg (fun b => Ending.returned (Value.bool b)) ?_, hm'.below⟩
  exact beq_of (by
   rw [mayB_iff]
   simp only [BEq.rfl, Bool.true_and, Bool.and_true, Bool.and_eq_true, Bool.and_eq_false_iff, beq_iff_eq, beq_eq_false_iff_ne, decide_eq_true_eq, decide_eq_false_iff_not, key_nil, ← List.length_eq_zero_iff, Bool.false_eq_true, true_iff, false_iff, ge_iff_le, time_iff, time_no, mkB_size] at *
   try simp only [itB_iff, itB_no] at *
   omega)
 refine zR 40 b3 ?_
 refine zN [2, 3, 5, 11, 45] 3 ⟨.code (sub B45 [1, 1, 0, 1, 4, 1, 3, 1, 3, 1, 3, 1]), [.block 0, (sq45 pAP12)], [(2, .lp 0 0), (3, .lp 1 0), (5, .lp 2 0), (11, .io .i64 kd), (45, .bo (kd == 4))], [((cfAP g s k sz sl of gp lt ea d), 25), ([.io .i64 kd, .io .i64 ik, .so (mkB key), .io .i64 t, .io .i64 v, .io .i64 src, .io .i64 wk, .io .i64 wks, .io .i64 bit, .io IntKind.u32 mask], 41), ([.io .i64 kd, .v (.int .i64 0), .v (.string (ByteArray.mk #[])), .v (.int .i64 0), .v (.int .i64 0), .v (.int .i64 0), .v (.int .i64 0), .v (.int .i64 0), .v (.int .i64 0), .v (.int IntKind.u32 0)], 41)]⟩ ?_
 rcases zB (kd == 4) with b4 | b4
 ·refine zR 45 b4 ?_
  refine zN [2, 3, 53] 2 ⟨pops B45 pAP2 4, [(sq45 pAP6), .block 0, (sq45 pAP12)], [(2, .lp 0 0), (3, .lp 1 0), (53, .bo (kd == kd && (ik == 0 && ((mkB key).toList == (ByteArray.mk #[]).toList && (t == 0 && (v == 0 && (src == 0 && true)))) && (wk == 0 && (wks == wks && (bit == 0 && (mask == 0 && true)))))))], [((cfAP g s k sz sl of gp lt ea d), 25), ([.io .i64 kd, .io .i64 ik, .so (mkB key), .io .i64 t, .io .i64 v, .io .i64 src, .io .i64 wk, .io .i64 wks, .io .i64 bit, .io IntKind.u32 mask], 41)]⟩ ?_
  rcases zB (kd == kd && (ik == 0 && ((mkB key).toList == (ByteArray.mk #[]).toList && (t == 0 && (v == 0 && (src == 0 && true)))) && (wk == 0 && (wks == wks && (bit == 0 && (mask == 0 && true)))))) with b5 | b5
  ·refine zR 53 b5 ?_
   refine zN [2, 3, 58] 2 ⟨pops B45 pAP2 9, [(sq45 pAP6), .block 0, (sq45 pAP12)], [(2, .lp 0 0), (3, .lp 1 0), (58, .bo (decide (wks ≥ 1)))], [((cfAP g s k sz sl of gp lt ea d), 25), ([.io .i64 kd, .io .i64 ik, .so (mkB key), .io .i64 t, .io .i64 v, .io .i64 src, .io .i64 wk, .io .i64 wks, .io .i64 bit, .io IntKind.u32 mask], 41)]⟩ ?_
   rcases zB (decide (wks ≥ 1)) with b6 | b6
   ·refine zR 58 b6 ?_
    refine zN [4] 0 ⟨.exit .ret, [], [(4, .bo (decide (wks ≤ g)))], []⟩ ?_
    refine zE (.bo (decide (wks ≤ g))) ?_
    intro ρ w9 hm' hf
    refine ⟨congrArg (fun b => Ending.returned (Value.bool b)) ?_, hm'.below⟩
    exact beq_of (by
     rw [mayB_iff]
     simp only [BEq.rfl, Bool.true_and, Bool.and_true, Bool.and_eq_true, Bool.and_eq_false_iff, beq_iff_eq, beq_eq_false_iff_ne, decide_eq_true_eq, decide_eq_false_iff_not, key_nil, ← List.length_eq_zero_iff, Bool.false_eq_true, true_iff, false_iff, ge_iff_le, time_iff, time_no, mkB_size] at *
     try simp only [itB_iff, itB_no] at *
     omega)
   refine zR 58 b6 ?_
   refine zN [4] 0 ⟨.exit .ret, [], [(4, .v (.bool false))], []⟩ ?_
   refine zE (.v (.bool false)) ?_
   intro ρ w9 hm' hf
   refine ⟨congrArg (fun b => Ending.returned (Value.bool b)) ?_, hm'.below⟩
   exact beq_of (by
    rw [mayB_iff]
    simp only [BEq.rfl, Bool.true_and, Bool.and_true, Bool.and_eq_true, Bool.and_eq_false_iff, beq_iff_eq, beq_eq_false_iff_ne, decide_eq_true_eq, decide_eq_false_iff_not, key_nil, ← List.length_eq_zero_iff, Bool.false_eq_true, true_iff, false_iff, ge_iff_le, time_iff, time_no, mkB_size] at *
    try simp only [itB_iff, itB_no] at *
    omega)
  refine zR 53 b5 ?_
  refine zN [4] 0 ⟨.exit .ret, [], [(4, .v (.bool false))], []⟩ ?_
  refine zE (.v (.bool false)) ?_
  intro ρ w9 hm' hf
  refine ⟨congrArg (fun b => Ending.returned (Value.bool b)) ?_, hm'.below⟩
  exact beq_of (by
   rw [mayB_iff]
   simp only [BEq.rfl, Bool.true_and, Bool.and_true, Bool.and_eq_true, Bool.and_eq_false_iff, beq_iff_eq, beq_eq_false_iff_ne, decide_eq_true_eq, decide_eq_false_iff_not, key_nil, ← List.length_eq_zero_iff, Bool.false_eq_true, true_iff, false_iff, ge_iff_le, time_iff, time_no, mkB_size] at *
   try simp only [itB_iff, itB_no] at *
   omega)
 refine zR 45 b4 ?_
 refine zN [3, 5, 65] 3 ⟨.code (sub B45 [1, 1, 0, 1, 4, 1, 3, 1, 3, 1, 3, 1, 3, 1]), [.block 0, (sq45 pAP12)], [(3, .lp 1 0), (5, .lp 2 0), (65, .bo (kd == 5))], [((cfAP g s k sz sl of gp lt ea d), 25), ([.io .i64 kd, .io .i64 ik, .so (mkB key), .io .i64 t, .io .i64 v, .io .i64 src, .io .i64 wk, .io .i64 wks, .io .i64 bit, .io IntKind.u32 mask], 41), ([.io .i64 kd, .v (.int .i64 0), .v (.string (ByteArray.mk #[])), .v (.int .i64 0), .v (.int .i64 0), .v (.int .i64 0), .v (.int .i64 0), .v (.int .i64 0), .v (.int .i64 0), .v (.int IntKind.u32 0)], 41)]⟩ ?_
 rcases zB (kd == 5) with b7 | b7
 ·refine zR 65 b7 ?_
  refine zN [3, 5] 3 ⟨.any (opsOf (sub B45 [1, 1, 0, 1, 4, 1, 3, 1, 3, 1, 3, 1, 3, 1, 2, 0])) 8 [], [(sq45 [1, 1, 0, 1, 4, 1, 3, 1, 3, 1, 3, 1, 3, 1, 2, 1]), .block 0, (sq45 pAP12)], [(3, .lp 1 0), (5, .lp 2 0)], [((cfAP g s k sz sl of gp lt ea d), 25), ([.io .i64 kd, .io .i64 ik, .so (mkB key), .io .i64 t, .io .i64 v, .io .i64 src, .io .i64 wk, .io .i64 wks, .io .i64 bit, .io IntKind.u32 mask], 41), ([.io .i64 kd, .v (.int .i64 0), .v (.string (ByteArray.mk #[])), .v (.int .i64 0), .v (.int .i64 0), .v (.int .i64 0), .v (.int .i64 0), .v (.int .i64 0), .v (.int .i64 0), .v (.int IntKind.u32 0)], 41)]⟩ ?_
  refine At.anyOrder noF_stable (j := 0) (fun _ _ _ _ _ => trivial) rfl 20 3 [3, 5] 3 [(3, .lp 1 0), (5, .lp 2 0)] [((cfAP g s k sz sl of gp lt ea d), 25), ([.io .i64 kd, .io .i64 ik, .so (mkB key), .io .i64 t, .io .i64 v, .io .i64 src, .io .i64 wk, .io .i64 wks, .io .i64 bit, .io .u32 mask], 41), ([.io .i64 kd, .v (.int .i64 0), .v (.string (ByteArray.mk #[])), .v (.int .i64 0), .v (.int .i64 0), .v (.int .i64 0), .v (.int .i64 0), .v (.int .i64 0), .io .i64 bit, .io .u32 mask], 41)] (by kernel_rfl) (by kernel_rfl) ?_
  refine zN [3, 76] 2 ⟨pops B45 [1, 1, 0, 1, 4, 1, 3, 1, 3, 1, 3, 1, 3, 1, 2, 1, 0] 4, [(sq45 pAP6), .block 0, (sq45 pAP12)], [(3, .lp 1 0), (76, .bo (kd == kd && (ik == 0 && ((mkB key).toList == (ByteArray.mk #[]).toList && (t == 0 && (v == 0 && (src == 0 && true)))) && (wk == 0 && (wks == 0 && (bit == bit && (mask == mask && true)))))))], [((cfAP g s k sz sl of gp lt ea d), 25), ([.io .i64 kd, .io .i64 ik, .so (mkB key), .io .i64 t, .io .i64 v, .io .i64 src, .io .i64 wk, .io .i64 wks, .io .i64 bit, .io IntKind.u32 mask], 41)]⟩ ?_
  rcases zB (kd == kd && (ik == 0 && ((mkB key).toList == (ByteArray.mk #[]).toList && (t == 0 && (v == 0 && (src == 0 && true)))) && (wk == 0 && (wks == 0 && (bit == bit && (mask == mask && true)))))) with b0 | b0
  ·refine zR 76 b0 ?_
   refine zN [4] 0 ⟨.exit .ret, [], [(4, .bo (decide (bit ≥ 0)))], []⟩ ?_
   refine zE (.bo (decide (bit ≥ 0))) ?_
   intro ρ w9 hm' hf
   refine ⟨congrArg (fun b => Ending.returned (Value.bool b)) ?_, hm'.below⟩
   exact beq_of (by
    rw [mayB_iff]
    simp only [BEq.rfl, Bool.true_and, Bool.and_true, Bool.and_eq_true, Bool.and_eq_false_iff, beq_iff_eq, beq_eq_false_iff_ne, decide_eq_true_eq, decide_eq_false_iff_not, key_nil, ← List.length_eq_zero_iff, Bool.false_eq_true, true_iff, false_iff, ge_iff_le, time_iff, time_no, mkB_size] at *
    try simp only [itB_iff, itB_no] at *
    omega)
  refine zR 76 b0 ?_
  refine zN [4] 0 ⟨.exit .ret, [], [(4, .v (.bool false))], []⟩ ?_
  refine zE (.v (.bool false)) ?_
  intro ρ w9 hm' hf
  refine ⟨congrArg (fun b => Ending.returned (Value.bool b)) ?_, hm'.below⟩
  exact beq_of (by
   rw [mayB_iff]
   simp only [BEq.rfl, Bool.true_and, Bool.and_true, Bool.and_eq_true, Bool.and_eq_false_iff, beq_iff_eq, beq_eq_false_iff_ne, decide_eq_true_eq, decide_eq_false_iff_not, key_nil, ← List.length_eq_zero_iff, Bool.false_eq_true, true_iff, false_iff, ge_iff_le, time_iff, time_no, mkB_size] at *
   try simp only [itB_iff, itB_no] at *
   omega)
 refine zR 65 b7 ?_
 refine zN [4] 0 ⟨.exit .ret, [], [(4, .v (.bool false))], []⟩ ?_
 refine zE (.v (.bool false)) ?_
 intro ρ w9 hm' hf
 refine ⟨congrArg (fun b => Ending.returned (Value.bool b)) ?_, hm'.below⟩
 exact beq_of (by
  rw [mayB_iff]
  simp only [BEq.rfl, Bool.true_and, Bool.and_true, Bool.and_eq_true, Bool.and_eq_false_iff, beq_iff_eq, beq_eq_false_iff_ne, decide_eq_true_eq, decide_eq_false_iff_not, key_nil, ← List.length_eq_zero_iff, Bool.false_eq_true, true_iff, false_iff, ge_iff_le, time_iff, time_no, mkB_size] at *
  try simp only [itB_iff, itB_no] at *
  omega)
end Go.Proofs.YthfpekhpeiebjaaGreatDoor
end
section
namespace Go.Proofs.YthfpekhpeiebjaaGreatDoor
open Go.RowKit Go.Sx
def okS (c : Cf) (t : List UInt8) : Option St := match stepP t with
 | some x => if mayB c x = true then some x else none
 | none => none
theorem okS_none {c : Cf} {t : List UInt8} (h : stepP t = none) : okS c t = none := by simp [okS, h]
theorem okS_yes {c : Cf} {t : List UInt8} {x : St} (h : stepP t = some x) (h2 : mayB c x = true) : okS c t = some x := by simp [okS, h, h2]
theorem okS_no {c : Cf} {t : List UInt8} {x : St} (h : stepP t = some x) (h2 : mayB c x = false) : okS c t = none := by simp [okS, h, h2]
noncomputable def B35 : Code := (Tryz.f35.body).getD .skip
noncomputable def sq35 (p : List Nat) : Go.Sx.K := .seq (sub B35 p)
set_option maxHeartbeats 20000000 in
set_option maxRecDepth 100000 in
theorem rreads_any (g s k sz sl of gp lt ea : Int) (d : Bool) (t : List UInt8) (ht : t.length ≤ 1048576) (w : World) :
  Calls Tryz.prog 35 #[.agg #[.int .i64 g, .int .i64 s, .int .i64 k, .int .i64 sz, .int .i64 sl, .int .i64 of, .int .i64 gp, .int .i64 lt, .int .i64 ea, .bool d], .string (mkB t)] w fun e w' => e = .returned (rsV (okS ⟨g, s, k, sz, sl, of, gp, lt, ea, d⟩ t)) ∧ Below w.heap.size w w' := by
 refine enter (fn := Tryz.f35) (c := B35) [.agg (cfAP g s k sz sl of gp lt ea d), .so (mkB t)] Tryz.func35 rfl rfl ?_
 refine zN [2, 4, 10] 2 ⟨pops B35 [1, 0] 1, [(sq35 [1, 1])], [(2, .lp 0 0), (4, .lp 1 0), (10, .so (mkB t))], [((cfAP g s k sz sl of gp lt ea d), 25), (zAP1, 41)]⟩ ?_
 cases hk : stepP t with
 | none =>
  refine zC noF_stable 66 [.so (mkB t)] (.tup [.agg [.v (.int .i64 0), .v (.int .i64 0), .v (.string ⟨#[]⟩), .v (.int .i64 0), .v (.int .i64 0), .v (.int .i64 0), .v (.int .i64 0), .v (.int .i64 0), .v (.int .i64 0), .v (.int .u32 0)], .v (.bool false)]) (fun _ _ w1 _ _ => (rstepl_any t ht w1).mono fun e w2 h => by rw [hk] at h; exact h) ?_
  refine zN [4, 5] 2 ⟨.exit .ret, [], [(4, .lp 1 0), (5, .v (.bool false))], [((cfAP g s k sz sl of gp lt ea d), 25), (zAP1, 41)]⟩ ?_
  refine zE (.tup zAP0) ?_
  intro ρ w9 hm hf
  exact ⟨by rw [okS_none hk]; rfl, hm.below⟩
 | some x =>
  obtain ⟨kd, ik, key, ti, v, src, wk2, wks, bit, mask⟩ := x
  refine zC noF_stable 66 [.so (mkB t)] (.tup [.agg [.io .i64 kd, .io .i64 ik, .so (mkB key), .io .i64 ti, .io .i64 v, .io .i64 src, .io .i64 wk2, .io .i64 wks, .io .i64 bit, .io .u32 mask], .v (.bool true)]) (fun _ _ w1 _ _ => (rstepl_any t ht w1).mono fun e w2 h => by rw [hk] at h; exact h) ?_
  refine zN [4, 6, 17, 18] 3 ⟨pops B35 [1, 1, 1, 0] 2, [(sq35 [1, 1, 1, 1])], [(4, .lp 1 0), (6, .lp 2 0), (17, .agg (cfAP g s k sz sl of gp lt ea d)), (18, .agg [.io .i64 kd, .io .i64 ik, .so (mkB key), .io .i64 ti, .io .i64 v, .io .i64 src, .io .i64 wk2, .io .i64 wks, .io .i64 bit, .io IntKind.u32 mask])], [((cfAP g s k sz sl of gp lt ea d), 25), (zAP1, 41), ([.io .i64 kd, .io .i64 ik, .so (mkB key), .io .i64 ti, .io .i64 v, .io .i64 src, .io .i64 wk2, .io .i64 wks, .io .i64 bit, .io IntKind.u32 mask], 41)]⟩ ?_
  refine zC noF_stable 45 [.agg (cfAP g s k sz sl of gp lt ea d), .agg [.io .i64 kd, .io .i64 ik, .so (mkB key), .io .i64 ti, .io .i64 v, .io .i64 src, .io .i64 wk2, .io .i64 wks, .io .i64 bit, .io .u32 mask]] (.bo (mayB ⟨g, s, k, sz, sl, of, gp, lt, ea, d⟩ ⟨kd, ik, key, ti, v, src, wk2, wks, bit, mask⟩)) (fun _ _ w1 _ _ => rstep_any g s k sz sl of gp lt ea d kd ik key ti v src wk2 wks bit mask w1) ?_
  refine zNq [4, 6, 21] 3 ?_
  rcases zB (!mayB (Cf.mk g s k sz sl of gp lt ea d) (St.mk kd ik key ti v src wk2 wks bit mask)) with b0 | b0
  ·refine zR 21 b0 ?_
   refine zN [4, 5] 2 ⟨.exit .ret, [], [(4, .lp 1 0), (5, .v (.bool false))], [((cfAP g s k sz sl of gp lt ea d), 25), (zAP1, 41)]⟩ ?_
   refine zE (.tup zAP0) ?_
   intro ρ w9 hm hf
   exact ⟨by rw [okS_no hk (by simpa using b0)]; rfl, hm.below⟩
  refine zR 21 b0 ?_
  refine zN [4, 5] 2 ⟨.exit .ret, [], [(4, .lp 1 0), (5, .v (.bool true))], [((cfAP g s k sz sl of gp lt ea d), 25), ([.io .i64 kd, .io .i64 ik, .so (mkB key), .io .i64 ti, .io .i64 v, .io .i64 src, .io .i64 wk2, .io .i64 wks, .io .i64 bit, .io IntKind.u32 mask], 41)]⟩ ?_
  refine zE (.tup [.agg [.io .i64 kd, .io .i64 ik, .so (mkB key), .io .i64 ti, .io .i64 v, .io .i64 src, .io .i64 wk2, .io .i64 wks, .io .i64 bit, .io IntKind.u32 mask], .v (.bool true)]) ?_
  intro ρ w9 hm hf
  exact ⟨by rw [okS_yes hk (by simpa using b0)]; rfl, hm.below⟩
end Go.Proofs.YthfpekhpeiebjaaGreatDoor
end
section
namespace Go.Proofs.YthfpekhpeiebjaaGreatDoor
open Go.RowKit Go.Sx
end Go.Proofs.YthfpekhpeiebjaaGreatDoor
end
section
namespace Go.Proofs.YthfpekhpeiebjaaGreatDoor
open Go.RowKit Go.Sx
end Go.Proofs.YthfpekhpeiebjaaGreatDoor
end
section
/-! In a region that draws its order: an operation that looks at memory, taken ahead of those that leave what was there as it was. -/
namespace Go.Sx
open Go.RowKit
section
variable {P : Program} {Q : Exit → Act → World → Prop} {N : Nat} {w0 : World} {ntm : Nat} {F : List Nat → World → Prop}
theorem run_buildSlice_ok {t : TypeId} {len : Nat} {parts : Array (Nat × Value)} {v : Value} {w w' : World} (h : (Instr.buildSlice t len parts).run P w = .ok v w') : ∃ o, w' = w.alloc o := by
 unfold Instr.buildSlice at h
 cases hu : P.underlying t with
 | none => simp [underlying, hu, Result.andThen] at h
 | some d =>
  cases d
  case slice e =>
   cases hi : P.info? e with
   | none => simp [run_underlying hu, sizeOf, typeInfo, hi, Result.andThen] at h
   | some i =>
    simp only [Sem.run_bind, run_underlying hu, sizeOf, typeInfo, run_program, hi, Result.andThen_ok, Sem.run_pure] at h
    by_cases hbig : len * i.size > 2 ^ 24
    ·rw [if_pos hbig] at h
     simp [Result.andThen] at h
    rw [if_neg hbig] at h
    by_cases h0 : len * i.size = 0
    ·rw [if_pos h0] at h
     simp only [Sem.run_bind, Sem.run_pure, Result.andThen_ok] at h
     split at h
     ·simp [newRow, Result.andThen] at h
      exact ⟨_, h.2.symm⟩
     simp [Result.andThen] at h
    rw [if_neg h0] at h
    cases hz : i.zero with
    | none => simp [zeroValue, typeInfo, run_program, hi, hz, Result.andThen] at h
    | some z =>
     simp only [Sem.run_bind, zeroValue, typeInfo, run_program, hi, hz, Sem.run_pure, Result.andThen_ok] at h
     split at h
     ·simp [newRow, Result.andThen] at h
      exact ⟨_, h.2.symm⟩
     simp [Result.andThen] at h
  all_goals simp [run_underlying hu, Result.andThen] at h
def isBS (o : Oper) : Bool := match o.op with
 | .buildSlice .. => true
 | _ => false
theorem isBS_run {o : Oper} {a : Act} {w w' : World} {n : Go.Next} (h : isBS o = true) (hr : (execOp a.eval o).run P w = .ok n w') : ∃ v ob, n = .value v ∧ w' = w.alloc ob := by
 obtain ⟨dst, op, ty, pos, after, guard⟩ := o
 cases op <;> simp only [isBS] at h <;> try (cases h; done)
 rename_i t len parts
 simp only [execOp, Sem.run_bind] at hr
 generalize hq : (Instr.buildSlice t len (parts.map fun x => (x.1, a.eval x.2))).run P w = q at hr
 cases q with
 | halt x y => simp [Result.andThen] at hr
 | ok v y =>
  simp only [Result.andThen_ok, Sem.run_pure, Result.ok.injEq] at hr
  obtain ⟨rfl, rfl⟩ := hr
  obtain ⟨ob, rfl⟩ := run_buildSlice_ok hq
  exact ⟨v, ob, rfl, rfl⟩
theorem WInv.later {ρ : List Nat} {loc : Loc} {w w' : World} (h : WInv N w0 ρ loc w) (hb : Below w.heap.size w w') : WInv N w0 ρ loc w' :=
 ⟨h.below.trans ⟨hb.os, hb.tape, hb.output, hb.size, fun k hk => hb.block k (Nat.lt_of_lt_of_le hk h.hN)⟩, Nat.le_trans h.hN hb.size, h.len, h.nodup, fun b hm => ⟨(h.ge b hm).1, Nat.lt_of_lt_of_le (h.ge b hm).2 hb.size⟩, fun i c t hi => by
  have := h.cells i c t hi
  rw [hb.block _ (Array.getElem?_eq_some_iff.1 this).1]
  exact this⟩
end
end Go.Sx
end
section
/-! A region that draws its order: each operation's value by itself, whatever went before. -/
namespace Go.Sx
open Go.RowKit
inductive Kn where
 | eq (s : SV)
 | ex (X : Type) (r : X → SV) (G : X → List Nat → World → Prop)
def Kn.ok : Kn → List Nat → World → Value → Prop
 | .eq s, ρ, _, v => v = s.den ρ
 | .ex _ r G, ρ, w, v => ∃ x, v = (r x).den ρ ∧ G x ρ w
def Kn.St : Kn → Prop
 | .eq _ => True
 | .ex _ _ G => ∀ x, Stable (G x)
theorem Kn.ok.keep {k : Kn} (hs : k.St) {ρ : List Nat} {w w' : World} {v : Value} (h : k.ok ρ w v) (hb : Below w.heap.size w w') : k.ok ρ w' v := by
 cases k with
 | eq s => exact h
 | ex X r G =>
  obtain ⟨x, hx, hg⟩ := h
  exact ⟨x, hx, hs x ρ w ρ w' (Grow.refl _ _) (Keep.of_below hb) hg⟩
def knOf : List (Nat × Kn) → Nat → Option Kn
 | [], _ => none
 | (k, s) :: l, t => match Nat.beq k t with | true => some s | false => knOf l t
def Done (all : Array Oper) (L0 : Array Bool) (kn : List (Nat × Kn)) (ρ : List Nat) (L : Array Bool) (a : Act) (w : World) : Prop :=
 ∀ i o t k, all[i]? = some o → L0.getD i true = false → L.getD i true = true → o.dst = some t → knOf kn i = some k → ∃ v, a.tmps[t]? = some v ∧ k.ok ρ w v
def eqFr (all : Array Oper) (L0 : Array Bool) (kn : List (Nat × Kn)) : List Nat → Fr → Fr
 | [], fr => fr
 | i :: l, fr => match L0.getD i true, all[i]?, knOf kn i with
  | false, some ⟨some t, _, _, _, _, _⟩, some (.eq s) => (t, s) :: eqFr all L0 kn l fr
  | _, _, _ => eqFr all L0 kn l fr
def onsOf (o : Oper) : List Nat := (o.after.toList.filter (Region.binds .any)).map (·.on)
theorem AInv.moreK {ntm : Nat} {ρ : List Nat} {fr : Fr} {a : Act} (h : AInv ntm ρ fr a) {t : Nat} {s : SV} (hs : a.tmps[t]? = some (s.den ρ)) : AInv ntm ρ ((t, s) :: fr) a := by
 refine ⟨h.defers, h.size, fun t' s' hl => ?_⟩
 simp only [look] at hl
 split at hl
 ·rename_i e
  have e := Nat.eq_of_beq_eq_true e
  subst e
  simp only [Option.some.injEq] at hl
  subst hl
  exact hs
 exact h.slot t' s' hl
theorem Done.fr {all : Array Oper} {L0 L : Array Bool} {kn : List (Nat × Kn)} {ρ : List Nat} {a : Act} {w : World} {ntm : Nat} {fr : Fr} (hd : Done all L0 kn ρ L a w) (ha : AInv ntm ρ fr a) : ∀ (l : List Nat), (∀ i ∈ l, L0.getD i true = false → L.getD i true = true) → AInv ntm ρ (eqFr all L0 kn l fr) a
 | [], _ => ha
 | i :: l, hl => by
  have ih := hd.fr ha l fun j hj => hl j (List.mem_cons_of_mem _ hj)
  unfold eqFr
  split
  ·rename_i h1 t op ty pos af g s h2 h3 h4
   obtain ⟨v, hv, hk⟩ := hd i _ t _ h3 h2 (hl i (List.mem_cons_self ..) h2) rfl h4
   exact ih.moreK (by rw [hv]; exact congrArg some hk)
  exact ih
section
variable {P : Program} {Q : Exit → Act → World → Prop} {N : Nat} {w0 : World} {ntm : Nat} {F : List Nat → World → Prop}
def StepK (P : Program) (N : Nat) (w0 : World) (ntm : Nat) (F : List Nat → World → Prop) (all : Array Oper) (L0 : Array Bool) (kn : List (Nat × Kn)) (fr0 : Fr) (loc : Loc) (i : Nat) : Prop :=
 ∀ o k, all[i]? = some o → knOf kn i = some k → ∀ ρ L a w, AInv ntm ρ (eqFr all L0 kn (onsOf o) fr0) a → Done all L0 kn ρ L a w → (∀ j ∈ onsOf o, L.getD j true = true) → WInv N w0 ρ loc w → F ρ w →
  Region.wanted o (yielded all a.tmps) = true ∧ o.wp P a w (fun a' w' => ∃ v, a' = a.put o.dst v ∧ k.ok ρ w' v ∧ Below w.heap.size w w') (fun _ _ _ => False)
def pureK (P : Program) (all : Array Oper) (L0 : Array Bool) (kn : List (Nat × Kn)) (fr0 : Fr) (loc : Loc) (i : Nat) : Option SV :=
 match all[i]? with
 | some o => match guardS all (eqFr all L0 kn (onsOf o) fr0) o with
  | some true => pureOp P loc (eqFr all L0 kn (onsOf o) fr0) o.op
  | _ => none
 | none => none
theorem StepK.pure {all : Array Oper} {L0 : Array Bool} {kn : List (Nat × Kn)} {fr0 : Fr} {loc : Loc} {i : Nat} {s : SV} (hs : pureK P all L0 kn fr0 loc i = some s) (hk : knOf kn i = some (.eq s)) : StepK P N w0 ntm F all L0 kn fr0 loc i := by
 intro o k ho hk' ρ L a w ha hd hl hw hf
 rw [hk] at hk'
 simp only [Option.some.injEq] at hk'
 subst hk'
 unfold pureK at hs
 simp only [ho] at hs
 split at hs
 ·rename_i hg
  refine ⟨guardS_ok ha hg, ?_⟩
  unfold Oper.wp
  rw [run_pureOp (N := N) (w0 := w0) ha (fun _ => hw) hs]
  exact ⟨_, rfl, rfl, Below.refl _ _⟩
 cases hs
def atK (all : Array Oper) (L0 : Array Bool) (kn : List (Nat × Kn)) (fr0 : Fr) (i : Nat) : Option (Oper × Fr) :=
 match all[i]? with
 | some o => match guardS all (eqFr all L0 kn (onsOf o) fr0) o with
  | some true => some (o, eqFr all L0 kn (onsOf o) fr0)
  | _ => none
 | none => none
theorem StepK.run {all : Array Oper} {L0 : Array Bool} {kn : List (Nat × Kn)} {fr0 fr : Fr} {loc : Loc} {i : Nat} {o : Oper} {s : SV} (ho : atK all L0 kn fr0 i = some (o, fr)) (hk : knOf kn i = some (.eq s))
  (hr : ∀ ρ a w, AInv ntm ρ fr a → WInv N w0 ρ loc w → F ρ w → (execOp a.eval o).run P w = .ok (.value (s.den ρ)) w) : StepK P N w0 ntm F all L0 kn fr0 loc i := by
 intro o' k ho' hk' ρ L a w ha hd hl hw hf
 rw [hk] at hk'
 simp only [Option.some.injEq] at hk'
 subst hk'
 unfold atK at ho
 simp only [ho'] at ho
 split at ho
 ·rename_i hg
  simp only [Option.some.injEq, Prod.mk.injEq] at ho
  obtain ⟨rfl, rfl⟩ := ho
  refine ⟨guardS_ok ha hg, ?_⟩
  unfold Oper.wp
  rw [hr ρ a w ha hw hf]
  exact ⟨_, rfl, rfl, Below.refl _ _⟩
 cases ho
def exAt (all : Array Oper) (L0 : Array Bool) (i j : Nat) : Option Nat :=
 match all[i]?, all[j]?, L0.getD j true with
 | some o, some oj, false => match (onsOf o).contains j with
  | true => oj.dst
  | false => none
 | _, _, _ => none
theorem StepK.runX {all : Array Oper} {L0 : Array Bool} {kn : List (Nat × Kn)} {fr0 fr : Fr} {loc : Loc} {i : Nat} {o : Oper} {s : SV} {X : Type} {r : X → SV} {G : X → List Nat → World → Prop} (j t : Nat) (ho : atK all L0 kn fr0 i = some (o, fr)) (hk : knOf kn i = some (.eq s)) (hj : exAt all L0 i j = some t) (hkj : knOf kn j = some (.ex X r G))
  (hr : ∀ x ρ a w, AInv ntm ρ ((t, r x) :: fr) a → WInv N w0 ρ loc w → F ρ w → G x ρ w → (execOp a.eval o).run P w = .ok (.value (s.den ρ)) w) : StepK P N w0 ntm F all L0 kn fr0 loc i := by
 intro o' k ho' hk' ρ L a w ha hd hl hw hf
 rw [hk] at hk'
 simp only [Option.some.injEq] at hk'
 subst hk'
 unfold atK at ho
 simp only [ho'] at ho
 split at ho
 ·rename_i hg
  simp only [Option.some.injEq, Prod.mk.injEq] at ho
  obtain ⟨rfl, rfl⟩ := ho
  refine ⟨guardS_ok ha hg, ?_⟩
  unfold exAt at hj
  split at hj
  ·rename_i o2 oj h1 h2 h3
   rw [ho'] at h1
   simp only [Option.some.injEq] at h1
   subst h1
   split at hj
   ·rename_i hjo
    obtain ⟨v, hv, x, rfl, hx⟩ := hd j oj t _ h2 h3 (hl j (List.contains_iff_mem.1 hjo)) hj hkj
    unfold Oper.wp
    rw [hr x ρ a w (ha.moreK hv) hw hf hx]
    exact ⟨_, rfl, rfl, Below.refl _ _⟩
   cases hj
  cases hj
 cases ho
theorem StepK.call {all : Array Oper} {L0 : Array Bool} {kn : List (Nat × Kn)} {fr0 : Fr} {loc : Loc} {i : Nat} {k : Kn} (g : FuncId) (vs : List SV) (hq : ((atK all L0 kn fr0 i).bind fun x => callS x.2 x.1) = some (g, vs)) (hk : knOf kn i = some k) (hb : bodied P g = true)
  (hr : ∀ ρ w, WInv N w0 ρ loc w → F ρ w → Calls P g (SV.denL ρ vs).toArray w fun e w' => ∃ v, e = .returned v ∧ k.ok ρ w' v ∧ Below w.heap.size w w') : StepK P N w0 ntm F all L0 kn fr0 loc i := by
 obtain ⟨⟨o, fr⟩, ho, hc⟩ := Option.bind_eq_some_iff.1 hq
 intro o' k' ho' hk' ρ L a w ha hd hl hw hf
 rw [hk] at hk'
 simp only [Option.some.injEq] at hk'
 subst hk'
 unfold atK at ho
 simp only [ho'] at ho
 split at ho
 ·rename_i hg
  simp only [Option.some.injEq, Prod.mk.injEq] at ho
  obtain ⟨rfl, rfl⟩ := ho
  refine ⟨guardS_ok ha hg, ?_⟩
  unfold Oper.wp
  rw [run_callS ha hc hb]
  refine (hr ρ w hw hf).mono ?_
  rintro e w' ⟨v, rfl, h1, h2⟩
  exact ⟨v, rfl, h1, h2⟩
 cases ho
def cntL (n : Nat) (L : Array Bool) : Nat := ((List.range n).filter fun j => !L.getD j true).length
theorem cntL_set {n i : Nat} {L : Array Bool} (hi : i < n) (h : L.getD i true = false) : cntL n (L.setIfInBounds i true) < cntL n L := by
 have hsz : i < L.size := by
  rcases Nat.lt_or_ge i L.size with h' | h'
  ·exact h'
  simp [Array.getElem?_eq_none h'] at h
 have hs : ((List.range n).filter fun j => !(L.setIfInBounds i true).getD j true).Sublist ((List.range n).filter fun j => !L.getD j true) := by
  have e : ((List.range n).filter fun j => !(L.setIfInBounds i true).getD j true) = ((List.range n).filter fun j => !L.getD j true).filter fun j => !(L.setIfInBounds i true).getD j true := by
   rw [List.filter_filter]
   refine List.filter_congr fun j _ => ?_
   by_cases hij : i = j
   ·subst hij; simp [hsz]
   rw [getD_set_ne true hij]; simp
  rw [e]
  exact List.filter_sublist
 unfold cntL
 refine Nat.lt_of_le_of_ne hs.length_le fun e => ?_
 have := hs.eq_of_length e
 have hm : i ∈ ((List.range n).filter fun j => !L.getD j true) := List.mem_filter.2 ⟨List.mem_range.2 hi, by rw [h]; rfl⟩
 rw [← this] at hm
 have := (List.mem_filter.1 hm).2
 simp [hsz] at this
def fwd (all : Array Oper) : Bool := (List.range all.size).all fun i => match all[i]? with
 | some o => (onsOf o).all fun j => Nat.blt j i
 | none => true
theorem ready_nil {all : Array Oper} {L : Array Bool} (hf : fwd all = true) (hs : L.size = all.size) (h : Region.ready .any all L = []) : ∀ i, L.getD i true = true := by
 intro i
 induction i using Nat.strongRecOn with
 | _ i ih =>
  cases hi : L.getD i true with
  | true => rfl
  | false =>
   have hlt : i < L.size := by
    rcases Nat.lt_or_ge i L.size with h' | h'
    ·exact h'
    simp [Array.getElem?_eq_none h'] at hi
   have ho : all[i]? = some all[i] := Array.getElem?_eq_getElem (by omega)
   have hm : i ∈ Region.ready .any all L := by
    refine mem_ready.2 ⟨hi, _, ho, fun e he hb => ?_⟩
    have h1 := List.all_eq_true.1 hf i (List.mem_range.2 (by omega))
    rw [ho] at h1
    have h2 := List.all_eq_true.1 h1 e.on (List.mem_map.2 ⟨e, List.mem_filter.2 ⟨by simpa using he, hb⟩, rfl⟩)
    have h3 : e.on < i := by simpa using h2
    have h4 := ih e.on h3
    have hlt2 : e.on < L.size := by omega
    simpa [Array.getElem?_eq_getElem hlt2] using h4
   rw [h] at hm
   cases hm
def pendL (n : Nat) (L0 : Array Bool) : List Nat := (List.range n).filter fun j => !L0.getD j true
def okK (ntm : Nat) (all : Array Oper) (g : Nat) (L0 : Array Bool) (kn : List (Nat × Kn)) : Bool :=
 fwd all && (Nat.beq L0.size all.size && (Nat.ble (cntL all.size L0) g && ((pendL all.size L0).all (fun i => (knOf kn i).isSome && (match all[i]? with
  | some o => match o.dst with
   | some t => Nat.blt t ntm
   | none => false
  | none => false)) && decide (((pendL all.size L0).filterMap fun i => (all[i]?).bind (·.dst)).Nodup))))
theorem nodup_ne {l : List Nat} {f : Nat → Option Nat} (h : (l.filterMap f).Nodup) {i j t : Nat} (hi : i ∈ l) (hj : j ∈ l) (hij : i ≠ j) (h1 : f i = some t) : f j ≠ some t := by
 induction l with
 | nil => cases hi
 | cons x l ih =>
  intro h2
  rw [List.filterMap_cons] at h
  rcases List.mem_cons.1 hi with hi2 | hi2
  ·subst hi2
   rcases List.mem_cons.1 hj with hj2 | hj2
   ·exact hij hj2.symm
   rw [h1] at h
   exact (List.nodup_cons.1 h).1 (List.mem_filterMap.2 ⟨j, hj2, h2⟩)
  rcases List.mem_cons.1 hj with hj2 | hj2
  ·subst hj2
   rw [h2] at h
   exact (List.nodup_cons.1 h).1 (List.mem_filterMap.2 ⟨i, hi2, h1⟩)
  refine ih ?_ hi2 hj2 h2
  cases hx : f x with
  | none => rw [hx] at h; exact h
  | some y => rw [hx] at h; exact (List.nodup_cons.1 h).2
theorem drawn_all {all : Array Oper} {g : Nat} {L0 : Array Bool} {kn : List (Nat × Kn)} {fr0 : Fr} {ds : List Nat} {fr : Fr} {loc : Loc} (hfr : fr0 = drops ds fr) (hds : ∀ o ∈ unl all L0, ∀ t, o.dst = some t → t ∈ ds) (hok : okK ntm all g L0 kn = true) (hF : Stable F) (hkn : ∀ i k, knOf kn i = some k → k.St)
  (hst : ∀ i, L0.getD i true = false → i < all.size → StepK P N w0 ntm F all L0 kn fr0 loc i) {ρ : List Nat} {Q : Exit → Act → World → Prop}
  (hQ : ∀ a w, AInv ntm ρ fr0 a → Done all L0 kn ρ (Array.replicate all.size true) a w → WInv N w0 ρ loc w → F ρ w → Q .normal a w) :
  ∀ (f : Nat) (L : Array Bool) (a : Act) (w : World), L.size = all.size → (∀ i, L0.getD i true = true → L.getD i true = true) → cntL all.size L ≤ f → AInv ntm ρ fr0 a → Done all L0 kn ρ L a w → WInv N w0 ρ loc w → F ρ w → wpAny P .any all Q f L a w := by
 simp only [okK, Bool.and_eq_true] at hok
 obtain ⟨hfw, hs0, _, hp, hnd⟩ := hok
 have hend : ∀ (L : Array Bool) (a : Act) (w : World), L.size = all.size → Region.ready .any all L = [] → AInv ntm ρ fr0 a → Done all L0 kn ρ L a w → WInv N w0 ρ loc w → F ρ w → Q .normal a w := fun L a w hsz hr ha hd hw hf =>
  hQ a w ha (fun i o t k h1 h2 _ h4 h5 => hd i o t k h1 h2 (ready_nil hfw hsz hr i) h4 h5) hw hf
 intro f
 induction f with
 | zero =>
  intro L a w hsz hsub hc ha hd hw hf
  have hr : Region.ready .any all L = [] := by
   refine List.eq_nil_iff_forall_not_mem.2 fun i hi => ?_
   obtain ⟨h1, o, ho, _⟩ := mem_ready.1 hi
   have := cntL_set (Array.getElem?_eq_some_iff.1 ho).1 h1
   omega
  exact ⟨hr, hend L a w hsz hr ha hd hw hf⟩
 | succ f ih =>
  intro L a w hsz hsub hc ha hd hw hf
  refine ⟨fun hr => hend L a w hsz hr ha hd hw hf, fun i hi => ?_⟩
  obtain ⟨h1, o, ho, hall⟩ := mem_ready.1 hi
  have hlt := (Array.getElem?_eq_some_iff.1 ho).1
  have h0 : L0.getD i true = false := by
   cases h : L0.getD i true with
   | false => rfl
   | true => rw [hsub i h] at h1; cases h1
  have hpi : i ∈ pendL all.size L0 := List.mem_filter.2 ⟨List.mem_range.2 hlt, by rw [h0]; rfl⟩
  have hpp := List.all_eq_true.1 hp i hpi
  rw [ho] at hpp
  simp only [Bool.and_eq_true] at hpp
  obtain ⟨hkk, hdst⟩ := hpp
  obtain ⟨k, hk⟩ := Option.isSome_iff_exists.1 hkk
  obtain ⟨t, ht, htn⟩ : ∃ t, o.dst = some t ∧ t < ntm := by
   split at hdst
   ·rename_i t ht
    exact ⟨t, ht, by simpa using hdst⟩
   cases hdst
  have hons : ∀ j ∈ onsOf o, L.getD j true = true := fun j hj => by
   obtain ⟨e, he, rfl⟩ := List.mem_map.1 hj
   obtain ⟨he1, he2⟩ := List.mem_filter.1 he
   have h5 := hall e (by simpa using he1) he2
   rcases Nat.lt_or_ge e.on L.size with h' | h'
   ·simpa [Array.getElem?_eq_getElem h'] using h5
   simp [Array.getElem?_eq_none h'] at h5
  obtain ⟨hwn, hwp⟩ := hst i h0 hlt o k ho hk ρ L a w (hd.fr ha _ fun j hj _ => hons j hj) hd hons hw hf
  unfold wpOp
  simp only [ho, hwn, if_true]
  refine .inl (wp_mono2 ?_ (fun _ _ _ h => h.elim) hwp)
  rintro a' w' ⟨v, rfl, hv, hb⟩
  have hat : t < a.tmps.size := by rw [ha.size]; exact htn
  have hput : (a.put o.dst v).tmps = a.tmps.setIfInBounds t v := by rw [ht]; rfl
  refine ih _ _ _ (by simpa using hsz) (fun j hj => ?_) ?_ ?_ ?_ (hw.later hb) (hF ρ w ρ w' (Grow.refl _ _) (Keep.of_below hb) hf)
  ·by_cases hij : i = j
   ·subst hij; simp [show i < L.size by omega]
   rw [getD_set_ne true hij]; exact hsub j hj
  ·have := cntL_set (n := all.size) hlt h1
   omega
  ·subst hfr
   exact ha.over (hds o (mem_unl ho h0)) v
  intro j oj tj kj hj1 hj2 hj3 hj4 hj5
  rw [hput]
  by_cases hij : i = j
  ·subst hij
   rw [ho] at hj1
   simp only [Option.some.injEq] at hj1
   subst hj1
   rw [ht] at hj4
   simp only [Option.some.injEq] at hj4
   subst hj4
   rw [hk] at hj5
   simp only [Option.some.injEq] at hj5
   subst hj5
   exact ⟨v, by simp [hat], hv⟩
  rw [getD_set_ne true hij] at hj3
  obtain ⟨u, hu1, hu2⟩ := hd j oj tj kj hj1 hj2 hj3 hj4 hj5
  have hjp : j ∈ pendL all.size L0 := List.mem_filter.2 ⟨List.mem_range.2 (Array.getElem?_eq_some_iff.1 hj1).1, by rw [hj2]; rfl⟩
  have hne : t ≠ tj := fun e => nodup_ne (of_decide_eq_true hnd) hpi hjp hij (show ((all[i]?).bind (·.dst)) = some t by rw [ho]; exact ht) (show ((all[j]?).bind (·.dst)) = some t by rw [hj1, e]; exact hj4)
  exact ⟨u, by rw [Array.getElem?_setIfInBounds_ne hne]; exact hu1, hu2.keep (hkn j kj hj5) hb⟩
theorem At.drawn {Y : Type} {s : S} {all : Array Oper} {g : Nat} {dn : List Nat} (kn : List (Nat × Kn)) (frY : Y → Fr) (GY : Y → List Nat → World → Prop) (hpc : s.pc = .any all g dn) (hok : okK ntm all g (listedOf all.size dn) kn = true) (hF : Stable F) (hkn : ∀ i k, knOf kn i = some k → k.St)
  (hst : ∀ i ∈ pendL all.size (listedOf all.size dn), StepK P N w0 ntm F all (listedOf all.size dn) kn (drops ((unl all (listedOf all.size dn)).filterMap (·.dst)) s.fr) s.loc i)
  (hfin : ∀ ρ a w, AInv ntm ρ (eqFr all (listedOf all.size dn) kn (pendL all.size (listedOf all.size dn)) (drops ((unl all (listedOf all.size dn)).filterMap (·.dst)) s.fr)) a → Done all (listedOf all.size dn) kn ρ (Array.replicate all.size true) a w → F ρ w → ∃ y, AInv ntm ρ (frY y) a ∧ GY y ρ w)
  (h : ∀ y, At P Q N w0 ntm (GY y) ⟨.exit .normal, s.ks, frY y, s.loc⟩) : At P Q N w0 ntm F s := by
 have hok' := hok
 simp only [okK, Bool.and_eq_true] at hok'
 obtain ⟨_, hs0, hc0, _⟩ := hok'
 have hs0 := Nat.eq_of_beq_eq_true hs0
 have hc0 := Nat.le_of_ble_eq_true hc0
 intro ρ a w hi hf
 rw [hpc]
 refine drawn_all (ds := (unl all (listedOf all.size dn)).filterMap (·.dst)) (fr := s.fr) rfl (fun o ho t ht => List.mem_filterMap.2 ⟨o, ho, ht⟩) hok hF hkn (fun i h0 hlt => hst i (List.mem_filter.2 ⟨List.mem_range.2 hlt, by rw [h0]; rfl⟩)) (ρ := ρ) ?_ g _ a w hs0 (fun _ h => h) hc0 (hi.act.drops_ _) ?_ hi.mem hf
 ·intro a' w' ha hd hw hf'
  obtain ⟨y, hy1, hy2⟩ := hfin ρ a' w' (hd.fr ha _ fun i hi _ => by
   have := List.mem_range.1 (List.mem_filter.1 hi).1
   simp [this]) hd hf'
  exact h y ρ a' w' ⟨hy1, hw⟩ hy2
 intro i o t k h1 h2 h3
 rw [h2] at h3
 cases h3
def knSts : List (Nat × Kn) → Prop
 | [] => True
 | p :: l => p.2.St ∧ knSts l
theorem knSt {kn : List (Nat × Kn)} (h : knSts kn) : ∀ i k, knOf kn i = some k → k.St := by
 induction kn with
 | nil => intro i k hk; cases hk
 | cons p l ih =>
  intro i k hk
  simp only [knOf] at hk
  split at hk
  ·simp only [Option.some.injEq] at hk
   subst hk
   exact h.1
  exact ih h.2 i k hk
theorem At.drawnY {Y : Type} {s : S} {all : Array Oper} {g : Nat} {dn : List Nat} (kn : List (Nat × Kn)) (js : List Nat) (frY : Y → Fr) (GY : Y → List Nat → World → Prop) (hpc : s.pc = .any all g dn) (hok : okK ntm all g (listedOf all.size dn) kn = true) (hjs : pendL all.size (listedOf all.size dn) = js) (hF : Stable F) (hkn : knSts kn)
  (hst : allOf js fun i => StepK P N w0 ntm F all (listedOf all.size dn) kn (drops ((unl all (listedOf all.size dn)).filterMap (·.dst)) s.fr) s.loc i)
  (hfin : ∀ ρ a w, AInv ntm ρ (eqFr all (listedOf all.size dn) kn js (drops ((unl all (listedOf all.size dn)).filterMap (·.dst)) s.fr)) a → Done all (listedOf all.size dn) kn ρ (Array.replicate all.size true) a w → F ρ w → ∃ y, AInv ntm ρ (frY y) a ∧ GY y ρ w)
  (h : ∀ y, At P Q N w0 ntm (GY y) ⟨.exit .normal, s.ks, frY y, s.loc⟩) : At P Q N w0 ntm F s := by
 subst hjs
 exact At.drawn kn frY GY hpc hok hF (knSt hkn) (fun i hi => hst.mem i hi) hfin h
theorem At.drawn0 {s : S} {all : Array Oper} {g : Nat} {dn : List Nat} (kn : List (Nat × Kn)) (js : List Nat) (fr' : Fr) (hpc : s.pc = .any all g dn) (hok : okK ntm all g (listedOf all.size dn) kn = true) (hjs : pendL all.size (listedOf all.size dn) = js) (hF : Stable F) (hkn : knSts kn)
  (hst : allOf js fun i => StepK P N w0 ntm F all (listedOf all.size dn) kn (drops ((unl all (listedOf all.size dn)).filterMap (·.dst)) s.fr) s.loc i)
  (hsub : subFr fr' (eqFr all (listedOf all.size dn) kn js (drops ((unl all (listedOf all.size dn)).filterMap (·.dst)) s.fr)))
  (h : At P Q N w0 ntm F ⟨.exit .normal, s.ks, fr', s.loc⟩) : At P Q N w0 ntm F s :=
 At.drawnY (Y := Unit) kn js (fun _ => fr') (fun _ => F) hpc hok hjs hF hkn hst (fun ρ a w ha _ hf => ⟨(), ha.sub hsub, hf⟩) (fun _ => h)
end
end Go.Sx
end
section
/-! In a region that draws its order: a look at local blocks taken ahead of two appends (the second one to the first one's row), and of allocations. -/
namespace Go.Sx
open Go.RowKit
section
variable {P : Program} {Q : Exit → Act → World → Prop} {N : Nat} {w0 : World} {ntm : Nat} {F : List Nat → World → Prop}
theorem StepK.idx {all : Array Oper} {L0 : Array Bool} {kn : List (Nat × Kn)} {fr0 : Fr} {loc : Loc} {k : Nat} {s : SV} (a : Addr) (n size : Nat) (i : Int) (hq : ((atK all L0 kn fr0 k).bind fun x => idxQ P x.2 x.1) = some (a, n, i, size)) (hk : knOf kn k = some (.eq s)) (h0 : 0 ≤ i) (hn : i < n) (hs : ∀ ρ, s.den ρ = .pointer (some (a.add (i.toNat * size)))) : StepK P N w0 ntm F all L0 kn fr0 loc k := by
 obtain ⟨⟨o, fr⟩, ho, hq⟩ := Option.bind_eq_some_iff.1 hq
 exact StepK.run ho hk fun ρ act w ha hw hf => by rw [hs]; exact run_idxQ ha hq h0 hn w
theorem StepK.ldx {all : Array Oper} {L0 : Array Bool} {kn : List (Nat × Kn)} {fr0 : Fr} {loc : Loc} {k : Nat} {s : SV} (a : Addr) (hq : ((atK all L0 kn fr0 k).bind fun x => ldQ P x.2 x.1) = some a) (hk : knOf kn k = some (.eq s)) (hc : ∀ ρ w, WInv N w0 ρ loc w → F ρ w → w.cell? a = some (s.den ρ)) : StepK P N w0 ntm F all L0 kn fr0 loc k := by
 obtain ⟨⟨o, fr⟩, ho, hq⟩ := Option.bind_eq_some_iff.1 hq
 exact StepK.run ho hk fun ρ act w ha hw hf => run_ldQ ha hq (hc ρ w hw hf)
theorem StepK.cat {all : Array Oper} {L0 : Array Bool} {kn : List (Nat × Kn)} {fr0 : Fr} {loc : Loc} {k : Nat} {s : SV} (a b : ByteArray) (hq : ((atK all L0 kn fr0 k).bind fun x => catQ P x.2 x.1) = some (a, b)) (hk : knOf kn k = some (.eq s)) (h0 : a.size + b.size ≤ 9223372036854775807) (hs : ∀ ρ, s.den ρ = .string (a ++ b)) : StepK P N w0 ntm F all L0 kn fr0 loc k := by
 obtain ⟨⟨o, fr⟩, ho, hq⟩ := Option.bind_eq_some_iff.1 hq
 exact StepK.run ho hk fun ρ act w ha hw hf => by rw [hs]; exact run_catQ ha hq h0 w
end
end Go.Sx
end
section
/-! In a region that draws its order: rows that it makes, and looks into them. -/
namespace Go.Sx
open Go.RowKit
def Cel (a : Addr) (ys : List Value) (ρ : List Nat) (w : World) : Prop := Src w a ys ∧ a.block < w.heap.size ∧ a.block ∉ ρ
theorem Cel.stable {a : Addr} {ys : List Value} : Stable (Cel a ys) := fun ρ w ρ' w' hg hk ⟨h3, h4, h5⟩ => by
 refine ⟨fun j u hj => ?_, Nat.lt_of_lt_of_le h4 hk.size, fun hm => ?_⟩
 ·have := h3 j u hj
  have hb : (a.add j).block = a.block := by unfold Addr.add; split <;> rfl
  simp only [World.cell?, hb] at this ⊢
  rw [hk.block _ h4 h5]
  exact this
 rcases hg.of_mem hm with h | h
 ·exact h5 h
 omega
theorem Cel.fewer {a : Addr} {ys : List Value} : FewerK 0 (Cel a ys) := fun ρ w k _ h => ⟨h.1, h.2.1, fun hm => h.2.2 (List.mem_of_mem_take hm)⟩
theorem cel_new {w0 w w' : World} {N : Nat} {ρ ρc : List Nat} {loc : Loc} {cs : List SV} {t : TypeId} {ys : List Value} (hm : WInv N w0 ρ loc w) (h : WInv w.heap.size w ρc [(cs, t)] w') (hy : ∀ ρ, SV.denL ρ cs = ys) : Cel ⟨nth ρc 0, 0, none⟩ ys ρ w' ∧ Below w.heap.size w w' := by
 have hc := h.cells 0 cs t rfl
 have hmem : nth ρc 0 ∈ ρc := by
  have : 0 < ρc.length := by rw [h.len]; exact Nat.zero_lt_one
  simp [nth, List.getD, this]
 refine ⟨⟨fun j u hj => ?_, (h.ge _ hmem).2, fun hm' => ?_⟩, h.below⟩
 ·rw [add_ok, Nat.zero_add]
  simp only [World.cell?, hc, hy]
  simpa using hj
 have h1 : nth ρc 0 < w.heap.size := (hm.ge _ hm').2
 have h2 := (h.ge _ hmem).1
 omega
section
variable {P : Program} {Q : Exit → Act → World → Prop} {N : Nat} {w0 : World} {ntm : Nat} {F : List Nat → World → Prop}
theorem StepK.runXE {all : Array Oper} {L0 : Array Bool} {kn : List (Nat × Kn)} {fr0 : Fr} {loc : Loc} {i : Nat} {X Y : Type} {r : X → SV} {G : X → List Nat → World → Prop} {r' : Y → SV} {G' : Y → List Nat → World → Prop} (j t : Nat) (hk : knOf kn i = some (.ex Y r' G')) (hat : (atK all L0 kn fr0 i).isSome = true) (hj : exAt all L0 i j = some t) (hkj : knOf kn j = some (.ex X r G))
  (hr : ∀ o fr, atK all L0 kn fr0 i = some (o, fr) → ∀ x ρ a w, AInv ntm ρ ((t, r x) :: fr) a → WInv N w0 ρ loc w → F ρ w → G x ρ w → ∃ y, (execOp a.eval o).run P w = .ok (.value ((r' y).den ρ)) w ∧ G' y ρ w) : StepK P N w0 ntm F all L0 kn fr0 loc i := by
 intro o' k ho' hk' ρ L a w ha hd hl hw hf
 rw [hk] at hk'
 simp only [Option.some.injEq] at hk'
 subst hk'
 obtain ⟨⟨o, fr⟩, ho⟩ := Option.isSome_iff_exists.1 hat
 have ho2 := ho
 unfold atK at ho
 simp only [ho'] at ho
 split at ho
 ·rename_i hg
  simp only [Option.some.injEq, Prod.mk.injEq] at ho
  obtain ⟨rfl, rfl⟩ := ho
  refine ⟨guardS_ok ha hg, ?_⟩
  unfold exAt at hj
  split at hj
  ·rename_i o2 oj h1 h2 h3
   rw [ho'] at h1
   simp only [Option.some.injEq] at h1
   subst h1
   split at hj
   ·rename_i hjo
    obtain ⟨v, hv, x, rfl, hx⟩ := hd j oj t _ h2 h3 (hl j (List.contains_iff_mem.1 hjo)) hj hkj
    obtain ⟨y, hy1, hy2⟩ := hr _ _ ho2 x ρ a w (ha.moreK hv) hw hf hx
    unfold Oper.wp
    rw [hy1]
    exact ⟨_, rfl, ⟨y, rfl, hy2⟩, Below.refl _ _⟩
   cases hj
  cases hj
 cases ho
theorem StepK.idxX {all : Array Oper} {L0 : Array Bool} {kn : List (Nat × Kn)} {fr0 : Fr} {loc : Loc} {k : Nat} (j t n c size : Nat) (i : Int) (ys : List Value) (hk : knOf kn k = some (.ex Nat (fun b => .v (.pointer (some ((⟨b, 0, none⟩ : Addr).add (i.toNat * size))))) (fun b => Cel ⟨b, 0, none⟩ ys))) (hat : (atK all L0 kn fr0 k).isSome = true) (hj : exAt all L0 k j = some t) (hkj : knOf kn j = some (.ex Nat (fun b => .sl (some ⟨b, 0, none⟩) n c) (fun b => Cel ⟨b, 0, none⟩ ys)))
  (hq : ∀ b : Nat, ((atK all L0 kn fr0 k).bind fun x => idxQ P ((t, .sl (some ⟨b, 0, none⟩) n c) :: x.2) x.1) = some (⟨b, 0, none⟩, n, i, size)) (h0 : 0 ≤ i) (hn : i < n) : StepK P N w0 ntm F all L0 kn fr0 loc k :=
 StepK.runXE j t hk hat hj hkj fun o fr ho b ρ a w ha hw hf hx => by
  have h := hq b
  rw [ho] at h
  exact ⟨b, run_idxQ ha h h0 hn w, hx⟩
theorem StepK.ldX {all : Array Oper} {L0 : Array Bool} {kn : List (Nat × Kn)} {fr0 : Fr} {loc : Loc} {k : Nat} {s : SV} (j t p : Nat) (ys : List Value) (hat : (atK all L0 kn fr0 k).isSome = true) (hk : knOf kn k = some (.eq s)) (hj : exAt all L0 k j = some t) (hkj : knOf kn j = some (.ex Nat (fun b => .v (.pointer (some ((⟨b, 0, none⟩ : Addr).add p)))) (fun b => Cel ⟨b, 0, none⟩ ys)))
  (hq : ∀ b : Nat, ((atK all L0 kn fr0 k).bind fun x => ldQ P ((t, .v (.pointer (some ((⟨b, 0, none⟩ : Addr).add p)))) :: x.2) x.1) = some ((⟨b, 0, none⟩ : Addr).add p)) (hs : ∀ ρ, ys[p]? = some (s.den ρ)) : StepK P N w0 ntm F all L0 kn fr0 loc k := by
 obtain ⟨⟨o, fr⟩, ho⟩ := Option.isSome_iff_exists.1 hat
 refine StepK.runX j t ho hk hj hkj fun b ρ a w ha hw hf hx => ?_
 have h := hq b
 rw [ho] at h
 exact run_ldQ ha h (hx.1 p _ (hs ρ))
theorem StepK.bs {all : Array Oper} {L0 : Array Bool} {kn : List (Nat × Kn)} {fr0 : Fr} {loc : Loc} {k : Nat} (n : Nat) (cs : List SV) (t : TypeId) (ys : List Value) (hk : knOf kn k = some (.ex Nat (fun b => .sl (some ⟨b, 0, none⟩) n n) (fun b => Cel ⟨b, 0, none⟩ ys))) (hq : ((atK all L0 kn fr0 k).bind fun x => memOp P x.2 loc x.1.op) = some (some (.ls loc.length 0 n n), loc ++ [(cs, t)])) (hbs : ((atK all L0 kn fr0 k).map fun x => isBS x.1) = some true) (hy : ∀ ρ, SV.denL ρ cs = ys) : StepK P N w0 ntm F all L0 kn fr0 loc k := by
 intro o' k' ho' hk' ρ L a w ha hd hl hw hf
 rw [hk] at hk'
 simp only [Option.some.injEq] at hk'
 subst hk'
 obtain ⟨⟨o, fr⟩, ho, hq⟩ := Option.bind_eq_some_iff.1 hq
 rw [ho] at hbs
 simp only [Option.map_some, Option.some.injEq] at hbs
 unfold atK at ho
 simp only [ho'] at ho
 split at ho
 ·rename_i hg
  simp only [Option.some.injEq, Prod.mk.injEq] at ho
  obtain ⟨rfl, rfl⟩ := ho
  refine ⟨guardS_ok ha hg, ?_⟩
  obtain ⟨ρ', w', hgr, ha', hw', hkp, hrun⟩ := run_memOp ha hw hq
  obtain ⟨v, ob, hv, rfl⟩ := isBS_run hbs hrun
  unfold Oper.wp
  rw [hrun]
  obtain ⟨ext, rfl, hext⟩ := hgr
  have hlen := hw'.len
  have hlen0 := hw.len
  simp only [List.length_append, List.length_singleton] at hlen
  have hmem : nth (ρ ++ ext) loc.length ∈ ρ ++ ext := by
   have : loc.length < (ρ ++ ext).length := by simp; omega
   simp only [nth, List.getD, List.getElem?_eq_getElem this, Option.getD_some]
   exact List.getElem_mem _
  have hin : nth (ρ ++ ext) loc.length ∈ ext := by
   simp only [nth, List.getD]
   rw [List.getElem?_append_right (by omega)]
   have h1 : loc.length - ρ.length < ext.length := by omega
   rw [List.getElem?_eq_getElem h1]
   exact List.getElem_mem _
  refine ⟨_, rfl, ⟨nth (ρ ++ ext) loc.length, rfl, fun j u hj => ?_, (hw'.ge _ hmem).2, fun hm => ?_⟩, (Below.refl _ _).alloc (Nat.le_refl _) ob⟩
  ·rw [add_ok, Nat.zero_add]
   have hc := hw'.cells loc.length cs t (by simp)
   simp only [World.cell?, hc, hy]
   simpa using hj
  have h1 := hw'.nodup
  exact (List.nodup_append.1 h1).2.2 _ hm _ hin rfl
 cases ho
end
end Go.Sx
end
section
namespace Go.Proofs.YthfpekhpeiebjaaGreatDoor
open Go.RowKit Go.Sx
section
variable {Q : Exit → Act → World → Prop} {N : Nat} {w0 : World} {ntm : Nat} [Md]
def BldL (b r0 : Nat) (xs : List Value) (ρ : List Nat) (w : World) : Prop := BldV 85 5 b b xs ρ w ∧ (Tk [r0] ρ w ∧ r0 < b)
omit [Md] in
theorem BldL.stable {b r0 : Nat} {xs : List Value} : Stable (BldL b r0 xs) := fun ρ w ρ' w' hg hk ⟨h1, h2, h3⟩ => ⟨BldV.stable ρ w ρ' w' hg hk h1, Tk.stable ρ w ρ' w' hg hk h2, h3⟩
omit [Md] in
theorem BldL.fewer {b r0 : Nat} {xs : List Value} : FewerK 1 (BldL b r0 xs) := fun ρ w k hk ⟨h1, h2, h3⟩ => ⟨BldV.fewer ρ w k (Nat.zero_le _) h1, Tk.fewer (ρ1 := [r0]) ρ w k hk h2, h3⟩
theorem At.bldAlloc {s : S} (o : Oper) (ho : s.head? = some o) (hop : o.op = .alloc 85) (hd : s.dstOk ntm = true) (hp : s.plain = true) (hloc : s.loc.length = 1)
  (h : ∀ b r0, N ≤ b → At Tryz.prog Q N w0 ntm (BldL b r0 []) (s.tail ntm (.v (.pointer (some ⟨b, 0, none⟩))))) : At Tryz.prog Q N w0 ntm noF s := by
 refine At.opx o (fun x : Nat × Nat => .v (.pointer (some ⟨x.1, 0, none⟩))) (fun x ρ w => BldL x.1 x.2 [] ρ w ∧ N ≤ x.1) ho hd hp ?_ (fun x => At.pure fun hN => h x.1 x.2 hN)
 intro ρ a w hi _
 have hlen : ρ.length = 1 := by rw [hi.mem.len, hloc]
 obtain ⟨r0, rfl⟩ := List.length_eq_one_iff.1 hlen
 have hr0 := hi.mem.ge r0 (by simp)
 have hz : (Tryz.prog.info? 85).bind (·.zero) = some (.agg #[.pointer none, .slice none 0 0]) := by kernel_rfl
 obtain ⟨i, hi1, hi2⟩ := Option.bind_eq_some_iff.1 hz
 refine ⟨(w.heap.size, r0), w.alloc (.cells #[.pointer none, .slice none 0 0] 85), ?_, winv_alloc hi.mem _, ⟨⟨.pointer none, none, 0, 0, .inl rfl, ?_, Row.nil _ _ _ _ _, ?_, Nat.le_refl _⟩, rfl, hr0.2⟩, hi.mem.hN⟩
 ·obtain ⟨dst, op, ty, pos, after, guard⟩ := o
  simp only at hop
  subst hop
  simp only [execOp, Instr.alloc, zeroValue, typeInfo, run_program, hi1, hi2, newVar, newRow, SV.den, Sem.run_bind, Sem.run_pure, Result.andThen_ok, run_newObj, World.alloc]
  rfl
 ·rw [show (w.alloc (.cells #[.pointer none, .slice none 0 0] 85)).heap = w.heap.push (.cells #[.pointer none, .slice none 0 0] 85) from rfl]
  simp
 simp only [List.mem_singleton]
 omega
theorem At.factsL {s : S} {b r0 : Nat} {xs ys : List Value} (hN : N ≤ b) (g : FuncId) (vs : List SV) (r : SV) (hc : s.call? = some (g, vs)) (hb : bodied Tryz.prog g = true) (hd : s.dstOk ntm = true) (hp : s.plain = true) (hsc : scopedFr s.loc.length s.fr = true) (hloc : s.loc.length = 1)
  (hr : ∀ ρ w, WInv N w0 ρ s.loc w → BldV 85 5 b b xs [] w → b ≤ w.heap.size → Calls Tryz.prog g (SV.denL ρ vs).toArray w fun e' w' => e' = .returned (r.den ρ) ∧ BldV 85 5 b b ys [] w' ∧ Below b w w')
  (h : At Tryz.prog Q N w0 ntm (BldL b r0 ys) ((s.tail ntm r).withLoc s.loc)) : At Tryz.prog Q N w0 ntm (BldL b r0 xs) s := by
 refine At.callg (X := Unit) g vs (fun _ => r) (fun _ => s.loc) (fun _ => BldL b r0 ys) hc hb hd hp hsc ?_ (fun _ => h)
 intro ρ w hm ⟨hbv, htk, hlt⟩
 have hρ : ρ = [r0] := htk.eq (by rw [hm.len, hloc]; rfl)
 subst hρ
 have hbs : b ≤ w.heap.size := by
  obtain ⟨p, A, n, c, hp, hg⟩ := hbv
  have := hg.lt
  omega
 refine (hr [r0] w hm (BldV.fewer [r0] w 0 (Nat.zero_le _) hbv) hbs).mono ?_
 rintro e' w' ⟨rfl, hv, hbel⟩
 refine ⟨(), [r0], rfl, Grow.refl _ _, ⟨hm.below.trans (hbel.mono hN), Nat.le_trans hm.hN hbel.size, hm.len, hm.nodup, fun k hk => ⟨(hm.ge k hk).1, Nat.lt_of_lt_of_le (hm.ge k hk).2 hbel.size⟩, fun i c t hi => ?_⟩, ?_, htk, hlt⟩
 ·have hold := hm.cells i c t hi
  have hm1 : nth [r0] i ∈ [r0] := nth_mem (by rw [hm.len]; exact (List.getElem?_eq_some_iff.1 hi).1)
  rw [List.mem_singleton.1 hm1] at hold ⊢
  rw [hbel.block r0 hlt]
  exact hold
 obtain ⟨p, A, n, c, hp, hg1, hg2, hg3, hg4⟩ := hv
 refine ⟨p, A, n, c, hp, hg1, ⟨hg2.1, fun g hg hm2 => ?_⟩, ?_, hg4⟩
 ·have := (hg2.1.lt g hg).1
  rw [List.mem_singleton.1 hm2] at this
  omega
 simp only [List.mem_singleton]
 omega
theorem At.factsN {s : S} {b r0 : Nat} {xs : List Value} (hN : N ≤ b) (g : FuncId) (vs : List SV) (r : SV) (hc : s.call? = some (g, vs)) (hb : bodied Tryz.prog g = true) (hd : s.dstOk ntm = true) (hp : s.plain = true) (hsc : scopedFr s.loc.length s.fr = true) (hloc : s.loc.length = 1)
  (hr : ∀ ρ w, WInv N w0 ρ s.loc w → BldV 85 5 b b xs [] w → b ≤ w.heap.size → Calls Tryz.prog g (SV.denL ρ vs).toArray w fun e' w' => e' = .returned (r.den ρ) ∧ Below b w w')
  (h : At Tryz.prog Q N w0 ntm noF ((s.tail ntm r).withLoc s.loc)) : At Tryz.prog Q N w0 ntm (BldL b r0 xs) s := by
 refine At.callg (X := Unit) g vs (fun _ => r) (fun _ => s.loc) (fun _ => noF) hc hb hd hp hsc ?_ (fun _ => h)
 intro ρ w hm ⟨hbv, htk, hlt⟩
 have hρ : ρ = [r0] := htk.eq (by rw [hm.len, hloc]; rfl)
 subst hρ
 have hbs : b ≤ w.heap.size := by
  obtain ⟨p, A, n, c, hp, hg⟩ := hbv
  have := hg.lt
  omega
 refine (hr [r0] w hm (BldV.fewer [r0] w 0 (Nat.zero_le _) hbv) hbs).mono ?_
 rintro e' w' ⟨rfl, hbel⟩
 refine ⟨(), [r0], rfl, Grow.refl _ _, ⟨hm.below.trans (hbel.mono hN), Nat.le_trans hm.hN hbel.size, hm.len, hm.nodup, fun k hk => ⟨(hm.ge k hk).1, Nat.lt_of_lt_of_le (hm.ge k hk).2 hbel.size⟩, fun i c t hi => ?_⟩, trivial⟩
 have hold := hm.cells i c t hi
 have hm1 : nth [r0] i ∈ [r0] := nth_mem (by rw [hm.len]; exact (List.getElem?_eq_some_iff.1 hi).1)
 rw [List.mem_singleton.1 hm1] at hold ⊢
 rw [hbel.block r0 hlt]
 exact hold
end
end Go.Proofs.YthfpekhpeiebjaaGreatDoor
end
section
namespace Go.Proofs.YthfpekhpeiebjaaGreatDoor
open Go.RowKit Go.Sx
noncomputable def B12 : Code := (Tryz.f12.body).getD .skip
noncomputable def sq12 (p : List Nat) : Go.Sx.K := .seq (sub B12 p)
def scriptB (c : Cf) (wk : Int) (xs : List St) : List UInt8 := [106, 111, 98, 32] ++ c.text ++ [10, 119, 111, 114, 107, 101, 114, 115, 32] ++ Lib.itoa wk ++ [10] ++ xs.flatMap fun x => lineS x ++ [10]
def textP (c : Cf) (wk : Int) (xs : List St) : List UInt8 × Int := if (chkP c wk xs).2 = 0 then (scriptB c wk xs, 0) else ([], (chkP c wk xs).2)
theorem badI_none {c : Cf} : ∀ (xs : List St) (i : Nat), badI c xs i = none → ∀ x ∈ xs, mayB c x = true
 | [], _, _, x, hx => by simp at hx
 | y :: xs, i, h, x, hx => by
  simp only [badI] at h
  split at h
  ·rename_i hy
   rcases List.mem_cons.1 hx with rfl | hx
   ·exact hy
   exact badI_none xs (i + 1) h x hx
  cases h
theorem chk_ok {c : Cf} {wk : Int} {xs : List St} (h : (chkP c wk xs).2 = 0) : c.wr = 0 ∧ 1 ≤ wk ∧ wk ≤ c.g ∧ ∀ x ∈ xs, mayB c x = true := by
 unfold chkP at h
 split at h
 ·cases h
 rename_i h1
 split at h
 ·cases h
 rename_i h2
 refine ⟨Classical.not_not.1 h1, by omega, by omega, badI_none xs 0 ?_⟩
 cases hb : badI c xs 0 with
 | none => rfl
 | some i => rw [hb] at h; cases h
theorem mayB_key {c : Cf} {x : St} (h : mayB c x = true) : x.key.length ≤ 256 := by
 by_cases hk : x.kd = 1
 ·rw [mayB_1 hk] at h
  simp only [Bool.and_eq_true] at h
  have h5 := h.2.2.2.2
  unfold itB at h5
  split at h5
  ·simp only [Bool.and_eq_true, decide_eq_true_eq] at h5
   exact h5.1
  split at h5
  ·simp only [Bool.and_eq_true, decide_eq_true_eq] at h5
   rw [h5.2.2.2.1]
   simp
  split at h5
  ·simp only [Bool.and_eq_true, decide_eq_true_eq] at h5
   rw [h5.1]
   simp
  cases h5
 rw [mayB_n hk] at h
 simp only [Bool.and_eq_true, decide_eq_true_eq] at h
 rw [h.1.2.1]
 simp
theorem lineS_short {x : St} (hk : x.key.length ≤ 256) (ho : x.ok) : (lineS x).length ≤ 1100 := by
 obtain ⟨kd, ik, key, ti, v, src, wk, wks, bit, mask⟩ := x
 obtain ⟨i0, i1, i2, i3, i4, i5, i6⟩ := ho
 have hq0 := quote_short hk
 have hl0 := itoa_short i0
 have hl1 := itoa_short i1
 have hl2 := itoa_short i2
 have hl3 := itoa_short i3
 have hl4 := itoa_short i4
 have hl5 := itoa_short i5
 have hl6 := itoa_short (show in64 mask from ⟨by simp only at i6; omega, by simp only at i6; omega⟩)
 simp only at hq0 hl0 hl1 hl2 hl3 hl4 hl5 hl6
 unfold lineS
 simp only
 split
 ·split
  ·simp only [List.length_append, List.length_cons, List.length_nil]; omega
  split
  ·simp only [List.length_append, List.length_cons, List.length_nil]; omega
  simp
 split
 ·simp only [List.length_append, List.length_cons, List.length_nil]; omega
 split
 ·simp only [List.length_append, List.length_cons, List.length_nil]; omega
 split
 ·simp only [List.length_append, List.length_cons, List.length_nil]; omega
 simp
theorem ctext_ok {g s k sz sl of gp lt ea : Int} (h : wrongR g s k sz sl of gp lt ea = 0) (d : Bool) (w : World) (hw : Wd w) :
  Calls Tryz.prog 36 #[.agg #[.int .i64 g, .int .i64 s, .int .i64 k, .int .i64 sz, .int .i64 sl, .int .i64 of, .int .i64 gp, .int .i64 lt, .int .i64 ea, .bool d]] w fun e w' => e = .returned (.tuple #[.string (mkB (Cf.text ⟨g, s, k, sz, sl, of, gp, lt, ea, d⟩)), .int .i64 0]) ∧ Below w.heap.size w w' := by
 have hk := text_any g s k sz sl of gp lt ea d w hw.tab hw.tp
 rw [wrong_eq, h] at hk
 exact hk
theorem cells_head (X : List UInt8) : ([] : List Value) ++ Lib.strCells (mkB X) = Lib.byteCells X := by simp [Lib.byteCells, Lib.strCells, mkB]
theorem cells_two (a l : List UInt8) : Lib.byteCells a ++ Lib.strCells (mkB l) = Lib.byteCells (a ++ l) := by simp [Lib.byteCells, Lib.strCells, mkB]
theorem head_eq (c : Cf) (wk : Int) (xs : List St) : scriptB c wk (xs.take 0) = [106, 111, 98, 32] ++ c.text ++ [10, 119, 111, 114, 107, 101, 114, 115, 32] ++ Lib.itoa wk ++ [10] := by simp [scriptB]
theorem script_take {c : Cf} {wk : Int} {xs : List St} {i : Nat} {x : St} (h : xs[i]? = some x) : scriptB c wk (xs.take (i + 1)) = scriptB c wk (xs.take i) ++ (lineS x ++ [10]) := by
 rw [List.take_add_one, h]
 simp [scriptB]
theorem script_len {c : Cf} {wk : Int} {xs : List St} (h1 : c.text.length ≤ 1000) (h2 : (Lib.itoa wk).length ≤ 21) (h : ∀ x ∈ xs, (lineS x).length ≤ 1100) : (scriptB c wk xs).length ≤ 1100 + xs.length * 1101 := by
 have key : ∀ l : List St, (∀ x ∈ l, (lineS x).length ≤ 1100) → (l.flatMap fun x => lineS x ++ [10]).length ≤ l.length * 1101 := by
  intro l
  induction l with
  | nil => simp
  | cons x l ih =>
   intro hh
   have h3 := hh x (by simp)
   have h4 := ih (fun y hy => hh y (by simp [hy]))
   rw [List.flatMap_cons, List.length_append, List.length_append, List.length_cons (a := x)]
   simp only [List.length_cons, List.length_nil]
   omega
 have h5 := key xs h
 simp only [scriptB, List.length_append, List.length_cons, List.length_nil]
 omega
theorem bld_is {B b : Nat} {l : List UInt8} {w : World} (h : BldV 85 5 B b (Lib.byteCells l) [] w) : Lib.IsBuilder 85 5 B b (Lib.byteCells l) w := by
 obtain ⟨p, A, n, c, hp, hg⟩ := h
 have hn : (Lib.byteCells l).length = n * 1 := hg.2.1.1.1
 rw [Nat.mul_one] at hn
 have : Lib.BuilderAt 85 5 B b p (Lib.byteCells l) w := ⟨hg.2.2.2, .slice A n c, hg.1, by rw [hn]; exact hg.2.1.1, hg.own (by decide)⟩
 rcases hp with rfl | rfl
 ·exact .inl this
 exact .inr this
def frX (b : Nat) (A : Option Addr) (n cap : Nat) (i : Nat) : Fr := [(8, .v (.pointer (some ⟨b, 0, none⟩))), (35, .sl A n cap), (36, .io .i64 (n : Int)), (37, .io .i64 (i : Int))]
def GT (b r0 : Nat) (c : Cf) (wk : Int) (xs : List St) (i : Nat) (ρ : List Nat) (w : World) : Prop := BldL b r0 (Lib.byteCells (scriptB c wk (xs.take i))) ρ w ∧ i ≤ xs.length
set_option maxHeartbeats 8000000 in
set_option maxRecDepth 100000 in
theorem text_go (g s k sz sl of gp lt ea : Int) (d : Bool) (wk : Int) (A : Option Addr) (n cap : Nat) (xs : List St) (w : World) (hw : Wd w) (hS : SlS w A n xs) (hn : n ≤ 300) (hok : ∀ x ∈ xs, x.ok) :
  Calls Tryz.prog 12 #[.agg #[.int .i64 g, .int .i64 s, .int .i64 k, .int .i64 sz, .int .i64 sl, .int .i64 of, .int .i64 gp, .int .i64 lt, .int .i64 ea, .bool d, .int .i64 wk, .slice A n cap]] w fun e w' => e = .returned (.tuple #[.string (mkB (textP ⟨g, s, k, sz, sl, of, gp, lt, ea, d⟩ wk xs).1), .int .i64 (textP ⟨g, s, k, sz, sl, of, gp, lt, ea, d⟩ wk xs).2]) ∧ Below w.heap.size w w' := by
 have hl := hS.1
 refine enter (fn := Tryz.f12) (c := B12) [.agg (cwAP g s k sz sl of gp lt ea d wk A n cap)] Tryz.func12 rfl rfl ?_
 refine zN [1, 12] 1 ⟨pops B12 [1, 0, 0] 1, [(sq12 [1, 0, 1]), (sq12 [1, 1])], [(1, .lp 0 0), (12, .agg (cwAP g s k sz sl of gp lt ea d wk A n cap))], [((cwAP g s k sz sl of gp lt ea d wk A n cap), 28)]⟩ ?_
 by_cases hc : (chkP ⟨g, s, k, sz, sl, of, gp, lt, ea, d⟩ wk xs).2 = 0
 ·refine zC noF_stable 13 [.agg (cwAP g s k sz sl of gp lt ea d wk A n cap)] (.tup [.io .i64 (chkP ⟨g, s, k, sz, sl, of, gp, lt, ea, d⟩ wk xs).1, .v (.int .i64 0)]) (fun _ _ w1 hi _ => (check_kit ⟨g, s, k, sz, sl, of, gp, lt, ea, d⟩ wk A n cap xs w1 (hS.below hi.mem.below) (by omega)).mono fun e w2 h => ⟨h.1.trans (by rw [hc]; rfl), h.2⟩) ?_
  obtain ⟨hwr, hw1, hw2, hmay⟩ := chk_ok hc
  rw [show textP ⟨g, s, k, sz, sl, of, gp, lt, ea, d⟩ wk xs = (scriptB ⟨g, s, k, sz, sl, of, gp, lt, ea, d⟩ wk xs, 0) from if_pos hc]
  refine zN [1, 21] 1 ⟨pops B12 [1, 1, 0] 2, [(sq12 pAP12)], [(1, .lp 0 0), (21, .agg (cfAP g s k sz sl of gp lt ea d))], [((cwAP g s k sz sl of gp lt ea d wk A n cap), 28)]⟩ ?_
  have hw0 : wrongR g s k sz sl of gp lt ea = 0 := hwr
  refine zC noF_stable 36 [.agg (cfAP g s k sz sl of gp lt ea d)] (.tup [.so (mkB (Cf.text ⟨g, s, k, sz, sl, of, gp, lt, ea, d⟩)), .v (.int .i64 0)]) (fun _ _ w1 hi _ => ctext_ok hw0 d w1 (hw.below hi.mem.below)) ?_
  refine At.to (noF_stable) (noF_fewer) 0 9 [1, 6] 1 ⟨pops B12 [1, 1, 1, 0] 0, [(sq12 [1, 1, 1, 1])], [(1, .lp 0 0), (6, .so (mkB (Cf.mk g s k sz sl of gp lt ea d).text))], [((cwAP g s k sz sl of gp lt ea d wk A n cap), 28)]⟩ (by kernel_rfl) (by kernel_rfl) ?_
  have htl : (Cf.text ⟨g, s, k, sz, sl, of, gp, lt, ea, d⟩).length ≤ 1000 := textW_short hw0 d
  have hg1 := (valid_of hw0).1
  have hi64 : in64 wk := by
   have := hw2
   simp only at this
   constructor <;> omega
  have hitl := itoa_short hi64
  refine At.bldAlloc (((opsOf (sub B12 [1, 1, 1, 0])).toList[0]?).getD default) (by kernel_rfl) (by kernel_rfl) (by kernel_rfl) (by kernel_rfl) rfl (fun b r0 hNb => ?_)
  refine zT BldL.stable BldL.fewer [1, 8, 25] 1 ⟨pops B12 pAP11 1, [(sq12 pAP10)], [(1, .lp 0 0), (8, .v (.pointer (some (Addr.mk b 0 none)))), (25, .so (mkB (Cf.mk g s k sz sl of gp lt ea d).text))], [((cwAP g s k sz sl of gp lt ea d wk A n cap), 28)]⟩ ?_
  refine catX ([106, 111, 98, 32] : List UInt8) (Cf.mk g s k sz sl of gp lt ea d).text (by kernel_rfl) (by simp only [List.length_append, List.length_cons, List.length_nil]; omega) BldL.stable ?_
  refine zT BldL.stable BldL.fewer [1, 8, 26] 1 ⟨pops B12 pAP11 2, [(sq12 pAP10)], [(1, .lp 0 0), (8, .v (.pointer (some (Addr.mk b 0 none)))), (26, .so (mkB ([106, 111, 98, 32] ++ (Cf.mk g s k sz sl of gp lt ea d).text)))], [((cwAP g s k sz sl of gp lt ea d wk A n cap), 28)]⟩ ?_
  refine catX ([106, 111, 98, 32] ++ (Cf.mk g s k sz sl of gp lt ea d).text) ([10, 119, 111, 114, 107, 101, 114, 115, 32] : List UInt8) (by kernel_rfl) (by simp only [List.length_append, List.length_cons, List.length_nil]; omega) BldL.stable ?_
  refine zT BldL.stable BldL.fewer [1, 8, 27, 29] 1 ⟨pops B12 pAP11 5, [(sq12 pAP10)], [(1, .lp 0 0), (8, .v (.pointer (some (Addr.mk b 0 none)))), (27, .so (mkB ([106, 111, 98, 32] ++ (Cf.mk g s k sz sl of gp lt ea d).text ++ [10, 119, 111, 114, 107, 101, 114, 115, 32]))), (29, .io .i64 wk)], [((cwAP g s k sz sl of gp lt ea d wk A n cap), 28)]⟩ ?_
  refine zC BldL.stable 38 [.io .i64 wk] (.so (mkB (Lib.itoa wk))) (fun _ _ w1 hi _ => itoa_any wk hi64 w1 (tab_below hw.tp hi.mem.below rfl)) ?_
  refine zT BldL.stable BldL.fewer [1, 8, 27, 30] 1 ⟨pops B12 pAP11 6, [(sq12 pAP10)], [(1, .lp 0 0), (8, .v (.pointer (some (Addr.mk b 0 none)))), (27, .so (mkB ([106, 111, 98, 32] ++ (Cf.mk g s k sz sl of gp lt ea d).text ++ [10, 119, 111, 114, 107, 101, 114, 115, 32]))), (30, .so (mkB (Lib.itoa wk)))], [((cwAP g s k sz sl of gp lt ea d wk A n cap), 28)]⟩ ?_
  refine catX ([106, 111, 98, 32] ++ (Cf.mk g s k sz sl of gp lt ea d).text ++ [10, 119, 111, 114, 107, 101, 114, 115, 32]) (Lib.itoa wk) (by kernel_rfl) (by simp only [List.length_append, List.length_cons, List.length_nil]; omega) BldL.stable ?_
  refine zT BldL.stable BldL.fewer [1, 8, 31] 1 ⟨pops B12 pAP11 7, [(sq12 pAP10)], [(1, .lp 0 0), (8, .v (.pointer (some (Addr.mk b 0 none)))), (31, .so (mkB ([106, 111, 98, 32] ++ (Cf.mk g s k sz sl of gp lt ea d).text ++ [10, 119, 111, 114, 107, 101, 114, 115, 32] ++ Lib.itoa wk)))], [((cwAP g s k sz sl of gp lt ea d wk A n cap), 28)]⟩ ?_
  refine catX ([106, 111, 98, 32] ++ (Cf.mk g s k sz sl of gp lt ea d).text ++ [10, 119, 111, 114, 107, 101, 114, 115, 32] ++ Lib.itoa wk) ([10] : List UInt8) (by kernel_rfl) (by simp only [List.length_append, List.length_cons, List.length_nil]; omega) BldL.stable ?_
  refine zT BldL.stable BldL.fewer [1, 8, 32] 1 ⟨pops B12 pAP11 8, [(sq12 pAP10)], [(1, .lp 0 0), (8, .v (.pointer (some (Addr.mk b 0 none)))), (32, .so (mkB ([106, 111, 98, 32] ++ (Cf.mk g s k sz sl of gp lt ea d).text ++ [10, 119, 111, 114, 107, 101, 114, 115, 32] ++ Lib.itoa wk ++ [10])))], [((cwAP g s k sz sl of gp lt ea d wk A n cap), 28)]⟩ ?_
  refine At.factsL (ys := [] ++ Lib.strCells (mkB (([106, 111, 98, 32] ++ (Cf.mk g s k sz sl of gp lt ea d).text ++ [10, 119, 111, 114, 107, 101, 114, 115, 32] ++ Lib.itoa wk ++ [10])))) hNb 37 [.v (.pointer (some ⟨b, 0, none⟩)), .so (mkB (([106, 111, 98, 32] ++ (Cf.mk g s k sz sl of gp lt ea d).text ++ [10, 119, 111, 114, 107, 101, 114, 115, 32] ++ Lib.itoa wk ++ [10])))] (.tup [.io .i64 ((mkB (([106, 111, 98, 32] ++ (Cf.mk g s k sz sl of gp lt ea d).text ++ [10, 119, 111, 114, 107, 101, 114, 115, 32] ++ Lib.itoa wk ++ [10]))).size : Int), .v .nilIface]) (by kernel_rfl) (by kernel_rfl) (by kernel_rfl) (by kernel_rfl) (by kernel_rfl) rfl (fun ρ w1 hm hf hb => wstr_any (mkB (([106, 111, 98, 32] ++ (Cf.mk g s k sz sl of gp lt ea d).text ++ [10, 119, 111, 114, 107, 101, 114, 115, 32] ++ Lib.itoa wk ++ [10]))) w1 hf hb (by rw [mkB_size]; simp only [List.length_append, List.length_cons, List.length_nil]; omega)) ?_
  refine At.mono (F' := BldL b r0 (Lib.byteCells (scriptB ⟨g, s, k, sz, sl, of, gp, lt, ea, d⟩ wk (xs.take 0)))) (fun ρ w1 h => by rw [cells_head] at h; rw [head_eq]; exact h) ?_
  refine zT BldL.stable BldL.fewer [8, 35, 36, 37] 1 ⟨.code (sub B12 [1, 1, 1, 1, 1, 0, 1, 4]), [.block 0, (sq12 pAP9)], [(8, .v (.pointer (some (Addr.mk b 0 none)))), (35, .sl A n cap), (36, .io .i64 (↑n : Int)), (37, .v (.int .i64 0))], [((cwAP g s k sz sl of gp lt ea d wk A n cap), 28)]⟩ ?_
  refine At.canonT [37] _ rfl ?_
  refine At.loop (σ := Nat) (sub B12 [1, 1, 1, 1, 1, 0, 1, 4, 4]) (frX b A n cap) (locC ⟨g, s, k, sz, sl, of, gp, lt, ea, d⟩ wk A n cap) (GT b r0 ⟨g, s, k, sz, sl, of, gp, lt, ea, d⟩ wk xs) (fun i => n - i) 0 (by kernel_rfl) (by unfold subFr; kernel_rfl) (by kernel_rfl) (fun _ _ _ _ h => ⟨h, Nat.zero_le _⟩) ?_
  intro i
  refine At.pure fun h2 => ?_
  refine zTq BldL.stable BldL.fewer [8, 35, 36, 37, 38] 1 ?_
  rcases zB (decide ((↑i : Int) < (↑n : Int))) with b0 | b0
  ·refine zR 38 b0 ?_
   refine zT BldL.stable BldL.fewer [8, 35, 36, 37] 1 ⟨pops B12 [1, 1, 1, 1, 1, 0, 1, 4, 4, 1, 1, 0, 4, 0] 0, [(sq12 pAP3), .block 1, (sq12 pAP4), .next (Sx.Next w.heap.size w Tryz.f12.ntmps (frX b A n cap) (locC (Cf.mk g s k sz sl of gp lt ea d) wk A n cap) (GT b r0 (Cf.mk g s k sz sl of gp lt ea d) wk xs) (fun i => n - i) i), .block 0, (sq12 pAP9)], [(8, .v (.pointer (some (Addr.mk b 0 none)))), (35, .sl A n cap), (36, .io .i64 (↑n : Int)), (37, .io .i64 (↑i : Int))], [((cwAP g s k sz sl of gp lt ea d wk A n cap), 28)]⟩ ?_
   have hi : i < n := by have := of_decide_eq_true b0; omega
   clear b0
   obtain ⟨x, hx⟩ : ∃ x, xs[i]? = some x := ⟨_, List.getElem?_eq_getElem (by rw [← hS.1]; exact hi)⟩
   obtain ⟨a, rfl, hcell⟩ := hS.get hx
   have hxm := List.mem_of_getElem? hx
   have hxk := mayB_key (hmay x hxm)
   have hxo := hok x hxm
   have hxl := lineS_short hxk hxo
   have htake : scriptB ⟨g, s, k, sz, sl, of, gp, lt, ea, d⟩ wk (xs.take (i + 1)) = scriptB ⟨g, s, k, sz, sl, of, gp, lt, ea, d⟩ wk (xs.take i) ++ (lineS x ++ [10]) := script_take hx
   have hsl := script_len (c := ⟨g, s, k, sz, sl, of, gp, lt, ea, d⟩) (wk := wk) (xs := xs.take i) htl hitl (fun y hy => lineS_short (mayB_key (hmay y (List.mem_of_mem_take hy))) (hok y (List.mem_of_mem_take hy)))
   have htl2 : (xs.take i).length ≤ 300 := by rw [List.length_take]; omega
   obtain ⟨kd, ik, key, ti, v, src, wk2, wks, bit, mask⟩ := x
   refine At.idx a n 10 (i : Int) (by kernel_rfl) (by omega) (by omega) BldL.stable ?_
   refine At.lda (a.add ((i : Int).toNat * 10)) 10 [.io .i64 kd, .io .i64 ik, .so (mkB key), .io .i64 ti, .io .i64 v, .io .i64 src, .io .i64 wk2, .io .i64 wks, .io .i64 bit, .io .u32 mask] (by kernel_rfl) rfl BldL.stable (fun ρ w1 hm' hf j v2 hj => cell_below (hcell j v2 hj) hm'.below) ?_
   let kn0 : K := .next (Sx.Next w.heap.size w Tryz.f12.ntmps (frX b (some a) n cap) (locC (Cf.mk g s k sz sl of gp lt ea d) wk (some a) n cap) (GT b r0 (Cf.mk g s k sz sl of gp lt ea d) wk xs) (fun i => n - i) i)
   refine zT BldL.stable BldL.fewer [8, 35, 36, 37, 41] 1 ⟨pops B12 pAP3 1, [.block 1, (sq12 pAP4), kn0, .block 0, (sq12 pAP9)], [(8, .v (.pointer (some (Addr.mk b 0 none)))), (35, .sl (some a) n cap), (36, .io .i64 (↑n : Int)), (37, .io .i64 (↑i : Int)), (41, .agg [.io .i64 kd, .io .i64 ik, .so (mkB key), .io .i64 ti, .io .i64 v, .io .i64 src, .io .i64 wk2, .io .i64 wks, .io .i64 bit, .io IntKind.u32 mask])], [((cwAP g s k sz sl of gp lt ea d wk (some a) n cap), 28)]⟩ ?_
   refine zC BldL.stable 39 [.agg [.io .i64 kd, .io .i64 ik, .so (mkB key), .io .i64 ti, .io .i64 v, .io .i64 src, .io .i64 wk2, .io .i64 wks, .io .i64 bit, .io .u32 mask]] (.so (mkB (lineS ⟨kd, ik, key, ti, v, src, wk2, wks, bit, mask⟩))) (fun _ _ w1 hi _ => line_go kd ik key ti v src wk2 wks bit mask hxk hxo.1 hxo.2.1 hxo.2.2.1 hxo.2.2.2.1 hxo.2.2.2.2.1 hxo.2.2.2.2.2.1 hxo.2.2.2.2.2.2 w1 (tab_below hw.tp hi.mem.below rfl)) ?_
   refine zT BldL.stable BldL.fewer [8, 35, 36, 37, 42] 1 ⟨pops B12 pAP3 2, [.block 1, (sq12 pAP4), kn0, .block 0, (sq12 pAP9)], [(8, .v (.pointer (some (Addr.mk b 0 none)))), (35, .sl (some a) n cap), (36, .io .i64 (↑n : Int)), (37, .io .i64 (↑i : Int)), (42, .so (mkB (lineS (St.mk kd ik key ti v src wk2 wks bit mask))))], [((cwAP g s k sz sl of gp lt ea d wk (some a) n cap), 28)]⟩ ?_
   refine catX (lineS ⟨kd, ik, key, ti, v, src, wk2, wks, bit, mask⟩) ([10] : List UInt8) (by kernel_rfl) (by simp only [List.length_cons, List.length_nil]; omega) BldL.stable ?_
   refine zT BldL.stable BldL.fewer [8, 35, 36, 37, 43] 1 ⟨pops B12 pAP3 3, [.block 1, (sq12 pAP4), kn0, .block 0, (sq12 pAP9)], [(8, .v (.pointer (some (Addr.mk b 0 none)))), (35, .sl (some a) n cap), (36, .io .i64 (↑n : Int)), (37, .io .i64 (↑i : Int)), (43, .so (mkB (lineS (St.mk kd ik key ti v src wk2 wks bit mask) ++ [10])))], [((cwAP g s k sz sl of gp lt ea d wk (some a) n cap), 28)]⟩ ?_
   refine At.factsL (ys := Lib.byteCells (scriptB ⟨g, s, k, sz, sl, of, gp, lt, ea, d⟩ wk (xs.take i)) ++ Lib.strCells (mkB (lineS ⟨kd, ik, key, ti, v, src, wk2, wks, bit, mask⟩ ++ [10]))) hNb 37 [.v (.pointer (some ⟨b, 0, none⟩)), .so (mkB (lineS ⟨kd, ik, key, ti, v, src, wk2, wks, bit, mask⟩ ++ [10]))] (.tup [.io .i64 ((mkB (lineS ⟨kd, ik, key, ti, v, src, wk2, wks, bit, mask⟩ ++ [10])).size : Int), .v .nilIface]) (by kernel_rfl) (by kernel_rfl) (by kernel_rfl) (by kernel_rfl) (by kernel_rfl) rfl (fun ρ w1 hm hf hb => wstr_any (mkB (lineS ⟨kd, ik, key, ti, v, src, wk2, wks, bit, mask⟩ ++ [10])) w1 hf hb (by rw [mkB_size, Lib.byteCells_length]; simp only [List.length_append, List.length_cons, List.length_nil]; omega)) ?_
   refine zT BldL.stable BldL.fewer [8, 35, 36, 37] 1 ⟨.exit .normal, [kn0, .block 0, (sq12 pAP9)], [(8, .v (.pointer (some (Addr.mk b 0 none)))), (35, .sl (some a) n cap), (36, .io .i64 (↑n : Int)), (37, .io .i64 (IntKind.i64.wrap ((↑i : Int) + 1)))], [((cwAP g s k sz sl of gp lt ea d wk (some a) n cap), 28)]⟩ ?_
   have hw3 : IntKind.i64.wrap ((i : Int) + 1) = ((i + 1 : Nat) : Int) := by
    rw [wrap63 (by omega) (by omega)]
    omega
   rw [hw3]
   refine At.next (σ := Nat) (i + 1) rfl rfl (by unfold subFr; kernel_rfl) (by kernel_rfl) ?_ ?_
   ·intro ρ a' w' hi' hf
    exact ⟨by rw [htake, ← cells_two]; exact hf, by omega⟩
   show n - (i + 1) < n - i
   omega
  refine zR 38 b0 ?_
  refine zT BldL.stable BldL.fewer [8] 1 ⟨pops B12 [1, 1, 1, 1, 1, 1, 0] 0, [(sq12 [1, 0, 1, 1, 2, 1])], [(8, .v (.pointer (some (Addr.mk b 0 none))))], [((cwAP g s k sz sl of gp lt ea d wk A n cap), 28)]⟩ ?_
  have hi : ¬ (i : Int) < (n : Int) := of_decide_eq_false b0
  rw [List.take_of_length_le (by rw [← hS.1]; omega)]
  refine At.factsN hNb 40 [.v (.pointer (some ⟨b, 0, none⟩))] (.so (mkB (scriptB ⟨g, s, k, sz, sl, of, gp, lt, ea, d⟩ wk xs))) (by kernel_rfl) (by kernel_rfl) (by kernel_rfl) (by kernel_rfl) (by kernel_rfl) rfl (fun ρ w1 hm hf hb => (Tryz.Builder_String_any b b (scriptB ⟨g, s, k, sz, sl, of, gp, lt, ea, d⟩ wk xs) w1 (bld_is hf) hb).mono fun e w2 h => ⟨h.1, h.2⟩) ?_
  refine zN [2, 3] 0 ⟨.exit .ret, [], [(2, .so (mkB (scriptB (Cf.mk g s k sz sl of gp lt ea d) wk xs))), (3, .v (.int .i64 0))], []⟩ ?_
  refine zE (.tup [.so (mkB (scriptB (Cf.mk g s k sz sl of gp lt ea d) wk xs)), .v (.int .i64 0)]) ?_
  intro ρ w9 hm' hf
  exact ⟨rfl, hm'.below⟩
 refine zC noF_stable 13 [.agg (cwAP g s k sz sl of gp lt ea d wk A n cap)] (.tup [.io .i64 (chkP ⟨g, s, k, sz, sl, of, gp, lt, ea, d⟩ wk xs).1, .io .i64 (chkP ⟨g, s, k, sz, sl, of, gp, lt, ea, d⟩ wk xs).2]) (fun _ _ w1 hi _ => check_kit ⟨g, s, k, sz, sl, of, gp, lt, ea, d⟩ wk A n cap xs w1 (hS.below hi.mem.below) (by omega)) ?_
 rw [show textP ⟨g, s, k, sz, sl, of, gp, lt, ea, d⟩ wk xs = ([], (chkP ⟨g, s, k, sz, sl, of, gp, lt, ea, d⟩ wk xs).2) from if_neg hc]
 refine zNq [1, 5, 17] 1 ?_
 refine At.res 17 ((chkP (Cf.mk g s k sz sl of gp lt ea d) wk xs).snd != 0) true (by kernel_rfl) (by first | assumption | (simp only [*]; done) | (simp [*]; done)) ?_
 refine zN [2, 3] 0 ⟨.exit .ret, [], [(2, .v (.string (ByteArray.mk #[]))), (3, .io .i64 (chkP (Cf.mk g s k sz sl of gp lt ea d) wk xs).snd)], []⟩ ?_
 refine zE (.tup [.v (.string (ByteArray.mk #[])), .io .i64 (chkP (Cf.mk g s k sz sl of gp lt ea d) wk xs).snd]) ?_
 intro ρ w9 hm' hf
 exact ⟨rfl, hm'.below⟩
end Go.Proofs.YthfpekhpeiebjaaGreatDoor
end
