/- Joined texts: SM, SP, SR, SL. -/
import Derived.Test.YthfpekhpeiebjaaGreatDoorTAL
set_option linter.unusedSimpArgs false
set_option linter.unusedVariables false
namespace Go.Sx
open Go
def cfAM (g s k sz sl of gp lt ea : Int) (d : Bool) : List SV := [.io .i64 g, .io .i64 s, .io .i64 k, .io .i64 sz, .io .i64 sl, .io .i64 of, .io .i64 gp, .io .i64 lt, .io .i64 ea, .bo d]
def cwAM (g s k sz sl of gp lt ea : Int) (d : Bool) (wk : Int) (A : Option Addr) (n c : Nat) : List SV := [.io .i64 g, .io .i64 s, .io .i64 k, .io .i64 sz, .io .i64 sl, .io .i64 of, .io .i64 gp, .io .i64 lt, .io .i64 ea, .bo d, .io .i64 wk, .sl A n c]
def zAM0 : List SV := [.v (.int .i64 0), .v (.int .i64 0), .v (.int .i64 0), .v (.int .i64 0), .v (.int .i64 0), .v (.int .i64 0), .v (.int .i64 0), .v (.int .i64 0), .v (.int .i64 0), .v (.bool false), .v (.int .i64 0), .v (.slice none 0 0)]
def zAM1 : List SV := [.v (.int .i64 0), .v (.int .i64 0), .v (.int .i64 0), .v (.int .i64 0), .v (.int .i64 0), .v (.int .i64 0), .v (.int .i64 0), .v (.int .i64 0), .v (.int .i64 0), .v (.bool false)]
def zAM2 : List SV := [.io .i64 0, .io .i64 0, .io .i64 0, .io .i64 0, .io .i64 0, .io .i64 0, .io .i64 0, .io .i64 0, .io .i64 0, .bo false, .io .i64 0, .sl none 0 0]
def pAM3 : List Nat := [1, 1, 0, 1, 4, 1, 3, 1, 3, 1, 3, 1, 2, 1, 0]
def pAM4 : List Nat := [1, 1, 0, 1, 4, 1, 2, 1, 1]
def pAM5 : List Nat := [1, 1, 1]
end Go.Sx
section
namespace Go.Proofs.YthfpekhpeiebjaaGreatDoor
open Go.RowKit Go.Sx
def itB (s ik : Int) (key : List UInt8) (t v src : Int) : Bool := if ik = 1 then decide (key.length ≤ 256) && (timeB t && src == 0)
     else if ik = 2 then decide (0 ≤ src) && (decide (src < s) && (timeB t && (decide (key = []) && v == 0)))
     else if ik = 3 then decide (key = []) && (t == 0 && (v == 0 && src == 0))
     else false
def itE (b : Bool) : Int := bif b then 0 else 5
theorem key_nil (key : List UInt8) : ((mkB key).toList == (ByteArray.mk #[]).toList) = decide (key = []) := str_beq key []
theorem mayB_1 {c : Cf} {x : St} (h : x.kd = 1) : mayB c x = (x.wk == 0 && (x.wks == 0 && (x.bit == 0 && (x.mask == 0 && itB c.s x.ik x.key x.t x.v x.src)))) := by
 unfold mayB
 rw [if_pos h]
 rfl
theorem mayB_n {c : Cf} {x : St} (h : x.kd ≠ 1) : mayB c x = ((x.ik == 0 && (decide (x.key = []) && (x.t == 0 && (x.v == 0 && x.src == 0)))) && (if x.kd = 2 then x.wks == 0 && (x.bit == 0 && (x.mask == 0 && decide (0 ≤ x.wk)))
     else if x.kd = 3 then x.wk == 0 && (x.wks == 0 && (x.bit == 0 && x.mask == 0))
     else if x.kd = 4 then x.wk == 0 && (x.bit == 0 && (x.mask == 0 && (decide (1 ≤ x.wks) && decide (x.wks ≤ c.g))))
     else if x.kd = 5 then x.wk == 0 && (x.wks == 0 && decide (0 ≤ x.bit))
     else false)) := by
  unfold mayB
  rw [if_neg h]
  split
  · rename_i h0
    obtain ⟨h1, h2, h3, h4, h5⟩ := h0
    simp [h1, h2, h3, h4, h5]
  rename_i h0
  have : (x.ik == 0 && (decide (x.key = []) && (x.t == 0 && (x.v == 0 && x.src == 0)))) = false := by
    rw [Bool.eq_false_iff]
    intro hh
    simp only [Bool.and_eq_true, beq_iff_eq, decide_eq_true_eq] at hh
    exact h0 hh
  rw [this, Bool.false_and]
theorem item_any (g s k sz sl of gp lt ea : Int) (d : Bool) (ik : Int) (key : List UInt8) (t v src : Int) (w : World) (hc : wrongR g s k sz sl of gp lt ea = 0) :
  Calls Tryz.prog 61 #[.agg #[.int .i64 g, .int .i64 s, .int .i64 k, .int .i64 sz, .int .i64 sl, .int .i64 of, .int .i64 gp, .int .i64 lt, .int .i64 ea, .bool d], .agg #[.int .i64 ik, .string (mkB key), .int .i64 t, .int .i64 v, .int .i64 src]] w fun e w' => e = .returned (.int .i64 (bif itB s ik key t v src then 0 else 5)) ∧ Below w.heap.size w w' := by
 have h0 : wrongF g s k sz sl of gp lt ea = 0 := by rw [wrong_eq]; exact hc
 by_cases h1 : ik = 1
 ·subst h1
  have hk := item_1 g s k sz sl of gp lt ea d (mkB key) t v src w h0
  have he : it1 (mkB key) t src = itB s 1 key t v src := by
   unfold it1 itB
   rw [if_pos rfl, mkB_size]
   congr 1
   exact decide_eq_decide.2 (by omega)
  rw [he] at hk
  exact hk
 by_cases h2 : ik = 2
 ·subst h2
  have hk := item_2 g s k sz sl of gp lt ea d (mkB key) t v src w h0
  have he : it2 s (mkB key) t v src = itB s 2 key t v src := by
   unfold it2 itB
   rw [if_neg (by decide), if_pos rfl, key_nil]
  rw [he] at hk
  exact hk
 by_cases h3 : ik = 3
 ·subst h3
  have hk := item_3 g s k sz sl of gp lt ea d (mkB key) t v src w h0
  have he : it3 (mkB key) t v src = itB s 3 key t v src := by
   unfold it3 itB
   rw [if_neg (by decide), if_neg (by decide), if_pos rfl, key_nil]
  rw [he] at hk
  exact hk
 have hk := item_n g s k sz sl of gp lt ea d ik (mkB key) t v src w h0 (by simpa using h1) (by simpa using h2) (by simpa using h3)
 have he : itN = itB s ik key t v src := by
  unfold itN itB
  rw [if_neg h1, if_neg h2, if_neg h3]
 rw [he] at hk
 exact hk
noncomputable def B31 : Code := (Tryz.f31.body).getD .skip
noncomputable def sq31 (p : List Nat) : Go.Sx.K := .seq (sub B31 p)
set_option maxHeartbeats 20000000 in
set_option maxRecDepth 100000 in
theorem may_go (g s k sz sl of gp lt ea : Int) (d : Bool) (kd ik : Int) (key : List UInt8) (t v src wk wks bit mask : Int) (w : World) (hc : wrongR g s k sz sl of gp lt ea = 0) :
  Calls Tryz.prog 31 #[.agg #[.int .i64 g, .int .i64 s, .int .i64 k, .int .i64 sz, .int .i64 sl, .int .i64 of, .int .i64 gp, .int .i64 lt, .int .i64 ea, .bool d], .agg #[.int .i64 kd, .int .i64 ik, .string (mkB key), .int .i64 t, .int .i64 v, .int .i64 src, .int .i64 wk, .int .i64 wks, .int .i64 bit, .int .u32 mask]] w fun e w' => e = .returned (.bool (mayB ⟨g, s, k, sz, sl, of, gp, lt, ea, d⟩ ⟨kd, ik, key, t, v, src, wk, wks, bit, mask⟩)) ∧ Below w.heap.size w w' := by
 refine enter (fn := Tryz.f31) (c := B31) [.agg (cfAM g s k sz sl of gp lt ea d), .agg [.io .i64 kd, .io .i64 ik, .so (mkB key), .io .i64 t, .io .i64 v, .io .i64 src, .io .i64 wk, .io .i64 wks, .io .i64 bit, .io .u32 mask]] Tryz.func31 rfl rfl ?_
 refine zM [2, 3, 5, 10, 11] 3 ⟨.code (sub B31 [1, 1, 0, 1, 4, 1]), [.block 0, (sq31 pAM5)], [(2, .lp 0 0), (3, .lp 1 0), (5, .lp 2 0), (10, .io .i64 kd), (11, .bo (kd == 1))], [((cfAM g s k sz sl of gp lt ea d), 25), ([.io .i64 kd, .io .i64 ik, .so (mkB key), .io .i64 t, .io .i64 v, .io .i64 src, .io .i64 wk, .io .i64 wks, .io .i64 bit, .io IntKind.u32 mask], 41), ([.io .i64 kd, .v (.int .i64 0), .v (.string (ByteArray.mk #[])), .v (.int .i64 0), .v (.int .i64 0), .v (.int .i64 0), .v (.int .i64 0), .v (.int .i64 0), .v (.int .i64 0), .v (.int IntKind.u32 0)], 41)]⟩ ?_
 rcases zB (kd == 1) with b0 | b0
 ·refine zR 11 b0 ?_
  refine zM [2, 3, 19] 2 ⟨pops B31 [1, 1, 0, 1, 4, 1, 2, 1, 0] 4, [(sq31 pAM4), .block 0, (sq31 pAM5)], [(2, .lp 0 0), (3, .lp 1 0), (19, .bo (kd == kd && (ik == ik && ((mkB key).toList == (mkB key).toList && (t == t && (v == v && (src == src && true)))) && (wk == 0 && (wks == 0 && (bit == 0 && (mask == 0 && true)))))))], [((cfAM g s k sz sl of gp lt ea d), 25), ([.io .i64 kd, .io .i64 ik, .so (mkB key), .io .i64 t, .io .i64 v, .io .i64 src, .io .i64 wk, .io .i64 wks, .io .i64 bit, .io IntKind.u32 mask], 41)]⟩ ?_
  rcases zB (kd == kd && (ik == ik && ((mkB key).toList == (mkB key).toList && (t == t && (v == v && (src == src && true)))) && (wk == 0 && (wks == 0 && (bit == 0 && (mask == 0 && true)))))) with b1 | b1
  ·refine zR 19 b1 ?_
   refine zM [19, 20, 22] 0 ⟨pops B31 [1, 1, 0, 1, 4, 1, 2, 1, 0] 7, [(sq31 pAM4), .block 0, (sq31 pAM5)], [(19, .v (.bool true)), (20, .agg (cfAM g s k sz sl of gp lt ea d)), (22, .agg [.io .i64 ik, .so (mkB key), .io .i64 t, .io .i64 v, .io .i64 src])], []⟩ ?_
   refine zC noF_stable 61 [.agg (cfAM g s k sz sl of gp lt ea d), .agg [.io .i64 ik, .so (mkB key), .io .i64 t, .io .i64 v, .io .i64 src]] (.io .i64 (itE (itB s ik key t v src))) (fun _ _ w1 _ _ => item_any g s k sz sl of gp lt ea d ik key t v src w1 hc) ?_
   refine zM [4] 0 ⟨.exit .ret, [], [(4, .bo (itE (itB s ik key t v src) == 0))], []⟩ ?_
   refine zE (.bo (itE (itB s ik key t v src) == 0)) ?_
   intro ρ w9 hm' _
   refine ⟨?_, hm'.below⟩
   have hkd : kd = 1 := by simpa using b0
   rw [mayB_1 hkd]
   dsimp only
   simp only [BEq.rfl, Bool.true_and, Bool.and_true, key_nil, ← Bool.and_assoc] at b1
   simp only [← Bool.and_assoc]
   rw [b1, Bool.true_and]
   cases itB s ik key t v src <;> rfl
  refine zR 19 b1 ?_
  refine zM [4] 0 ⟨.exit .ret, [], [(4, .v (.bool false))], []⟩ ?_
  refine zE (.v (.bool false)) ?_
  intro ρ w9 hm' _
  refine ⟨?_, hm'.below⟩
  have hkd : kd = 1 := by simpa using b0
  show Ending.returned (.bool (false)) = _
  refine congrArg (fun q => Ending.returned (.bool q)) ?_
  rw [mayB_1 hkd]
  simp only [BEq.rfl, Bool.true_and, Bool.and_true, key_nil, ← Bool.and_assoc] at b1
  simp only [← Bool.and_assoc]
  rw [b1]
  rfl
 refine zR 11 b0 ?_
 refine zM [2, 3, 5, 10, 26] 3 ⟨.code (sub B31 [1, 1, 0, 1, 4, 1, 3, 1]), [.block 0, (sq31 pAM5)], [(2, .lp 0 0), (3, .lp 1 0), (5, .lp 2 0), (10, .io .i64 kd), (26, .bo (kd == 2))], [((cfAM g s k sz sl of gp lt ea d), 25), ([.io .i64 kd, .io .i64 ik, .so (mkB key), .io .i64 t, .io .i64 v, .io .i64 src, .io .i64 wk, .io .i64 wks, .io .i64 bit, .io IntKind.u32 mask], 41), ([.io .i64 kd, .v (.int .i64 0), .v (.string (ByteArray.mk #[])), .v (.int .i64 0), .v (.int .i64 0), .v (.int .i64 0), .v (.int .i64 0), .v (.int .i64 0), .v (.int .i64 0), .v (.int IntKind.u32 0)], 41)]⟩ ?_
 rcases zB (kd == 2) with b2 | b2
 ·refine zR 26 b2 ?_
  refine zM [3, 34] 2 ⟨pops B31 [1, 1, 0, 1, 4, 1, 3, 1, 2, 1, 0] 4, [(sq31 pAM4), .block 0, (sq31 pAM5)], [(3, .lp 1 0), (34, .bo (kd == kd && (ik == 0 && ((mkB key).toList == (ByteArray.mk #[]).toList && (t == 0 && (v == 0 && (src == 0 && true)))) && (wk == wk && (wks == 0 && (bit == 0 && (mask == 0 && true)))))))], [((cfAM g s k sz sl of gp lt ea d), 25), ([.io .i64 kd, .io .i64 ik, .so (mkB key), .io .i64 t, .io .i64 v, .io .i64 src, .io .i64 wk, .io .i64 wks, .io .i64 bit, .io IntKind.u32 mask], 41)]⟩ ?_
  rcases zB (kd == kd && (ik == 0 && ((mkB key).toList == (ByteArray.mk #[]).toList && (t == 0 && (v == 0 && (src == 0 && true)))) && (wk == wk && (wks == 0 && (bit == 0 && (mask == 0 && true)))))) with b3 | b3
  ·refine zR 34 b3 ?_
   refine zM [4] 0 ⟨.exit .ret, [], [(4, .bo (decide (wk ≥ 0)))], []⟩ ?_
   refine zE (.bo (decide (wk ≥ 0))) ?_
   intro ρ w9 hm' _
   refine ⟨?_, hm'.below⟩
   have hkd : kd = 2 := by simpa using b2
   show Ending.returned (.bool (decide (wk ≥ 0))) = _
   refine congrArg (fun q => Ending.returned (.bool q)) ?_
   rw [mayB_n (show kd ≠ 1 by omega)]
   dsimp only
   simp only [hkd, if_pos, if_neg, show ((2 : Int) = 2) = True from by simp, show ((2 : Int) = 3) = False from by simp, show ((2 : Int) = 4) = False from by simp, show ((2 : Int) = 5) = False from by simp, if_true, if_false]
   simp only [BEq.rfl, Bool.true_and, Bool.and_true, key_nil, ← Bool.and_assoc] at b3
   simp only [← Bool.and_assoc]
   rw [b3, Bool.true_and]
  refine zR 34 b3 ?_
  refine zM [4] 0 ⟨.exit .ret, [], [(4, .v (.bool false))], []⟩ ?_
  refine zE (.v (.bool false)) ?_
  intro ρ w9 hm' _
  refine ⟨?_, hm'.below⟩
  have hkd : kd = 2 := by simpa using b2
  show Ending.returned (.bool (false)) = _
  refine congrArg (fun q => Ending.returned (.bool q)) ?_
  rw [mayB_n (show kd ≠ 1 by omega)]
  dsimp only
  simp only [hkd, if_pos, if_neg, show ((2 : Int) = 2) = True from by simp, show ((2 : Int) = 3) = False from by simp, show ((2 : Int) = 4) = False from by simp, show ((2 : Int) = 5) = False from by simp, if_true, if_false]
  simp only [BEq.rfl, Bool.true_and, Bool.and_true, key_nil, ← Bool.and_assoc] at b3
  simp only [← Bool.and_assoc]
  rw [b3]
  rfl
 refine zR 26 b2 ?_
 refine zM [2, 3, 5, 10, 39] 3 ⟨.code (sub B31 [1, 1, 0, 1, 4, 1, 3, 1, 3, 1]), [.block 0, (sq31 pAM5)], [(2, .lp 0 0), (3, .lp 1 0), (5, .lp 2 0), (10, .io .i64 kd), (39, .bo (kd == 3))], [((cfAM g s k sz sl of gp lt ea d), 25), ([.io .i64 kd, .io .i64 ik, .so (mkB key), .io .i64 t, .io .i64 v, .io .i64 src, .io .i64 wk, .io .i64 wks, .io .i64 bit, .io IntKind.u32 mask], 41), ([.io .i64 kd, .v (.int .i64 0), .v (.string (ByteArray.mk #[])), .v (.int .i64 0), .v (.int .i64 0), .v (.int .i64 0), .v (.int .i64 0), .v (.int .i64 0), .v (.int .i64 0), .v (.int IntKind.u32 0)], 41)]⟩ ?_
 rcases zB (kd == 3) with b4 | b4
 ·refine zR 39 b4 ?_
  refine zM [4] 0 ⟨.exit .ret, [], [(4, .bo (kd == kd && (ik == 0 && ((mkB key).toList == (ByteArray.mk #[]).toList && (t == 0 && (v == 0 && (src == 0 && true)))) && (wk == 0 && (wks == 0 && (bit == 0 && (mask == 0 && true)))))))], []⟩ ?_
  refine zE (.bo (kd == kd && (ik == 0 && ((mkB key).toList == (ByteArray.mk #[]).toList && (t == 0 && (v == 0 && (src == 0 && true)))) && (wk == 0 && (wks == 0 && (bit == 0 && (mask == 0 && true))))))) ?_
  intro ρ w9 hm' _
  refine ⟨?_, hm'.below⟩
  have hkd : kd = 3 := by simpa using b4
  show Ending.returned (.bool (kd == kd && (ik == 0 && ((mkB key).toList == (ByteArray.mk #[]).toList && (t == 0 && (v == 0 && (src == 0 && true)))) && (wk == 0 && (wks == 0 && (bit == 0 && (mask == 0 && true))))))) = _
  refine congrArg (fun q => Ending.returned (.bool q)) ?_
  rw [mayB_n (show kd ≠ 1 by omega)]
  dsimp only
  simp only [hkd, if_pos, if_neg, show ((3 : Int) = 2) = False from by simp, show ((3 : Int) = 3) = True from by simp, show ((3 : Int) = 4) = False from by simp, show ((3 : Int) = 5) = False from by simp, if_true, if_false]
  simp only [BEq.rfl, Bool.true_and, Bool.and_true, key_nil, ← Bool.and_assoc]
 refine zR 39 b4 ?_
 refine zM [2, 3, 5, 10, 44] 3 ⟨.code (sub B31 [1, 1, 0, 1, 4, 1, 3, 1, 3, 1, 3, 1]), [.block 0, (sq31 pAM5)], [(2, .lp 0 0), (3, .lp 1 0), (5, .lp 2 0), (10, .io .i64 kd), (44, .bo (kd == 4))], [((cfAM g s k sz sl of gp lt ea d), 25), ([.io .i64 kd, .io .i64 ik, .so (mkB key), .io .i64 t, .io .i64 v, .io .i64 src, .io .i64 wk, .io .i64 wks, .io .i64 bit, .io IntKind.u32 mask], 41), ([.io .i64 kd, .v (.int .i64 0), .v (.string (ByteArray.mk #[])), .v (.int .i64 0), .v (.int .i64 0), .v (.int .i64 0), .v (.int .i64 0), .v (.int .i64 0), .v (.int .i64 0), .v (.int IntKind.u32 0)], 41)]⟩ ?_
 rcases zB (kd == 4) with b5 | b5
 ·refine zR 44 b5 ?_
  refine zM [2, 3, 52] 2 ⟨pops B31 pAM3 4, [(sq31 pAM4), .block 0, (sq31 pAM5)], [(2, .lp 0 0), (3, .lp 1 0), (52, .bo (kd == kd && (ik == 0 && ((mkB key).toList == (ByteArray.mk #[]).toList && (t == 0 && (v == 0 && (src == 0 && true)))) && (wk == 0 && (wks == wks && (bit == 0 && (mask == 0 && true)))))))], [((cfAM g s k sz sl of gp lt ea d), 25), ([.io .i64 kd, .io .i64 ik, .so (mkB key), .io .i64 t, .io .i64 v, .io .i64 src, .io .i64 wk, .io .i64 wks, .io .i64 bit, .io IntKind.u32 mask], 41)]⟩ ?_
  rcases zB (kd == kd && (ik == 0 && ((mkB key).toList == (ByteArray.mk #[]).toList && (t == 0 && (v == 0 && (src == 0 && true)))) && (wk == 0 && (wks == wks && (bit == 0 && (mask == 0 && true)))))) with b6 | b6
  ·refine zR 52 b6 ?_
   refine zM [2, 3, 57] 2 ⟨pops B31 pAM3 9, [(sq31 pAM4), .block 0, (sq31 pAM5)], [(2, .lp 0 0), (3, .lp 1 0), (57, .bo (decide (wks ≥ 1)))], [((cfAM g s k sz sl of gp lt ea d), 25), ([.io .i64 kd, .io .i64 ik, .so (mkB key), .io .i64 t, .io .i64 v, .io .i64 src, .io .i64 wk, .io .i64 wks, .io .i64 bit, .io IntKind.u32 mask], 41)]⟩ ?_
   rcases zB (decide (wks ≥ 1)) with b7 | b7
   ·refine zR 57 b7 ?_
    refine zM [4] 0 ⟨.exit .ret, [], [(4, .bo (decide (wks ≤ g)))], []⟩ ?_
    refine zE (.bo (decide (wks ≤ g))) ?_
    intro ρ w9 hm' _
    refine ⟨?_, hm'.below⟩
    have hkd : kd = 4 := by simpa using b5
    show Ending.returned (.bool (decide (wks ≤ g))) = _
    refine congrArg (fun q => Ending.returned (.bool q)) ?_
    rw [mayB_n (show kd ≠ 1 by omega)]
    dsimp only
    simp only [hkd, if_pos, if_neg, show ((4 : Int) = 2) = False from by simp, show ((4 : Int) = 3) = False from by simp, show ((4 : Int) = 4) = True from by simp, show ((4 : Int) = 5) = False from by simp, if_true, if_false]
    simp only [BEq.rfl, Bool.true_and, Bool.and_true, key_nil, ← Bool.and_assoc] at b6
    have b7' : decide (1 ≤ wks) = true := b7
    simp only [← Bool.and_assoc]
    rw [b6, b7']
    rfl
   refine zR 57 b7 ?_
   refine zM [4] 0 ⟨.exit .ret, [], [(4, .v (.bool false))], []⟩ ?_
   refine zE (.v (.bool false)) ?_
   intro ρ w9 hm' _
   refine ⟨?_, hm'.below⟩
   have hkd : kd = 4 := by simpa using b5
   show Ending.returned (.bool (false)) = _
   refine congrArg (fun q => Ending.returned (.bool q)) ?_
   rw [mayB_n (show kd ≠ 1 by omega)]
   dsimp only
   simp only [hkd, if_pos, if_neg, show ((4 : Int) = 2) = False from by simp, show ((4 : Int) = 3) = False from by simp, show ((4 : Int) = 4) = True from by simp, show ((4 : Int) = 5) = False from by simp, if_true, if_false]
   simp only [BEq.rfl, Bool.true_and, Bool.and_true, key_nil, ← Bool.and_assoc] at b6
   have b7' : decide (1 ≤ wks) = false := b7
   simp only [← Bool.and_assoc]
   rw [b6, b7']
   rfl
  refine zR 52 b6 ?_
  refine zM [4] 0 ⟨.exit .ret, [], [(4, .v (.bool false))], []⟩ ?_
  refine zE (.v (.bool false)) ?_
  intro ρ w9 hm' _
  refine ⟨?_, hm'.below⟩
  have hkd : kd = 4 := by simpa using b5
  show Ending.returned (.bool (false)) = _
  refine congrArg (fun q => Ending.returned (.bool q)) ?_
  rw [mayB_n (show kd ≠ 1 by omega)]
  dsimp only
  simp only [hkd, if_pos, if_neg, show ((4 : Int) = 2) = False from by simp, show ((4 : Int) = 3) = False from by simp, show ((4 : Int) = 4) = True from by simp, show ((4 : Int) = 5) = False from by simp, if_true, if_false]
  simp only [BEq.rfl, Bool.true_and, Bool.and_true, key_nil, ← Bool.and_assoc] at b6
  simp only [← Bool.and_assoc]
  rw [b6]
  rfl
 refine zR 44 b5 ?_
 refine zM [3, 5, 64] 3 ⟨.code (sub B31 [1, 1, 0, 1, 4, 1, 3, 1, 3, 1, 3, 1, 3, 1]), [.block 0, (sq31 pAM5)], [(3, .lp 1 0), (5, .lp 2 0), (64, .bo (kd == 5))], [((cfAM g s k sz sl of gp lt ea d), 25), ([.io .i64 kd, .io .i64 ik, .so (mkB key), .io .i64 t, .io .i64 v, .io .i64 src, .io .i64 wk, .io .i64 wks, .io .i64 bit, .io IntKind.u32 mask], 41), ([.io .i64 kd, .v (.int .i64 0), .v (.string (ByteArray.mk #[])), .v (.int .i64 0), .v (.int .i64 0), .v (.int .i64 0), .v (.int .i64 0), .v (.int .i64 0), .v (.int .i64 0), .v (.int IntKind.u32 0)], 41)]⟩ ?_
 rcases zB (kd == 5) with b8 | b8
 ·refine zR 64 b8 ?_
  refine zM [3, 5] 3 ⟨.any (opsOf (sub B31 [1, 1, 0, 1, 4, 1, 3, 1, 3, 1, 3, 1, 3, 1, 2, 0])) 8 [], [(sq31 [1, 1, 0, 1, 4, 1, 3, 1, 3, 1, 3, 1, 3, 1, 2, 1]), .block 0, (sq31 pAM5)], [(3, .lp 1 0), (5, .lp 2 0)], [((cfAM g s k sz sl of gp lt ea d), 25), ([.io .i64 kd, .io .i64 ik, .so (mkB key), .io .i64 t, .io .i64 v, .io .i64 src, .io .i64 wk, .io .i64 wks, .io .i64 bit, .io IntKind.u32 mask], 41), ([.io .i64 kd, .v (.int .i64 0), .v (.string (ByteArray.mk #[])), .v (.int .i64 0), .v (.int .i64 0), .v (.int .i64 0), .v (.int .i64 0), .v (.int .i64 0), .v (.int .i64 0), .v (.int IntKind.u32 0)], 41)]⟩ ?_
  refine At.anyOrder noF_stable (j := 0) (fun _ _ _ _ _ => trivial) rfl 20 3 [3, 5] 3 [(3, .lp 1 0), (5, .lp 2 0)] [((cfAM g s k sz sl of gp lt ea d), 25), ([.io .i64 kd, .io .i64 ik, .so (mkB key), .io .i64 t, .io .i64 v, .io .i64 src, .io .i64 wk, .io .i64 wks, .io .i64 bit, .io .u32 mask], 41), ([.io .i64 kd, .v (.int .i64 0), .v (.string (ByteArray.mk #[])), .v (.int .i64 0), .v (.int .i64 0), .v (.int .i64 0), .v (.int .i64 0), .v (.int .i64 0), .io .i64 bit, .io .u32 mask], 41)] (by kernel_rfl) (by kernel_rfl) ?_
  refine zM [3, 75] 2 ⟨pops B31 [1, 1, 0, 1, 4, 1, 3, 1, 3, 1, 3, 1, 3, 1, 2, 1, 0] 4, [(sq31 pAM4), .block 0, (sq31 pAM5)], [(3, .lp 1 0), (75, .bo (kd == kd && (ik == 0 && ((mkB key).toList == (ByteArray.mk #[]).toList && (t == 0 && (v == 0 && (src == 0 && true)))) && (wk == 0 && (wks == 0 && (bit == bit && (mask == mask && true)))))))], [((cfAM g s k sz sl of gp lt ea d), 25), ([.io .i64 kd, .io .i64 ik, .so (mkB key), .io .i64 t, .io .i64 v, .io .i64 src, .io .i64 wk, .io .i64 wks, .io .i64 bit, .io IntKind.u32 mask], 41)]⟩ ?_
  rcases zB (kd == kd && (ik == 0 && ((mkB key).toList == (ByteArray.mk #[]).toList && (t == 0 && (v == 0 && (src == 0 && true)))) && (wk == 0 && (wks == 0 && (bit == bit && (mask == mask && true)))))) with b0 | b0
  ·refine zR 75 b0 ?_
   refine zM [4] 0 ⟨.exit .ret, [], [(4, .bo (decide (bit ≥ 0)))], []⟩ ?_
   refine zE (.bo (decide (bit ≥ 0))) ?_
   intro ρ w9 hm' _
   refine ⟨?_, hm'.below⟩
   have hkd : kd = 5 := by simpa using b8
   show Ending.returned (.bool (decide (bit ≥ 0))) = _
   refine congrArg (fun q => Ending.returned (.bool q)) ?_
   rw [mayB_n (show kd ≠ 1 by omega)]
   dsimp only
   simp only [hkd, if_pos, if_neg, show ((5 : Int) = 2) = False from by simp, show ((5 : Int) = 3) = False from by simp, show ((5 : Int) = 4) = False from by simp, show ((5 : Int) = 5) = True from by simp, if_true, if_false]
   simp only [BEq.rfl, Bool.true_and, Bool.and_true, key_nil, ← Bool.and_assoc] at b0
   simp only [← Bool.and_assoc]
   rw [b0, Bool.true_and]
  refine zR 75 b0 ?_
  refine zM [4] 0 ⟨.exit .ret, [], [(4, .v (.bool false))], []⟩ ?_
  refine zE (.v (.bool false)) ?_
  intro ρ w9 hm' _
  refine ⟨?_, hm'.below⟩
  have hkd : kd = 5 := by simpa using b8
  show Ending.returned (.bool (false)) = _
  refine congrArg (fun q => Ending.returned (.bool q)) ?_
  rw [mayB_n (show kd ≠ 1 by omega)]
  dsimp only
  simp only [hkd, if_pos, if_neg, show ((5 : Int) = 2) = False from by simp, show ((5 : Int) = 3) = False from by simp, show ((5 : Int) = 4) = False from by simp, show ((5 : Int) = 5) = True from by simp, if_true, if_false]
  simp only [BEq.rfl, Bool.true_and, Bool.and_true, key_nil, ← Bool.and_assoc] at b0
  simp only [← Bool.and_assoc]
  rw [b0]
  rfl
 refine zR 64 b8 ?_
 refine zM [4] 0 ⟨.exit .ret, [], [(4, .v (.bool false))], []⟩ ?_
 refine zE (.v (.bool false)) ?_
 intro ρ w9 hm' _
 refine ⟨?_, hm'.below⟩
 have k1 : kd ≠ 1 := by simpa using b0
 have k2 : kd ≠ 2 := by simpa using b2
 have k3 : kd ≠ 3 := by simpa using b4
 have k4 : kd ≠ 4 := by simpa using b5
 have k5 : kd ≠ 5 := by simpa using b8
 show Ending.returned (.bool (false)) = _
 refine congrArg (fun q => Ending.returned (.bool q)) ?_
 rw [mayB_n k1]
 dsimp only
 simp only [if_neg k2, if_neg k3, if_neg k4, if_neg k5, Bool.and_false]
theorem may_any (c : Cf) (x : St) (hc : c.wr = 0) (w : World) :
  Calls Tryz.prog 31 #[.agg c.w.toArray, .agg x.w.toArray] w fun e w' => e = .returned (.bool (mayB c x)) ∧ Below w.heap.size w w' := by
 obtain ⟨g, s, k, sz, sl, of, gp, lt, ea, d⟩ := c
 obtain ⟨kd, ik, key, t, v, src, wk, wks, bit, mask⟩ := x
 exact may_go g s k sz sl of gp lt ea d kd ik key t v src wk wks bit mask w hc
end Go.Proofs.YthfpekhpeiebjaaGreatDoor
end
section
namespace Go.Proofs.YthfpekhpeiebjaaGreatDoor
open Go.RowKit Go.Sx
noncomputable def B9 : Code := (Tryz.f9.body).getD .skip
noncomputable def sq9 (p : List Nat) : Go.Sx.K := .seq (sub B9 p)
noncomputable def BPr : Code := sub B9 [4, 1, 1, 1, 1, 0, 1, 4]
noncomputable def BPa : Code := match BPr with | .rangeFunc _ _ a _ => a | _ => .skip
noncomputable def BPb : Code := match BPr with | .rangeFunc _ _ _ b => b | _ => .skip
def frB (ln : List UInt8) (en : Bool) : Fr := [(2, .lp 0 0), (3, .lp 1 0), (4, .lp 2 0), (5, .lp 3 0), (6, .lp 4 0), (7, .so (mkB ln)), (8, .bo en)]
def zsv : List SV := [.io .i64 0, .io .i64 0, .io .i64 0, .io .i64 0, .io .i64 0, .io .i64 0, .io .i64 0, .io .i64 0, .io .i64 0, .bo false, .io .i64 0, .sl none 0 0]
def locP (t : List UInt8) (n : Nat) (c : Cf) (wk : Int) (A : Option Addr) (m cap : Nat) (rn re : Int) : Sx.Loc := match c with
 | ⟨g, s, k, sz, sl, of, gp, lt, ea, d⟩ => [(zsv, 28), ([.io .i64 rn], 3), ([.io .i64 re], 29),
  ((cwAM g s k sz sl of gp lt ea d wk A m cap), 28), ([.io .i64 (n : Int)], 3), ([.so (mkB t)], 9)]
def locR (t : List UInt8) (n : Nat) (c : Cf) (wk : Int) (xs : List St) (A : Option Addr) (m cap : Nat) : RS → Sx.Loc
 | .go n' c' wk' xs' => locP t n' c' wk' A m cap 0 0
 | .ret => locP t n c wk A m cap n 370
 | .brk => locP t n c wk A m cap 0 0
def xsR (xs : List St) : RS → List St
 | .go _ _ _ xs' => xs'
 | _ => xs
def jmpR : RS → Option Code
 | .go _ _ _ _ => none
 | .ret => some .ret
 | .brk => some (.exit 0)
theorem body_flat : flat BPb = true := by kernel_rfl
theorem body_no_step (ln : List UInt8) (n : Nat) (c : Cf) (wk : Int) (xs : List St) : stepR ln false n c wk xs = .ret := rfl
set_option maxHeartbeats 4000000 in
set_option maxRecDepth 100000 in
theorem body_no [Md] {base N : Nat} {w2 : World} {ok : Nat → Prop} {ρ1 : List Nat} (hl : ρ1.length = 6) (hN : N ≤ base) (l : Nat) {R : Ending → World → Prop} (t ln : List UInt8) (c : Cf) (wk : Int) (A : Option Addr) (m cap : Nat) (xs : List St)
  (hm : m ≤ 1048576) (hln : ln.length ≤ 1048576) (hW : ∀ w', Below N w2 w' → Wd w') (n : Nat)
  (hend : ∀ (A' : Option Addr) (m' cap' : Nat) (ρ' : List Nat) (w' : World), WInv N w2 ρ' (locR t n c wk xs A' m' cap' (stepR ln false n c wk xs)) w' → RowE w2 ok ρ1 base 41 10 A' m' cap' (stW (xsR xs (stepR ln false n c wk xs))) [] ρ' w' →
   ∃ r, w'.heap[l]? = some (.loop r) ∧ R (.returned (.bool (jmpR (stepR ln false n c wk xs)).isNone)) (w'.putObj l (.loop { r with state := if (jmpR (stepR ln false n c wk xs)).isNone then .ready else .done, pending := jmpR (stepR ln false n c wk xs) }))) :
  At Tryz.prog (roundPost Tryz.prog l R) N w2 Tryz.f9.ntmps (RowE w2 ok ρ1 base 41 10 A m cap (stW xs) []) ⟨.code BPb, [], frB ln false, locP t n c wk A m cap 0 0⟩ := by
 have h6 : ∀ {A : Option Addr} {n c : Nat} {xs : List Value} {L : List (Option Addr × List Value)}, FewerK 6 (RowE w2 ok ρ1 base 41 10 A n c xs L) := hl ▸ RowE.fewer
 obtain ⟨g, s, k, sz, sl, of, gp, lt, ea, d⟩ := c
 refine zU RowE.stable h6 [2, 3, 4, 5, 6, 7, 24] 6 ⟨.code (sub BPb [4, 0, 1]), [.seq (sub BPb [4, 1]), .block 1], [(2, .lp 0 0), (3, .lp 1 0), (4, .lp 2 0), (5, .lp 3 0), (6, .lp 4 0), (7, .so (mkB ln)), (24, .bo true)], [(zAM2, 28), ([.io .i64 0], 3), ([.io .i64 0], 29), ((cwAM g s k sz sl of gp lt ea d wk A m cap), 28), ([.io .i64 (↑n : Int)], 3), ([.so (mkB t)], 9)]⟩ ?_
 refine At.res 24 (true) true (by kernel_rfl) (by first | assumption | (simp only [*]; done) | (simp [*]; done)) ?_
 refine zU RowE.stable h6 [2, 3, 4, 6] 6 ⟨.any (opsOf (sub BPb [4, 0, 1, 2, 0])) 5 [], [.seq (sub BPb [4, 0, 1, 2, 1]), .seq (sub BPb [4, 1]), .block 1], [(2, .lp 0 0), (3, .lp 1 0), (4, .lp 2 0), (6, .lp 4 0)], [(zAM2, 28), ([.io .i64 0], 3), ([.io .i64 0], 29), ((cwAM g s k sz sl of gp lt ea d wk A m cap), 28), ([.io .i64 (↑n : Int)], 3), ([.so (mkB t)], 9)]⟩ ?_
 refine At.anyOrder RowE.stable h6 rfl 20 2 [2, 3, 4] 6 [(2, .lp 0 0), (3, .lp 1 0), (4, .lp 2 0)] [(zAM0, 28), ([.io .i64 (n : Int)], 3), ([.v (.int .i64 370)], 29), ((cwAM g s k sz sl of gp lt ea d wk A m cap), 28), ([.io .i64 (↑n : Int)], 3), ([.so (mkB t)], 9)] (by kernel_rfl) (by kernel_rfl) ?_
 refine zU RowE.stable h6 [2, 3, 4] 6 ⟨.exit .ret, [], [(2, .lp 0 0), (3, .lp 1 0), (4, .lp 2 0)], [(zAM0, 28), ([.io .i64 (↑n : Int)], 3), ([.v (.int .i64 370)], 29), ((cwAM g s k sz sl of gp lt ea d wk A m cap), 28), ([.io .i64 (↑n : Int)], 3), ([.so (mkB t)], 9)]⟩ ?_
 refine At.canL _ rfl ?_
 refine At.slLoc _ rfl ?_
 refine At.rndEnd (some .ret) rfl rfl rfl fun ρ' w' hm' hf => ?_
 have he := hend A m cap ρ' w'
 rw [body_no_step] at he
 exact he hm' hf
theorem step0_no {ln : List UInt8} {c : Cf} {wk : Int} {xs : List St} (h : Lib.hasPrefix ln jobT = false) : stepR ln true 0 c wk xs = .brk := by
 simp [stepR, h]
theorem step0_bad {ln : List UInt8} {c : Cf} {wk : Int} {xs : List St} (h : cfgP (Lib.trimPrefix ln jobT) = none) : stepR ln true 0 c wk xs = .brk := by
 simp [stepR, h]
theorem step0_ok {ln : List UInt8} {c c' : Cf} {wk : Int} {xs : List St} (h : Lib.hasPrefix ln jobT = true) (h2 : cfgP (Lib.trimPrefix ln jobT) = some c') : stepR ln true 0 c wk xs = .go 1 c' wk xs := by
 simp [stepR, h, h2]
theorem trim_len (ln p : List UInt8) : (Lib.trimPrefix ln p).length ≤ ln.length := by
 unfold Lib.trimPrefix
 split
 ·simp
 exact Nat.le_refl _
theorem step1_no {ln : List UInt8} {c : Cf} {wk : Int} {xs : List St} (h : Lib.hasPrefix ln worT = false) : stepR ln true 1 c wk xs = .brk := by
 simp [stepR, h]
theorem step1_bad {ln : List UInt8} {c : Cf} {wk : Int} {xs : List St} (h : numsP (Lib.trimPrefix ln worT) 1 = none) : stepR ln true 1 c wk xs = .brk := by
 simp [stepR, h]
theorem step1_low {ln : List UInt8} {c : Cf} {wk x : Int} {xs : List St} (h : numsP (Lib.trimPrefix ln worT) 1 = some [x]) (hx : x < 1 ∨ c.g < x) : stepR ln true 1 c wk xs = .brk := by
 simp [stepR, h, hx]
theorem step1_ok {ln : List UInt8} {c : Cf} {wk x : Int} {xs : List St} (h0 : Lib.hasPrefix ln worT = true) (h : numsP (Lib.trimPrefix ln worT) 1 = some [x]) (hx : ¬ (x < 1 ∨ c.g < x)) : stepR ln true 1 c wk xs = .go 2 c x xs := by
 unfold stepR
 rw [if_neg (by simp)]
 simp only [h0, h, if_true]
 rw [if_neg hx]
set_option maxHeartbeats 4000000 in
set_option maxRecDepth 100000 in
theorem body_1 [Md] {base N : Nat} {w2 : World} {ok : Nat → Prop} {ρ1 : List Nat} (hl : ρ1.length = 6) (hN : N ≤ base) (l : Nat) {R : Ending → World → Prop} (t ln : List UInt8) (c : Cf) (wk : Int) (A : Option Addr) (m cap : Nat) (xs : List St)
  (hm : m ≤ 1048576) (hln : ln.length ≤ 1048576) (hW : ∀ w', Below N w2 w' → Wd w')
  (hend : ∀ (A' : Option Addr) (m' cap' : Nat) (ρ' : List Nat) (w' : World), WInv N w2 ρ' (locR t 1 c wk xs A' m' cap' (stepR ln true 1 c wk xs)) w' → RowE w2 ok ρ1 base 41 10 A' m' cap' (stW (xsR xs (stepR ln true 1 c wk xs))) [] ρ' w' →
   ∃ r, w'.heap[l]? = some (.loop r) ∧ R (.returned (.bool (jmpR (stepR ln true 1 c wk xs)).isNone)) (w'.putObj l (.loop { r with state := if (jmpR (stepR ln true 1 c wk xs)).isNone then .ready else .done, pending := jmpR (stepR ln true 1 c wk xs) }))) :
  At Tryz.prog (roundPost Tryz.prog l R) N w2 Tryz.f9.ntmps (RowE w2 ok ρ1 base 41 10 A m cap (stW xs) []) ⟨.code BPb, [], frB ln true, locP t 1 c wk A m cap 0 0⟩ := by
 have h6 : ∀ {A : Option Addr} {n c : Nat} {xs : List Value} {L : List (Option Addr × List Value)}, FewerK 6 (RowE w2 ok ρ1 base 41 10 A n c xs L) := hl ▸ RowE.fewer
 obtain ⟨g, s, k, sz, sl, of, gp, lt, ea, d⟩ := c
 refine zU RowE.stable h6 [2, 3, 4, 5, 6, 7, 24] 6 ⟨.code (sub BPb [4, 0, 1]), [.seq (sub BPb [4, 1]), .block 1], [(2, .lp 0 0), (3, .lp 1 0), (4, .lp 2 0), (5, .lp 3 0), (6, .lp 4 0), (7, .so (mkB ln)), (24, .bo false)], [(zAM2, 28), ([.io .i64 0], 3), ([.io .i64 0], 29), ((cwAM g s k sz sl of gp lt ea d wk A m cap), 28), ([.io .i64 1], 3), ([.so (mkB t)], 9)]⟩ ?_
 refine At.res 24 (false) false (by kernel_rfl) (by first | assumption | (simp only [*]; done) | (simp [*]; done)) ?_
 refine zU RowE.stable h6 [2, 3, 4, 5, 6, 7, 27, 50] 6 ⟨.code (sub BPb [4, 1, 0, 1, 4, 1]), [.block 2, .seq (sub BPb [4, 1, 1]), .block 1], [(2, .lp 0 0), (3, .lp 1 0), (4, .lp 2 0), (5, .lp 3 0), (6, .lp 4 0), (7, .so (mkB ln)), (27, .io .i64 1), (50, .bo false)], [(zAM2, 28), ([.io .i64 0], 3), ([.io .i64 0], 29), ((cwAM g s k sz sl of gp lt ea d wk A m cap), 28), ([.io .i64 1], 3), ([.so (mkB t)], 9)]⟩ ?_
 refine At.res 50 (false) false (by kernel_rfl) (by first | assumption | (simp only [*]; done) | (simp [*]; done)) ?_
 refine zU RowE.stable h6 [2, 3, 4, 5, 6, 7, 70] 6 ⟨.code (sub BPb [4, 1, 0, 1, 4, 1, 3, 1]), [.block 2, .seq (sub BPb [4, 1, 1]), .block 1], [(2, .lp 0 0), (3, .lp 1 0), (4, .lp 2 0), (5, .lp 3 0), (6, .lp 4 0), (7, .so (mkB ln)), (70, .bo true)], [(zAM2, 28), ([.io .i64 0], 3), ([.io .i64 0], 29), ((cwAM g s k sz sl of gp lt ea d wk A m cap), 28), ([.io .i64 1], 3), ([.so (mkB t)], 9)]⟩ ?_
 refine At.res 70 (true) true (by kernel_rfl) (by first | assumption | (simp only [*]; done) | (simp [*]; done)) ?_
 refine zU RowE.stable h6 [2, 3, 4, 5, 6, 73] 6 ⟨pops BPb [4, 1, 0, 1, 4, 1, 3, 1, 2, 0] 1, [.seq (sub BPb [4, 1, 0, 1, 4, 1, 3, 1, 2, 1]), .block 2, .seq (sub BPb [4, 1, 1]), .block 1], [(2, .lp 0 0), (3, .lp 1 0), (4, .lp 2 0), (5, .lp 3 0), (6, .lp 4 0), (73, .so (mkB ln))], [(zAM2, 28), ([.io .i64 0], 3), ([.io .i64 0], 29), ((cwAM g s k sz sl of gp lt ea d wk A m cap), 28), ([.io .i64 1], 3), ([.so (mkB t)], 9)]⟩ ?_
 refine zC RowE.stable 27 [.so (mkB ln), .v (.string ⟨#[119, 111, 114, 107, 101, 114, 115, 32]⟩)] (.tup [.so (mkB (Lib.trimPrefix ln worT)), .bo (Lib.hasPrefix ln worT)]) (fun _ _ w1 _ _ => (Tryz.strings_CutPrefix (mkB ln) (mkB worT) w1).mono fun e w' h => ⟨h.1, by rw [h.2]; exact Below.refl _ _⟩) ?_
 refine zU RowE.stable h6 [2, 3, 4, 5, 6, 14, 78] 6 ⟨pops BPb [4, 1, 0, 1, 4, 1, 3, 1, 2, 1, 0] 1, [.seq (sub BPb [4, 1, 0, 1, 4, 1, 3, 1, 2, 1, 1]), .block 2, .seq (sub BPb [4, 1, 1]), .block 1], [(2, .lp 0 0), (3, .lp 1 0), (4, .lp 2 0), (5, .lp 3 0), (6, .lp 4 0), (14, .bo (Lib.hasPrefix ln worT)), (78, .so (mkB (Lib.trimPrefix ln worT)))], [(zAM2, 28), ([.io .i64 0], 3), ([.io .i64 0], 29), ((cwAM g s k sz sl of gp lt ea d wk A m cap), 28), ([.io .i64 1], 3), ([.so (mkB t)], 9)]⟩ ?_
 have hlt := trim_len ln worT
 cases hnp : numsP (Lib.trimPrefix ln worT) 1 with
 | none =>
  refine zC RowE.stable 29 [.so (mkB (Lib.trimPrefix ln worT)), .v (.int .i64 1)] (.tup [.v (.slice none 0 0), .v (.bool false)]) (fun _ _ w1 hi _ => numbers_none (Lib.trimPrefix ln worT) 1 (by decide) (by omega) hnp w1 (hW w1 hi.mem.below)) ?_
  refine zU RowE.stable h6 [2, 3, 4, 5, 6, 15, 16, 84] 6 ⟨pqops BPb [4, 1, 0, 1, 4, 1, 3, 1, 2, 1, 1, 0, 0] 3, [.seq (sub BPb [4, 1, 0, 1, 4, 1, 3, 1, 2, 1, 1, 0, 1]), .seq (sub BPb [4, 1, 0, 1, 4, 1, 3, 1, 2, 1, 1, 1]), .block 2, .seq (sub BPb [4, 1, 1]), .block 1], [(2, .lp 0 0), (3, .lp 1 0), (4, .lp 2 0), (5, .lp 3 0), (6, .lp 4 0), (15, .v (.slice none 0 0)), (16, .v (.bool false)), (84, .bo !Lib.hasPrefix ln worT)], [(zAM2, 28), ([.io .i64 0], 3), ([.io .i64 0], 29), ((cwAM g s k sz sl of gp lt ea d wk A m cap), 28), ([.io .i64 1], 3), ([.so (mkB t)], 9)]⟩ ?_
  rcases zB (!Lib.hasPrefix ln worT) with b0 | b0
  ·refine zR 84 b0 ?_
   refine zU RowE.stable h6 [] 6 ⟨.exit (.exit 0), [], [], [(zAM2, 28), ([.io .i64 0], 3), ([.io .i64 0], 29), ((cwAM g s k sz sl of gp lt ea d wk A m cap), 28), ([.io .i64 1], 3), ([.so (mkB t)], 9)]⟩ ?_
   refine At.canL _ rfl ?_
   refine At.slLoc _ rfl ?_
   refine At.rndEnd (some (.exit 0)) rfl rfl rfl fun ρ' w' hm' hf => ?_
   have he := hend A m cap ρ' w'
   rw [step1_bad hnp] at he
   exact he hm' hf
  refine zR 84 b0 ?_
  refine zU RowE.stable h6 [] 6 ⟨.exit (.exit 0), [], [], [(zAM2, 28), ([.io .i64 0], 3), ([.io .i64 0], 29), ((cwAM g s k sz sl of gp lt ea d wk A m cap), 28), ([.io .i64 1], 3), ([.so (mkB t)], 9)]⟩ ?_
  refine At.canL _ rfl ?_
  refine At.slLoc _ rfl ?_
  refine At.rndEnd (some (.exit 0)) rfl rfl rfl fun ρ' w' hm' hf => ?_
  have he := hend A m cap ρ' w'
  rw [step1_bad hnp] at he
  exact he hm' hf
 | some l1 =>
  obtain ⟨x, rfl⟩ := nums_one hnp
  refine At.mkrowE 29 [.so (mkB (Lib.trimPrefix ln worT)), .v (.int .i64 1)] (fun A' n' c' => .tup [.sl A' n' c', .v (.bool true)]) [.int .i64 x] (by kernel_rfl) (by kernel_rfl) (by kernel_rfl) (by kernel_rfl) (by kernel_rfl) (by simp) (fun ρ w1 hm' hf => (numbers_some (Lib.trimPrefix ln worT) 1 (by decide) [x] (by omega) hnp w1 (hW w1 hm'.below)).mono fun e w' ⟨A', c', h1, h2⟩ => ⟨A', 1, c', h1, h2⟩) ?_
  intro A1 n1 c1
  refine At.pure fun ⟨hn1, hc1⟩ => ?_
  obtain rfl : n1 = 1 := by simpa using hn1.symm
  clear hn1 hc1
  refine At.learn (p := ∃ b, A1 = some ⟨b, 0, none⟩) (fun ρ w1 hf => let ⟨b, h, _⟩ := hf.2 _ (List.mem_singleton.2 rfl); ⟨b, h⟩) ?_
  rintro ⟨b1, rfl⟩
  refine zU RowE.stable h6 [2, 3, 4, 5, 6, 15, 16, 84] 6 ⟨pqops BPb [4, 1, 0, 1, 4, 1, 3, 1, 2, 1, 1, 0, 0] 3, [.seq (sub BPb [4, 1, 0, 1, 4, 1, 3, 1, 2, 1, 1, 0, 1]), .seq (sub BPb [4, 1, 0, 1, 4, 1, 3, 1, 2, 1, 1, 1]), .block 2, .seq (sub BPb [4, 1, 1]), .block 1], [(2, .lp 0 0), (3, .lp 1 0), (4, .lp 2 0), (5, .lp 3 0), (6, .lp 4 0), (15, .sl (some (Addr.mk b1 0 none)) 1 c1), (16, .v (.bool true)), (84, .bo !Lib.hasPrefix ln worT)], [(zAM2, 28), ([.io .i64 0], 3), ([.io .i64 0], 29), ((cwAM g s k sz sl of gp lt ea d wk A m cap), 28), ([.io .i64 1], 3), ([.so (mkB t)], 9)]⟩ ?_
  rcases zB (!Lib.hasPrefix ln worT) with b0 | b0
  ·refine zR 84 b0 ?_
   refine zU RowE.stable h6 [] 6 ⟨.exit (.exit 0), [], [], [(zAM2, 28), ([.io .i64 0], 3), ([.io .i64 0], 29), ((cwAM g s k sz sl of gp lt ea d wk A m cap), 28), ([.io .i64 1], 3), ([.so (mkB t)], 9)]⟩ ?_
   have hs : stepR ln true 1 ⟨g, s, k, sz, sl, of, gp, lt, ea, d⟩ wk xs = .brk := by
    first
     | exact step1_no (by simpa using ‹(!Lib.hasPrefix ln worT) = true›)
     | exact step1_low hnp (.inl (of_decide_eq_true ‹decide (x < 1) = true›))
     | exact step1_low hnp (.inr (of_decide_eq_true ‹decide (x > g) = true›))
   refine At.mono (F' := RowE w2 ok ρ1 base 41 10 A m cap (stW xs) []) (fun ρ w1 h => h.sub (by simp)) ?_
   refine At.canL _ rfl ?_
   refine At.slLoc _ rfl ?_
   refine At.rndEnd (some (.exit 0)) rfl rfl rfl fun ρ' w' hm' hf => ?_
   have he := hend A m cap ρ' w'
   rw [hs] at he
   exact he hm' hf
  refine zR 84 b0 ?_
  refine zU RowE.stable h6 [2, 3, 4, 5, 6, 15, 88, 89] 6 ⟨pqops BPb [4, 1, 0, 1, 4, 1, 3, 1, 2, 1, 1, 0, 0] 8, [.seq (sub BPb [4, 1, 0, 1, 4, 1, 3, 1, 2, 1, 1, 0, 1]), .seq (sub BPb [4, 1, 0, 1, 4, 1, 3, 1, 2, 1, 1, 1]), .block 2, .seq (sub BPb [4, 1, 1]), .block 1], [(2, .lp 0 0), (3, .lp 1 0), (4, .lp 2 0), (5, .lp 3 0), (6, .lp 4 0), (15, .sl (some (Addr.mk b1 0 none)) 1 c1), (88, .v (.bool false)), (89, .sl (some (Addr.mk b1 0 none)) 1 c1)], [(zAM2, 28), ([.io .i64 0], 3), ([.io .i64 0], 29), ((cwAM g s k sz sl of gp lt ea d wk A m cap), 28), ([.io .i64 1], 3), ([.so (mkB t)], 9)]⟩ ?_
  refine At.idx ⟨b1, 0, none⟩ 1 1 0 (by kernel_rfl) (by omega) (by omega) RowE.stable ?_
  refine zU RowE.stable h6 [2, 3, 4, 5, 6, 15, 88, 90] 6 ⟨pqops BPb [4, 1, 0, 1, 4, 1, 3, 1, 2, 1, 1, 0, 0] 9, [.seq (sub BPb [4, 1, 0, 1, 4, 1, 3, 1, 2, 1, 1, 0, 1]), .seq (sub BPb [4, 1, 0, 1, 4, 1, 3, 1, 2, 1, 1, 1]), .block 2, .seq (sub BPb [4, 1, 1]), .block 1], [(2, .lp 0 0), (3, .lp 1 0), (4, .lp 2 0), (5, .lp 3 0), (6, .lp 4 0), (15, .sl (some (Addr.mk b1 0 none)) 1 c1), (88, .v (.bool false)), (90, .v (.pointer (some (Addr.mk b1 0 none))))], [(zAM2, 28), ([.io .i64 0], 3), ([.io .i64 0], 29), ((cwAM g s k sz sl of gp lt ea d wk A m cap), 28), ([.io .i64 1], 3), ([.so (mkB t)], 9)]⟩ ?_
  refine At.ldx ((⟨b1, 0, none⟩ : Addr).add ((0 : Int).toNat * 1)) (.io .i64 x) (by kernel_rfl) RowE.stable (fun ρ w1 hm' hf => ent_src (hf.2 _ (List.mem_singleton.2 rfl)) 0 _ rfl) ?_
  refine zU RowE.stable h6 [2, 3, 4, 5, 6, 15, 94] 6 ⟨pqops BPb [4, 1, 0, 1, 4, 1, 3, 1, 2, 1, 1, 0, 0] 13, [.seq (sub BPb [4, 1, 0, 1, 4, 1, 3, 1, 2, 1, 1, 0, 1]), .seq (sub BPb [4, 1, 0, 1, 4, 1, 3, 1, 2, 1, 1, 1]), .block 2, .seq (sub BPb [4, 1, 1]), .block 1], [(2, .lp 0 0), (3, .lp 1 0), (4, .lp 2 0), (5, .lp 3 0), (6, .lp 4 0), (15, .sl (some (Addr.mk b1 0 none)) 1 c1), (94, .bo (decide (x < 1)))], [(zAM2, 28), ([.io .i64 0], 3), ([.io .i64 0], 29), ((cwAM g s k sz sl of gp lt ea d wk A m cap), 28), ([.io .i64 1], 3), ([.so (mkB t)], 9)]⟩ ?_
  rcases zB (decide (x < 1)) with b0 | b0
  ·refine zR 94 b0 ?_
   refine zU RowE.stable h6 [] 6 ⟨.exit (.exit 0), [], [], [(zAM2, 28), ([.io .i64 0], 3), ([.io .i64 0], 29), ((cwAM g s k sz sl of gp lt ea d wk A m cap), 28), ([.io .i64 1], 3), ([.so (mkB t)], 9)]⟩ ?_
   have hs : stepR ln true 1 ⟨g, s, k, sz, sl, of, gp, lt, ea, d⟩ wk xs = .brk := by
    first
     | exact step1_no (by simpa using ‹(!Lib.hasPrefix ln worT) = true›)
     | exact step1_low hnp (.inl (of_decide_eq_true ‹decide (x < 1) = true›))
     | exact step1_low hnp (.inr (of_decide_eq_true ‹decide (x > g) = true›))
   refine At.mono (F' := RowE w2 ok ρ1 base 41 10 A m cap (stW xs) []) (fun ρ w1 h => h.sub (by simp)) ?_
   refine At.canL _ rfl ?_
   refine At.slLoc _ rfl ?_
   refine At.rndEnd (some (.exit 0)) rfl rfl rfl fun ρ' w' hm' hf => ?_
   have he := hend A m cap ρ' w'
   rw [hs] at he
   exact he hm' hf
  refine zR 94 b0 ?_
  refine zU RowE.stable h6 [2, 3, 4, 5, 6, 15, 94, 95] 6 ⟨pqops BPb [4, 1, 0, 1, 4, 1, 3, 1, 2, 1, 1, 0, 0] 14, [.seq (sub BPb [4, 1, 0, 1, 4, 1, 3, 1, 2, 1, 1, 0, 1]), .seq (sub BPb [4, 1, 0, 1, 4, 1, 3, 1, 2, 1, 1, 1]), .block 2, .seq (sub BPb [4, 1, 1]), .block 1], [(2, .lp 0 0), (3, .lp 1 0), (4, .lp 2 0), (5, .lp 3 0), (6, .lp 4 0), (15, .sl (some (Addr.mk b1 0 none)) 1 c1), (94, .v (.bool false)), (95, .sl (some (Addr.mk b1 0 none)) 1 c1)], [(zAM2, 28), ([.io .i64 0], 3), ([.io .i64 0], 29), ((cwAM g s k sz sl of gp lt ea d wk A m cap), 28), ([.io .i64 1], 3), ([.so (mkB t)], 9)]⟩ ?_
  refine At.idx ⟨b1, 0, none⟩ 1 1 0 (by kernel_rfl) (by omega) (by omega) RowE.stable ?_
  refine zU RowE.stable h6 [2, 3, 4, 5, 6, 15, 94, 96] 6 ⟨pqops BPb [4, 1, 0, 1, 4, 1, 3, 1, 2, 1, 1, 0, 0] 15, [.seq (sub BPb [4, 1, 0, 1, 4, 1, 3, 1, 2, 1, 1, 0, 1]), .seq (sub BPb [4, 1, 0, 1, 4, 1, 3, 1, 2, 1, 1, 1]), .block 2, .seq (sub BPb [4, 1, 1]), .block 1], [(2, .lp 0 0), (3, .lp 1 0), (4, .lp 2 0), (5, .lp 3 0), (6, .lp 4 0), (15, .sl (some (Addr.mk b1 0 none)) 1 c1), (94, .v (.bool false)), (96, .v (.pointer (some (Addr.mk b1 0 none))))], [(zAM2, 28), ([.io .i64 0], 3), ([.io .i64 0], 29), ((cwAM g s k sz sl of gp lt ea d wk A m cap), 28), ([.io .i64 1], 3), ([.so (mkB t)], 9)]⟩ ?_
  refine At.ldx ((⟨b1, 0, none⟩ : Addr).add ((0 : Int).toNat * 1)) (.io .i64 x) (by kernel_rfl) RowE.stable (fun ρ w1 hm' hf => ent_src (hf.2 _ (List.mem_singleton.2 rfl)) 0 _ rfl) ?_
  refine zU RowE.stable h6 [2, 3, 4, 5, 6, 15, 102] 6 ⟨.code (sub BPb [4, 1, 0, 1, 4, 1, 3, 1, 2, 1, 1, 0, 1]), [.seq (sub BPb [4, 1, 0, 1, 4, 1, 3, 1, 2, 1, 1, 1]), .block 2, .seq (sub BPb [4, 1, 1]), .block 1], [(2, .lp 0 0), (3, .lp 1 0), (4, .lp 2 0), (5, .lp 3 0), (6, .lp 4 0), (15, .sl (some (Addr.mk b1 0 none)) 1 c1), (102, .bo (decide (x > g)))], [(zAM2, 28), ([.io .i64 0], 3), ([.io .i64 0], 29), ((cwAM g s k sz sl of gp lt ea d wk A m cap), 28), ([.io .i64 1], 3), ([.so (mkB t)], 9)]⟩ ?_
  rcases zB (decide (x > g)) with b0 | b0
  ·refine zR 102 b0 ?_
   refine zU RowE.stable h6 [] 6 ⟨.exit (.exit 0), [], [], [(zAM2, 28), ([.io .i64 0], 3), ([.io .i64 0], 29), ((cwAM g s k sz sl of gp lt ea d wk A m cap), 28), ([.io .i64 1], 3), ([.so (mkB t)], 9)]⟩ ?_
   have hs : stepR ln true 1 ⟨g, s, k, sz, sl, of, gp, lt, ea, d⟩ wk xs = .brk := by
    first
     | exact step1_no (by simpa using ‹(!Lib.hasPrefix ln worT) = true›)
     | exact step1_low hnp (.inl (of_decide_eq_true ‹decide (x < 1) = true›))
     | exact step1_low hnp (.inr (of_decide_eq_true ‹decide (x > g) = true›))
   refine At.mono (F' := RowE w2 ok ρ1 base 41 10 A m cap (stW xs) []) (fun ρ w1 h => h.sub (by simp)) ?_
   refine At.canL _ rfl ?_
   refine At.slLoc _ rfl ?_
   refine At.rndEnd (some (.exit 0)) rfl rfl rfl fun ρ' w' hm' hf => ?_
   have he := hend A m cap ρ' w'
   rw [hs] at he
   exact he hm' hf
  refine zR 102 b0 ?_
  refine zU RowE.stable h6 [2, 3, 4, 5, 6, 103] 6 ⟨pops BPb [4, 1, 0, 1, 4, 1, 3, 1, 2, 1, 1, 1] 1, [.block 2, .seq (sub BPb [4, 1, 1]), .block 1], [(2, .lp 0 0), (3, .lp 1 0), (4, .lp 2 0), (5, .lp 3 0), (6, .lp 4 0), (103, .sl (some (Addr.mk b1 0 none)) 1 c1)], [(zAM2, 28), ([.io .i64 0], 3), ([.io .i64 0], 29), ((cwAM g s k sz sl of gp lt ea d wk A m cap), 28), ([.io .i64 1], 3), ([.so (mkB t)], 9)]⟩ ?_
  refine At.idx ⟨b1, 0, none⟩ 1 1 0 (by kernel_rfl) (by omega) (by omega) RowE.stable ?_
  refine zU RowE.stable h6 [2, 3, 4, 5, 6, 104] 6 ⟨pops BPb [4, 1, 0, 1, 4, 1, 3, 1, 2, 1, 1, 1] 2, [.block 2, .seq (sub BPb [4, 1, 1]), .block 1], [(2, .lp 0 0), (3, .lp 1 0), (4, .lp 2 0), (5, .lp 3 0), (6, .lp 4 0), (104, .v (.pointer (some (Addr.mk b1 0 none))))], [(zAM2, 28), ([.io .i64 0], 3), ([.io .i64 0], 29), ((cwAM g s k sz sl of gp lt ea d wk A m cap), 28), ([.io .i64 1], 3), ([.so (mkB t)], 9)]⟩ ?_
  refine At.ldx ((⟨b1, 0, none⟩ : Addr).add ((0 : Int).toNat * 1)) (.io .i64 x) (by kernel_rfl) RowE.stable (fun ρ w1 hm' hf => ent_src (hf.2 _ (List.mem_singleton.2 rfl)) 0 _ rfl) ?_
  refine zU RowE.stable h6 [2, 3, 4, 5, 6] 6 ⟨.exit .normal, [], [(2, .lp 0 0), (3, .lp 1 0), (4, .lp 2 0), (5, .lp 3 0), (6, .lp 4 0)], [(zAM2, 28), ([.io .i64 0], 3), ([.io .i64 0], 29), ((cwAM g s k sz sl of gp lt ea d x A m cap), 28), ([.io .i64 2], 3), ([.so (mkB t)], 9)]⟩ ?_
  have hs : stepR ln true 1 ⟨g, s, k, sz, sl, of, gp, lt, ea, d⟩ wk xs = .go 2 ⟨g, s, k, sz, sl, of, gp, lt, ea, d⟩ x xs :=
   step1_ok (by simpa using ‹(!Lib.hasPrefix ln worT) = false›) hnp (not_or.2 ⟨of_decide_eq_false ‹decide (x < 1) = false›, of_decide_eq_false ‹decide (x > g) = false›⟩)
  refine At.mono (F' := RowE w2 ok ρ1 base 41 10 A m cap (stW xs) []) (fun ρ w1 h => h.sub (by simp)) ?_
  refine At.canL _ rfl ?_
  refine At.slLoc _ rfl ?_
  refine At.rndEnd none rfl rfl rfl fun ρ' w' hm' hf => ?_
  have he := hend A m cap ρ' w'
  rw [hs] at he
  exact he hm' hf
set_option maxHeartbeats 4000000 in
set_option maxRecDepth 100000 in
theorem body_0 [Md] {base N : Nat} {w2 : World} {ok : Nat → Prop} {ρ1 : List Nat} (hl : ρ1.length = 6) (hN : N ≤ base) (l : Nat) {R : Ending → World → Prop} (t ln : List UInt8) (c : Cf) (wk : Int) (A : Option Addr) (m cap : Nat) (xs : List St)
  (hm : m ≤ 1048576) (hln : ln.length ≤ 1048576) (hW : ∀ w', Below N w2 w' → Wd w')
  (hend : ∀ (A' : Option Addr) (m' cap' : Nat) (ρ' : List Nat) (w' : World), WInv N w2 ρ' (locR t 0 c wk xs A' m' cap' (stepR ln true 0 c wk xs)) w' → RowE w2 ok ρ1 base 41 10 A' m' cap' (stW (xsR xs (stepR ln true 0 c wk xs))) [] ρ' w' →
   ∃ r, w'.heap[l]? = some (.loop r) ∧ R (.returned (.bool (jmpR (stepR ln true 0 c wk xs)).isNone)) (w'.putObj l (.loop { r with state := if (jmpR (stepR ln true 0 c wk xs)).isNone then .ready else .done, pending := jmpR (stepR ln true 0 c wk xs) }))) :
  At Tryz.prog (roundPost Tryz.prog l R) N w2 Tryz.f9.ntmps (RowE w2 ok ρ1 base 41 10 A m cap (stW xs) []) ⟨.code BPb, [], frB ln true, locP t 0 c wk A m cap 0 0⟩ := by
 have h6 : ∀ {A : Option Addr} {n c : Nat} {xs : List Value} {L : List (Option Addr × List Value)}, FewerK 6 (RowE w2 ok ρ1 base 41 10 A n c xs L) := hl ▸ RowE.fewer
 obtain ⟨g, s, k, sz, sl, of, gp, lt, ea, d⟩ := c
 refine zU RowE.stable h6 [2, 3, 4, 5, 6, 7, 24] 6 ⟨.code (sub BPb [4, 0, 1]), [.seq (sub BPb [4, 1]), .block 1], [(2, .lp 0 0), (3, .lp 1 0), (4, .lp 2 0), (5, .lp 3 0), (6, .lp 4 0), (7, .so (mkB ln)), (24, .bo false)], [(zAM2, 28), ([.io .i64 0], 3), ([.io .i64 0], 29), ((cwAM g s k sz sl of gp lt ea d wk A m cap), 28), ([.io .i64 0], 3), ([.so (mkB t)], 9)]⟩ ?_
 refine At.res 24 (false) false (by kernel_rfl) (by first | assumption | (simp only [*]; done) | (simp [*]; done)) ?_
 refine zU RowE.stable h6 [2, 3, 4, 5, 6, 7, 27, 50] 6 ⟨.code (sub BPb [4, 1, 0, 1, 4, 1]), [.block 2, .seq (sub BPb [4, 1, 1]), .block 1], [(2, .lp 0 0), (3, .lp 1 0), (4, .lp 2 0), (5, .lp 3 0), (6, .lp 4 0), (7, .so (mkB ln)), (27, .io .i64 0), (50, .bo true)], [(zAM2, 28), ([.io .i64 0], 3), ([.io .i64 0], 29), ((cwAM g s k sz sl of gp lt ea d wk A m cap), 28), ([.io .i64 0], 3), ([.so (mkB t)], 9)]⟩ ?_
 refine At.res 50 (true) true (by kernel_rfl) (by first | assumption | (simp only [*]; done) | (simp [*]; done)) ?_
 refine zU RowE.stable h6 [2, 3, 4, 5, 6, 53] 6 ⟨pops BPb [4, 1, 0, 1, 4, 1, 2, 0] 1, [.seq (sub BPb [4, 1, 0, 1, 4, 1, 2, 1]), .block 2, .seq (sub BPb [4, 1, 1]), .block 1], [(2, .lp 0 0), (3, .lp 1 0), (4, .lp 2 0), (5, .lp 3 0), (6, .lp 4 0), (53, .so (mkB ln))], [(zAM2, 28), ([.io .i64 0], 3), ([.io .i64 0], 29), ((cwAM g s k sz sl of gp lt ea d wk A m cap), 28), ([.io .i64 0], 3), ([.so (mkB t)], 9)]⟩ ?_
 refine zC RowE.stable 27 [.so (mkB ln), .v (.string ⟨#[106, 111, 98, 32]⟩)] (.tup [.so (mkB (Lib.trimPrefix ln jobT)), .bo (Lib.hasPrefix ln jobT)]) (fun _ _ w1 _ _ => (Tryz.strings_CutPrefix (mkB ln) (mkB jobT) w1).mono fun e w' h => ⟨h.1, by rw [h.2]; exact Below.refl _ _⟩) ?_
 refine zU RowE.stable h6 [2, 3, 4, 5, 6, 10, 58] 6 ⟨pops BPb [4, 1, 0, 1, 4, 1, 2, 1, 0] 1, [.seq (sub BPb [4, 1, 0, 1, 4, 1, 2, 1, 1]), .block 2, .seq (sub BPb [4, 1, 1]), .block 1], [(2, .lp 0 0), (3, .lp 1 0), (4, .lp 2 0), (5, .lp 3 0), (6, .lp 4 0), (10, .bo (Lib.hasPrefix ln jobT)), (58, .so (mkB (Lib.trimPrefix ln jobT)))], [(zAM2, 28), ([.io .i64 0], 3), ([.io .i64 0], 29), ((cwAM g s k sz sl of gp lt ea d wk A m cap), 28), ([.io .i64 0], 3), ([.so (mkB t)], 9)]⟩ ?_
 have hlt := trim_len ln jobT
 cases hcp : cfgP (Lib.trimPrefix ln jobT) with
 | none =>
  refine zC RowE.stable 28 [.so (mkB (Lib.trimPrefix ln jobT))] (.tup [.agg zAM1, .v (.int .i64 211)]) (fun _ _ w1 hi _ => ?_) ?_
  ·have hw1 := hW w1 hi.mem.below
   obtain ⟨tp, q, h1⟩ := hw1.v1
   obtain ⟨tp2, q2, h2⟩ := hw1.v2
   obtain ⟨mm, h3⟩ := hw1.c1
   have hk := parse_any (mkB (Lib.trimPrefix ln jobT)) (by rw [mkB_size]; omega) w1 hw1.tab hw1.tp h1 h2 h3
   rw [show (mkB (Lib.trimPrefix ln jobT)).data.toList = Lib.trimPrefix ln jobT from rfl, kitP_none hcp] at hk
   exact hk
  refine zU RowE.stable h6 [2, 3, 4, 5, 6, 11, 12, 64] 7 ⟨pops BPb [4, 1, 0, 1, 4, 1, 2, 1, 1, 0, 0] 3, [.seq (sub BPb [4, 1, 0, 1, 4, 1, 2, 1, 1, 0, 1]), .seq (sub BPb [4, 1, 0, 1, 4, 1, 2, 1, 1, 1]), .block 2, .seq (sub BPb [4, 1, 1]), .block 1], [(2, .lp 0 0), (3, .lp 1 0), (4, .lp 2 0), (5, .lp 3 0), (6, .lp 4 0), (11, .lp 6 0), (12, .v (.int .i64 211)), (64, .bo !Lib.hasPrefix ln jobT)], [(zAM2, 28), ([.io .i64 0], 3), ([.io .i64 0], 29), ((cwAM g s k sz sl of gp lt ea d wk A m cap), 28), ([.io .i64 0], 3), ([.so (mkB t)], 9), (zAM1, 25)]⟩ ?_
  rcases zB (!Lib.hasPrefix ln jobT) with b0 | b0
  ·refine zR 64 b0 ?_
   refine zU RowE.stable h6 [] 6 ⟨.exit (.exit 0), [], [], [(zAM2, 28), ([.io .i64 0], 3), ([.io .i64 0], 29), ((cwAM g s k sz sl of gp lt ea d wk A m cap), 28), ([.io .i64 0], 3), ([.so (mkB t)], 9)]⟩ ?_
   refine At.canL _ rfl ?_
   refine At.slLoc _ rfl ?_
   refine At.rndEnd (some (.exit 0)) rfl rfl rfl fun ρ' w' hm' hf => ?_
   have he := hend A m cap ρ' w'
   rw [step0_bad hcp] at he
   exact he hm' hf
  refine zR 64 b0 ?_
  refine zU RowE.stable h6 [] 6 ⟨.exit (.exit 0), [], [], [(zAM2, 28), ([.io .i64 0], 3), ([.io .i64 0], 29), ((cwAM g s k sz sl of gp lt ea d wk A m cap), 28), ([.io .i64 0], 3), ([.so (mkB t)], 9)]⟩ ?_
  refine At.canL _ rfl ?_
  refine At.slLoc _ rfl ?_
  refine At.rndEnd (some (.exit 0)) rfl rfl rfl fun ρ' w' hm' hf => ?_
  have he := hend A m cap ρ' w'
  rw [step0_bad hcp] at he
  exact he hm' hf
 | some c' =>
  obtain ⟨g', s', k', sz', sl', of', gp', lt', ea', d'⟩ := c'
  refine zC RowE.stable 28 [.so (mkB (Lib.trimPrefix ln jobT))] (.tup [.agg (cfAM g' s' k' sz' sl' of' gp' lt' ea' d'), .v (.int .i64 0)]) (fun _ _ w1 hi _ => ?_) ?_
  ·have hw1 := hW w1 hi.mem.below
   obtain ⟨tp, q, h1⟩ := hw1.v1
   obtain ⟨tp2, q2, h2⟩ := hw1.v2
   obtain ⟨mm, h3⟩ := hw1.c1
   have hk := parse_any (mkB (Lib.trimPrefix ln jobT)) (by rw [mkB_size]; omega) w1 hw1.tab hw1.tp h1 h2 h3
   rw [show (mkB (Lib.trimPrefix ln jobT)).data.toList = Lib.trimPrefix ln jobT from rfl, kitP_some hcp] at hk
   exact hk
  refine zU RowE.stable h6 [2, 3, 4, 5, 6, 11, 12, 64] 7 ⟨pops BPb [4, 1, 0, 1, 4, 1, 2, 1, 1, 0, 0] 3, [.seq (sub BPb [4, 1, 0, 1, 4, 1, 2, 1, 1, 0, 1]), .seq (sub BPb [4, 1, 0, 1, 4, 1, 2, 1, 1, 1]), .block 2, .seq (sub BPb [4, 1, 1]), .block 1], [(2, .lp 0 0), (3, .lp 1 0), (4, .lp 2 0), (5, .lp 3 0), (6, .lp 4 0), (11, .lp 6 0), (12, .v (.int .i64 0)), (64, .bo !Lib.hasPrefix ln jobT)], [(zAM2, 28), ([.io .i64 0], 3), ([.io .i64 0], 29), ((cwAM g s k sz sl of gp lt ea d wk A m cap), 28), ([.io .i64 0], 3), ([.so (mkB t)], 9), ((cfAM g' s' k' sz' sl' of' gp' lt' ea' d'), 25)]⟩ ?_
  rcases zB (!Lib.hasPrefix ln jobT) with b0 | b0
  ·refine zR 64 b0 ?_
   refine zU RowE.stable h6 [] 6 ⟨.exit (.exit 0), [], [], [(zAM2, 28), ([.io .i64 0], 3), ([.io .i64 0], 29), ((cwAM g s k sz sl of gp lt ea d wk A m cap), 28), ([.io .i64 0], 3), ([.so (mkB t)], 9)]⟩ ?_
   refine At.canL _ rfl ?_
   refine At.slLoc _ rfl ?_
   refine At.rndEnd (some (.exit 0)) rfl rfl rfl fun ρ' w' hm' hf => ?_
   have he := hend A m cap ρ' w'
   rw [step0_no (by simpa using b0)] at he
   exact he hm' hf
  refine zR 64 b0 ?_
  refine zU RowE.stable h6 [2, 3, 4, 5, 6] 6 ⟨.exit .normal, [], [(2, .lp 0 0), (3, .lp 1 0), (4, .lp 2 0), (5, .lp 3 0), (6, .lp 4 0)], [(zAM2, 28), ([.io .i64 0], 3), ([.io .i64 0], 29), ((cwAM g' s' k' sz' sl' of' gp' lt' ea' d' wk A m cap), 28), ([.io .i64 1], 3), ([.so (mkB t)], 9)]⟩ ?_
  refine At.canL _ rfl ?_
  refine At.slLoc _ rfl ?_
  refine At.rndEnd none rfl rfl rfl fun ρ' w' hm' hf => ?_
  have he := hend A m cap ρ' w'
  rw [step0_ok (by simpa using b0) hcp] at he
  exact he hm' hf
theorem step2_none {ln : List UInt8} {n : Nat} {c : Cf} {wk : Int} {xs : List St} (h : stepP ln = none) : stepR ln true (n + 2) c wk xs = .ret := by
 simp [stepR, h]
theorem step2_no {ln : List UInt8} {n : Nat} {c : Cf} {wk : Int} {xs : List St} {x : St} (h : stepP ln = some x) (hm : mayB c x = false) : stepR ln true (n + 2) c wk xs = .ret := by
 simp [stepR, h, hm]
theorem step2_ok {ln : List UInt8} {n : Nat} {c : Cf} {wk : Int} {xs : List St} {x : St} (h : stepP ln = some x) (hm : mayB c x = true) : stepR ln true (n + 2) c wk xs = .go (n + 3) c wk (xs ++ [x]) := by
 simp [stepR, h, hm]
set_option maxHeartbeats 8000000 in
set_option maxRecDepth 100000 in
theorem body_2 [Md] {base N : Nat} {w2 : World} {ok : Nat → Prop} {ρ1 : List Nat} (hl : ρ1.length = 6) (hN : N ≤ base) (l : Nat) {R : Ending → World → Prop} (t ln : List UInt8) (c : Cf) (wk : Int) (A : Option Addr) (m cap : Nat) (xs : List St)
  (hm : m ≤ 1048576) (hln : ln.length ≤ 1048576) (hW : ∀ w', Below N w2 w' → Wd w') (n : Nat) (hwr : c.wr = 0) (hn : n ≤ 1048576) (hmn : m ≤ 1048575)
  (hend : ∀ (A' : Option Addr) (m' cap' : Nat) (ρ' : List Nat) (w' : World), WInv N w2 ρ' (locR t (n + 2) c wk xs A' m' cap' (stepR ln true (n + 2) c wk xs)) w' → RowE w2 ok ρ1 base 41 10 A' m' cap' (stW (xsR xs (stepR ln true (n + 2) c wk xs))) [] ρ' w' →
   ∃ r, w'.heap[l]? = some (.loop r) ∧ R (.returned (.bool (jmpR (stepR ln true (n + 2) c wk xs)).isNone)) (w'.putObj l (.loop { r with state := if (jmpR (stepR ln true (n + 2) c wk xs)).isNone then .ready else .done, pending := jmpR (stepR ln true (n + 2) c wk xs) }))) :
  At Tryz.prog (roundPost Tryz.prog l R) N w2 Tryz.f9.ntmps (RowE w2 ok ρ1 base 41 10 A m cap (stW xs) []) ⟨.code BPb, [], frB ln true, locP t (n + 2) c wk A m cap 0 0⟩ := by
 have h6 : ∀ {A : Option Addr} {n c : Nat} {xs : List Value} {L : List (Option Addr × List Value)}, FewerK 6 (RowE w2 ok ρ1 base 41 10 A n c xs L) := hl ▸ RowE.fewer
 obtain ⟨g, s, k, sz, sl, of, gp, lt, ea, d⟩ := c
 refine zU RowE.stable h6 [2, 3, 4, 5, 6, 7, 24] 6 ⟨.code (sub BPb [4, 0, 1]), [.seq (sub BPb [4, 1]), .block 1], [(2, .lp 0 0), (3, .lp 1 0), (4, .lp 2 0), (5, .lp 3 0), (6, .lp 4 0), (7, .so (mkB ln)), (24, .bo false)], [(zAM2, 28), ([.io .i64 0], 3), ([.io .i64 0], 29), ((cwAM g s k sz sl of gp lt ea d wk A m cap), 28), ([.io .i64 (↑(n + 2) : Int)], 3), ([.so (mkB t)], 9)]⟩ ?_
 refine At.res 24 (false) false (by kernel_rfl) (by first | assumption | (simp only [*]; done) | (simp [*]; done)) ?_
 refine zU RowE.stable h6 [2, 3, 4, 5, 6, 7, 27, 50] 6 ⟨.code (sub BPb [4, 1, 0, 1, 4, 1]), [.block 2, .seq (sub BPb [4, 1, 1]), .block 1], [(2, .lp 0 0), (3, .lp 1 0), (4, .lp 2 0), (5, .lp 3 0), (6, .lp 4 0), (7, .so (mkB ln)), (27, .io .i64 (↑(n + 2) : Int)), (50, .bo false)], [(zAM2, 28), ([.io .i64 0], 3), ([.io .i64 0], 29), ((cwAM g s k sz sl of gp lt ea d wk A m cap), 28), ([.io .i64 (↑(n + 2) : Int)], 3), ([.so (mkB t)], 9)]⟩ ?_
 refine At.res 50 (false) false (by kernel_rfl) (by first | assumption | (simp only [*]; done) | (simp [*]; done)) ?_
 refine zU RowE.stable h6 [2, 3, 4, 5, 6, 7, 70] 6 ⟨.code (sub BPb [4, 1, 0, 1, 4, 1, 3, 1]), [.block 2, .seq (sub BPb [4, 1, 1]), .block 1], [(2, .lp 0 0), (3, .lp 1 0), (4, .lp 2 0), (5, .lp 3 0), (6, .lp 4 0), (7, .so (mkB ln)), (70, .bo false)], [(zAM2, 28), ([.io .i64 0], 3), ([.io .i64 0], 29), ((cwAM g s k sz sl of gp lt ea d wk A m cap), 28), ([.io .i64 (↑(n + 2) : Int)], 3), ([.so (mkB t)], 9)]⟩ ?_
 refine At.res 70 (false) false (by kernel_rfl) (by first | assumption | (simp only [*]; done) | (simp [*]; done)) ?_
 refine zU RowE.stable h6 [2, 3, 4, 5, 6, 29] 6 ⟨pops BPb [4, 1, 0, 1, 4, 1, 3, 1, 3, 0] 1, [.seq (sub BPb [4, 1, 0, 1, 4, 1, 3, 1, 3, 1]), .block 2, .seq (sub BPb [4, 1, 1]), .block 1], [(2, .lp 0 0), (3, .lp 1 0), (4, .lp 2 0), (5, .lp 3 0), (6, .lp 4 0), (29, .so (mkB ln))], [(zAM2, 28), ([.io .i64 0], 3), ([.io .i64 0], 29), ((cwAM g s k sz sl of gp lt ea d wk A m cap), 28), ([.io .i64 (↑(n + 2) : Int)], 3), ([.so (mkB t)], 9)]⟩ ?_
 cases hsp : stepP ln with
 | none =>
  refine zC RowE.stable 30 [.so (mkB ln)] (.tup [.agg [.v (.int .i64 0), .v (.int .i64 0), .v (.string ⟨#[]⟩), .v (.int .i64 0), .v (.int .i64 0), .v (.int .i64 0), .v (.int .i64 0), .v (.int .i64 0), .v (.int .i64 0), .v (.int .u32 0)], .v (.bool false)]) (fun _ _ w1 hi _ => (step_any ln hln w1 (hW w1 hi.mem.below)).mono fun e w' h => ⟨h.1.trans (by rw [hsp]; rfl), h.2⟩) ?_
  refine zU RowE.stable h6 [2, 3, 4, 6] 6 ⟨.any (opsOf (sub BPb [4, 1, 0, 1, 4, 1, 3, 1, 3, 1, 0, 1, 2, 0])) 5 [], [.seq (sub BPb [4, 0, 1, 2, 1]), .seq (sub BPb [4, 1, 0, 1, 4, 1, 3, 1, 3, 1, 1]), .block 2, .seq (sub BPb [4, 1, 1]), .block 1], [(2, .lp 0 0), (3, .lp 1 0), (4, .lp 2 0), (6, .lp 4 0)], [(zAM2, 28), ([.io .i64 0], 3), ([.io .i64 0], 29), ((cwAM g s k sz sl of gp lt ea d wk A m cap), 28), ([.io .i64 (↑(n + 2) : Int)], 3), ([.so (mkB t)], 9)]⟩ ?_
  refine At.anyOrder RowE.stable h6 rfl 20 2 [2, 3, 4] 6 [(2, .lp 0 0), (3, .lp 1 0), (4, .lp 2 0)] [(zAM0, 28), ([.io .i64 ((n + 2 : Nat) : Int)], 3), ([.v (.int .i64 370)], 29), ((cwAM g s k sz sl of gp lt ea d wk A m cap), 28), ([.io .i64 (↑(n + 2) : Int)], 3), ([.so (mkB t)], 9)] (by kernel_rfl) (by kernel_rfl) ?_
  refine zU RowE.stable h6 [2, 3, 4] 6 ⟨.exit .ret, [], [(2, .lp 0 0), (3, .lp 1 0), (4, .lp 2 0)], [(zAM0, 28), ([.io .i64 (↑(n + 2) : Int)], 3), ([.v (.int .i64 370)], 29), ((cwAM g s k sz sl of gp lt ea d wk A m cap), 28), ([.io .i64 (↑(n + 2) : Int)], 3), ([.so (mkB t)], 9)]⟩ ?_
  refine At.canL _ rfl ?_
  refine At.slLoc _ rfl ?_
  refine At.rndEnd (some .ret) rfl rfl rfl fun ρ' w' hm' hf => ?_
  have he := hend A m cap ρ' w'
  rw [step2_none hsp] at he
  exact he hm' hf
 | some x =>
  obtain ⟨kd, ik, key, ti, v, src, wk2, wks, bit, mask⟩ := x
  refine zC RowE.stable 30 [.so (mkB ln)] (.tup [.agg [.io .i64 kd, .io .i64 ik, .so (mkB key), .io .i64 ti, .io .i64 v, .io .i64 src, .io .i64 wk2, .io .i64 wks, .io .i64 bit, .io .u32 mask], .v (.bool true)]) (fun _ _ w1 hi _ => (step_any ln hln w1 (hW w1 hi.mem.below)).mono fun e w' h => ⟨h.1.trans (by rw [hsp]; rfl), h.2⟩) ?_
  refine zU RowE.stable h6 [2, 3, 4, 5, 6, 17, 35, 37, 38] 7 ⟨pops BPb [4, 1, 0, 1, 4, 1, 3, 1, 3, 1, 0, 0] 6, [.seq (sub BPb [4, 1, 0, 1, 4, 1, 3, 1, 3, 1, 0, 1]), .seq (sub BPb [4, 1, 0, 1, 4, 1, 3, 1, 3, 1, 1]), .block 2, .seq (sub BPb [4, 1, 1]), .block 1], [(2, .lp 0 0), (3, .lp 1 0), (4, .lp 2 0), (5, .lp 3 0), (6, .lp 4 0), (17, .lp 6 0), (35, .v (.bool false)), (37, .agg (cfAM g s k sz sl of gp lt ea d)), (38, .agg [.io .i64 kd, .io .i64 ik, .so (mkB key), .io .i64 ti, .io .i64 v, .io .i64 src, .io .i64 wk2, .io .i64 wks, .io .i64 bit, .io IntKind.u32 mask])], [(zAM2, 28), ([.io .i64 0], 3), ([.io .i64 0], 29), ((cwAM g s k sz sl of gp lt ea d wk A m cap), 28), ([.io .i64 (↑(n + 2) : Int)], 3), ([.so (mkB t)], 9), ([.io .i64 kd, .io .i64 ik, .so (mkB key), .io .i64 ti, .io .i64 v, .io .i64 src, .io .i64 wk2, .io .i64 wks, .io .i64 bit, .io IntKind.u32 mask], 41)]⟩ ?_
  refine zC RowE.stable 31 [.agg (cfAM g s k sz sl of gp lt ea d), .agg [.io .i64 kd, .io .i64 ik, .so (mkB key), .io .i64 ti, .io .i64 v, .io .i64 src, .io .i64 wk2, .io .i64 wks, .io .i64 bit, .io .u32 mask]] (.bo (mayB ⟨g, s, k, sz, sl, of, gp, lt, ea, d⟩ ⟨kd, ik, key, ti, v, src, wk2, wks, bit, mask⟩)) (fun _ _ w1 hi _ => may_any ⟨g, s, k, sz, sl, of, gp, lt, ea, d⟩ ⟨kd, ik, key, ti, v, src, wk2, wks, bit, mask⟩ hwr w1) ?_
  refine zU RowE.stable h6 [2, 3, 4, 5, 6, 17, 41] 7 ⟨.code (sub BPb [4, 1, 0, 1, 4, 1, 3, 1, 3, 1, 0, 1]), [.seq (sub BPb [4, 1, 0, 1, 4, 1, 3, 1, 3, 1, 1]), .block 2, .seq (sub BPb [4, 1, 1]), .block 1], [(2, .lp 0 0), (3, .lp 1 0), (4, .lp 2 0), (5, .lp 3 0), (6, .lp 4 0), (17, .lp 6 0), (41, .bo !mayB (Cf.mk g s k sz sl of gp lt ea d) (St.mk kd ik key ti v src wk2 wks bit mask))], [(zAM2, 28), ([.io .i64 0], 3), ([.io .i64 0], 29), ((cwAM g s k sz sl of gp lt ea d wk A m cap), 28), ([.io .i64 (↑(n + 2) : Int)], 3), ([.so (mkB t)], 9), ([.io .i64 kd, .io .i64 ik, .so (mkB key), .io .i64 ti, .io .i64 v, .io .i64 src, .io .i64 wk2, .io .i64 wks, .io .i64 bit, .io IntKind.u32 mask], 41)]⟩ ?_
  rcases zB (!mayB (Cf.mk g s k sz sl of gp lt ea d) (St.mk kd ik key ti v src wk2 wks bit mask)) with b0 | b0
  ·refine zR 41 b0 ?_
   refine zU RowE.stable h6 [2, 3, 4, 6] 6 ⟨.any (opsOf (sub BPb [4, 1, 0, 1, 4, 1, 3, 1, 3, 1, 0, 1, 2, 0])) 5 [], [.seq (sub BPb [4, 0, 1, 2, 1]), .seq (sub BPb [4, 1, 0, 1, 4, 1, 3, 1, 3, 1, 1]), .block 2, .seq (sub BPb [4, 1, 1]), .block 1], [(2, .lp 0 0), (3, .lp 1 0), (4, .lp 2 0), (6, .lp 4 0)], [(zAM2, 28), ([.io .i64 0], 3), ([.io .i64 0], 29), ((cwAM g s k sz sl of gp lt ea d wk A m cap), 28), ([.io .i64 (↑(n + 2) : Int)], 3), ([.so (mkB t)], 9)]⟩ ?_
   refine At.anyOrder RowE.stable h6 rfl 20 2 [2, 3, 4] 6 [(2, .lp 0 0), (3, .lp 1 0), (4, .lp 2 0)] [(zAM0, 28), ([.io .i64 ((n + 2 : Nat) : Int)], 3), ([.v (.int .i64 370)], 29), ((cwAM g s k sz sl of gp lt ea d wk A m cap), 28), ([.io .i64 (↑(n + 2) : Int)], 3), ([.so (mkB t)], 9)] (by kernel_rfl) (by kernel_rfl) ?_
   refine zU RowE.stable h6 [2, 3, 4] 6 ⟨.exit .ret, [], [(2, .lp 0 0), (3, .lp 1 0), (4, .lp 2 0)], [(zAM0, 28), ([.io .i64 (↑(n + 2) : Int)], 3), ([.v (.int .i64 370)], 29), ((cwAM g s k sz sl of gp lt ea d wk A m cap), 28), ([.io .i64 (↑(n + 2) : Int)], 3), ([.so (mkB t)], 9)]⟩ ?_
   refine At.canL _ rfl ?_
   refine At.slLoc _ rfl ?_
   refine At.rndEnd (some .ret) rfl rfl rfl fun ρ' w' hm' hf => ?_
   have he := hend A m cap ρ' w'
   rw [step2_no hsp (by simpa using b0)] at he
   exact he hm' hf
  refine zR 41 b0 ?_
  refine zU RowE.stable h6 [2, 3, 4, 5, 6, 45, 47] 8 ⟨pops BPb [4, 1, 0, 1, 4, 1, 3, 1, 3, 1, 1] 4, [.block 2, .seq (sub BPb [4, 1, 1]), .block 1], [(2, .lp 0 0), (3, .lp 1 0), (4, .lp 2 0), (5, .lp 3 0), (6, .lp 4 0), (45, .sl A m cap), (47, .ls 7 0 1 1)], [(zAM2, 28), ([.io .i64 0], 3), ([.io .i64 0], 29), ((cwAM g s k sz sl of gp lt ea d wk A m cap), 28), ([.io .i64 (↑(n + 2) : Int)], 3), ([.so (mkB t)], 9), ([.io .i64 kd, .io .i64 ik, .so (mkB key), .io .i64 ti, .io .i64 v, .io .i64 src, .io .i64 wk2, .io .i64 wks, .io .i64 bit, .io IntKind.u32 mask], 41), ([.io .i64 kd, .io .i64 ik, .so (mkB key), .io .i64 ti, .io .i64 v, .io .i64 src, .io .i64 wk2, .io .i64 wks, .io .i64 bit, .io IntKind.u32 mask], 41)]⟩ ?_
  refine At.appE (26) (41) (10) (88) (A) (m) (cap) (1) ([.io .i64 kd, .io .i64 ik, .so (mkB key), .io .i64 ti, .io .i64 v, .io .i64 src, .io .i64 wk2, .io .i64 wks, .io .i64 bit, .io IntKind.u32 mask]) _ _ _ _ ([.int .i64 kd, .int .i64 ik, .string (mkB key), .int .i64 ti, .int .i64 v, .int .i64 src, .int .i64 wk2, .int .i64 wks, .int .i64 bit, .int IntKind.u32 mask]) _ (by kernel_rfl) (fun ρ => by kernel_rfl) (by first | omega | (simp only [Go.maxLen]; omega)) (by first | omega | (simp only [Go.maxLen]; omega)) (by first | omega | (simp only [Go.maxLen]; omega)) fun A1 c1 => ?_
  refine zU RowE.stable h6 [2, 3, 4, 5, 6] 6 ⟨.exit .normal, [], [(2, .lp 0 0), (3, .lp 1 0), (4, .lp 2 0), (5, .lp 3 0), (6, .lp 4 0)], [(zAM2, 28), ([.io .i64 0], 3), ([.io .i64 0], 29), ((cwAM g s k sz sl of gp lt ea d wk A1 (m + 1) c1), 28), ([.io .i64 (IntKind.i64.wrap ((↑(n + 2) : Int) + 1))], 3), ([.so (mkB t)], 9)]⟩ ?_
  have hs : stepR ln true (n + 2) ⟨g, s, k, sz, sl, of, gp, lt, ea, d⟩ wk xs = .go (n + 3) ⟨g, s, k, sz, sl, of, gp, lt, ea, d⟩ wk (xs ++ [⟨kd, ik, key, ti, v, src, wk2, wks, bit, mask⟩]) := step2_ok hsp (by simpa using b0)
  have hnn : IntKind.i64.wrap (((n + 2 : Nat) : Int) + 1) = ((n + 3 : Nat) : Int) := by
   rw [wrap63 (by omega) (by omega)]
   omega
  rw [hnn]
  refine At.mono (F' := RowE w2 ok ρ1 base 41 10 A1 (m + 1) c1 (stW (xs ++ [⟨kd, ik, key, ti, v, src, wk2, wks, bit, mask⟩])) []) (fun ρ w1 h => by rw [stW_app]; exact h) ?_
  refine At.canL _ rfl ?_
  refine At.slLoc _ rfl ?_
  refine At.rndEnd none rfl rfl rfl fun ρ' w' hm' hf => ?_
  have he := hend A1 (m + 1) c1 ρ' w'
  rw [hs] at he
  exact he hm' hf
end Go.Proofs.YthfpekhpeiebjaaGreatDoor
end
section
namespace Go.Proofs.YthfpekhpeiebjaaGreatDoor
open Go.RowKit Go.Sx
def Rec (D : Nat) (o : Obj) (ρ : List Nat) (w : World) : Prop := w.heap[D]? = some o ∧ D ∉ ρ
theorem Rec.stable {D : Nat} {o : Obj} : Stable (Rec D o) := fun ρ w ρ' w' hg hk ⟨h1, h2⟩ => by
 have hlt := (Array.getElem?_eq_some_iff.1 h1).1
 refine ⟨(hk.block D hlt h2).trans h1, fun hm => ?_⟩
 rcases hg.of_mem hm with h | h
 ·exact h2 h
 omega
theorem Rec.fewer {D : Nat} {o : Obj} (j : Nat) : FewerK j (Rec D o) := fun ρ w k _ ⟨h1, h2⟩ => ⟨h1, fun hm => h2 (List.mem_of_mem_take hm)⟩
def Tk (ρ1 ρ : List Nat) (_ : World) : Prop := ρ.take ρ1.length = ρ1
theorem Tk.stable {ρ1 : List Nat} : Stable (Tk ρ1) := fun ρ w ρ' w' hg _ h => by
 obtain ⟨ext, rfl, _⟩ := hg
 have hl : ρ1.length ≤ ρ.length := by
  have := congrArg List.length h
  simp at this; omega
 unfold Tk
 rw [List.take_append_of_le_length hl]; exact h
theorem Tk.fewer {ρ1 : List Nat} : FewerK ρ1.length (Tk ρ1) := fun ρ _ k hk h => by
 unfold Tk
 rw [List.take_take, Nat.min_eq_left hk]; exact h
theorem Tk.eq {ρ1 ρ : List Nat} {w : World} (h : Tk ρ1 ρ w) (hl : ρ.length = ρ1.length) : ρ = ρ1 := by
 unfold Tk at h
 rw [← hl, List.take_length] at h
 exact h
def FP (w0 : World) (ρ1 : List Nat) (D : Nat) (o : Obj) (A : Option Addr) (m cap : Nat) (xs : List St) (ρ : List Nat) (w : World) : Prop :=
 RowE w0 (fun _ => False) [] w0.heap.size 41 10 A m cap (stW xs) [] ρ w ∧ (Rec D (.deferred (some [])) ρ w ∧ (Rec (D + 1) o ρ w ∧ Tk ρ1 ρ w))
theorem FP.stable {w0 : World} {ρ1 : List Nat} {D : Nat} {o : Obj} {A : Option Addr} {m cap : Nat} {xs : List St} : Stable (FP w0 ρ1 D o A m cap xs) :=
 RowE.stable.and (Rec.stable.and (Rec.stable.and Tk.stable))
theorem FP.fewer {w0 : World} {ρ1 : List Nat} {D : Nat} {o : Obj} {A : Option Addr} {m cap : Nat} {xs : List St} (hl : ρ1.length = 6) : FewerK 6 (FP w0 ρ1 D o A m cap xs) := fun ρ w k hk ⟨h1, h2, h3, h4⟩ =>
 ⟨RowE.fewer ρ w k (Nat.zero_le _) h1, Rec.fewer 6 ρ w k hk h2, Rec.fewer 6 ρ w k hk h3, Tk.fewer ρ w k (hl ▸ hk) h4⟩
theorem body_any [Md] {base N : Nat} {w2 : World} {ok : Nat → Prop} {ρ1 : List Nat} (hl : ρ1.length = 6) (hN : N ≤ base) (l : Nat) {R : Ending → World → Prop} (t ln : List UInt8) (c : Cf) (wk : Int) (A : Option Addr) (m cap : Nat) (xs : List St)
  (hln : ln.length ≤ 1048576) (hW : ∀ w', Below N w2 w' → Wd w') (en : Bool) (n : Nat) (hwr : 2 ≤ n → c.wr = 0) (hn : n ≤ 1048577) (hmn : m ≤ 1048575)
  (hend : ∀ (A' : Option Addr) (m' cap' : Nat) (ρ' : List Nat) (w' : World), WInv N w2 ρ' (locR t n c wk xs A' m' cap' (stepR ln en n c wk xs)) w' → RowE w2 ok ρ1 base 41 10 A' m' cap' (stW (xsR xs (stepR ln en n c wk xs))) [] ρ' w' →
   ∃ r, w'.heap[l]? = some (.loop r) ∧ R (.returned (.bool (jmpR (stepR ln en n c wk xs)).isNone)) (w'.putObj l (.loop { r with state := if (jmpR (stepR ln en n c wk xs)).isNone then .ready else .done, pending := jmpR (stepR ln en n c wk xs) }))) :
  At Tryz.prog (roundPost Tryz.prog l R) N w2 Tryz.f9.ntmps (RowE w2 ok ρ1 base 41 10 A m cap (stW xs) []) ⟨.code BPb, [], frB ln en, locP t n c wk A m cap 0 0⟩ := by
 cases en with
 | false => exact body_no hl hN l t ln c wk A m cap xs (by omega) hln hW n hend
 | true =>
  match n, hwr, hn, hend with
  | 0, hwr, hn, hend => exact body_0 hl hN l t ln c wk A m cap xs (by omega) hln hW hend
  | 1, hwr, hn, hend => exact body_1 hl hN l t ln c wk A m cap xs (by omega) hln hW hend
  | n + 2, hwr, hn, hend => exact body_2 hl hN l t ln c wk A m cap xs (by omega) hln hW n (hwr (by omega)) (by omega) hmn hend
def frP : Fr := [(2, .lp 0 0), (3, .lp 1 0), (4, .lp 2 0), (5, .lp 3 0), (6, .lp 4 0)]
noncomputable def busyP (fid : FuncId) (tmps : Array Value) (D : Nat) : Loop := recOf fid tmps #[21, 22] BPa BPb D .busy none
noncomputable def recP (fid : FuncId) (tmps : Array Value) (D : Nat) : Loop := recOf fid tmps #[21, 22] BPa BPb D .ready none
set_option maxRecDepth 100000 in
theorem asg_ok [Md] {N : Nat} {w0 : World} {F : List Nat → World → Prop} {t ln : List UInt8} {en : Bool} {n : Nat} {c : Cf} {wk : Int} {A : Option Addr} {m cap : Nat} (hF : Stable F) (hJ : FewerK 6 F) {g : Act → World → Prop}
  (h : ∀ ρ a w, Inv N w0 Tryz.f9.ntmps ρ (frB ln en) (locP t n c wk A m cap 0 0) a w → F ρ w → g a w) :
  At Tryz.prog (fun _ _ _ => False) N w0 Tryz.f9.ntmps F ⟨.code BPa, [.next g], (21, .so (mkB ln)) :: (22, .bo en) :: frP, locP t n c wk A m cap 0 0⟩ := by
 obtain ⟨g1, s, k, sz, sl, of, gp, lt, ea, d⟩ := c
 refine zU hF hJ [2, 3, 4, 5, 6, 7, 8] 6 ⟨.exit .normal, [.next g], frB ln en, locP t n ⟨g1, s, k, sz, sl, of, gp, lt, ea, d⟩ wk A m cap 0 0⟩ ?_
 exact At.nextF rfl rfl h
theorem own_ne {base e size : Nat} {A : Option Addr} {n c : Nat} {xs : List Value} {ρ : List Nat} {w : World} (h : Row base e size A n c xs ρ w) {r : Nat} {o0 : Obj} (hr : w.heap[r]? = some o0) (ho : ∀ c t f, o0 ≠ .cells c t f) : (Value.slice A n c).ownBlock ≠ some r := by
 intro he
 obtain ⟨h1, h2⟩ := h.1
 rcases h2 with ⟨h2, _⟩ | ⟨g, cap, cur, hv, hb, hc, hrest⟩
 ·rw [h2] at he
  simp [Value.ownBlock] at he
 rw [hv] at he
 simp [Value.ownBlock] at he
 subst he
 rw [hr] at hc
 injection hc with hc
 exact ho _ _ _ hc
theorem locP_len (t : List UInt8) (n : Nat) (c : Cf) (wk : Int) (A : Option Addr) (m cap : Nat) (rn re : Int) : (locP t n c wk A m cap rn re).length = 6 := by cases c; rfl
theorem locR_len (t : List UInt8) (n : Nat) (c : Cf) (wk : Int) (xs : List St) (A : Option Addr) (m cap : Nat) (r : RS) : (locR t n c wk xs A m cap r).length = 6 := by
 cases r <;> exact locP_len _ _ _ _ _ _ _ _ _
theorem rnd_ok {w0 : World} {ρ1 : List Nat} {D : Nat} {tmps : Array Value} {fid : FuncId} (hl : ρ1.length = 6) (hD : w0.heap.size ≤ D) (hsz : tmps.size = Tryz.f9.ntmps) (hfr : ∀ t s, Sx.look frP t = some s → tmps[t]? = some (s.den ρ1)) (hW : Wd w0)
  {t ln : List UInt8} {en : Bool} {n : Nat} {c : Cf} {wk : Int} {A : Option Addr} {m cap : Nat} {xs : List St} (hln : ln.length ≤ 1048576) (hwr : 2 ≤ n → c.wr = 0) (hn : n ≤ 1048577) (hmn : m ≤ 1048575)
  {ρ : List Nat} {w : World} (hm : WInv w0.heap.size w0 ρ (locP t n c wk A m cap 0 0) w) (hF : FP w0 ρ1 D (.loop (recP fid tmps D)) A m cap xs ρ w) :
  RoundIn Fence.wide 0 Tryz.prog (D + 1) fid ((tmps.setIfInBounds 21 (.string (mkB ln))).setIfInBounds 22 (.bool en)) BPa BPb w fun e w' => ∃ (x : Option Addr × Nat × Nat) (ρ' : List Nat), e = .returned (.bool (jmpR (stepR ln en n c wk xs)).isNone) ∧ Grow w.heap.size ρ ρ' ∧
   WInv w0.heap.size w0 ρ' (locR t n c wk xs x.1 x.2.1 x.2.2 (stepR ln en n c wk xs)) w' ∧
   FP w0 ρ1 D (.loop { recP fid tmps D with state := if (jmpR (stepR ln en n c wk xs)).isNone then .ready else .done, pending := jmpR (stepR ln en n c wk xs) }) x.1 x.2.1 x.2.2 (xsR xs (stepR ln en n c wk xs)) ρ' w' := by
 have hρ : ρ = ρ1 := hF.2.2.2.eq (by rw [hm.len, locP_len, hl])
 refine roundOf (ntm := Tryz.f9.ntmps) (fr := (21, .so (mkB ln)) :: (22, .bo en) :: frP) (fr' := frB ln en) (F0 := FP w0 ρ1 D (.loop (recP fid tmps D)) A m cap xs) (r := recP fid tmps D) hm hF (by simp [hsz]) ?_ (by kernel_rfl) body_flat (fun ρ w h => h.2.2.1.1) rfl (@asg_ok (Md.rnd (D + 1)) _ _ _ _ _ _ _ _ _ _ _ _ FP.stable (FP.fewer hl) _ (fun ρ a w hi hf => ⟨ρ, hi, hf⟩)) ?_
 ·intro t s h
  have h115 : tmps.size = 115 := hsz
  simp only [Sx.look] at h
  split at h
  ·rename_i h21
   have h21 := Nat.eq_of_beq_eq_true h21
   subst h21
   injection h with h
   subst h
   rw [Array.getElem?_setIfInBounds_ne (by decide), Array.getElem?_setIfInBounds_self_of_lt (by omega)]
   rfl
  rename_i h21
  split at h
  ·rename_i h22
   have h22 := Nat.eq_of_beq_eq_true h22
   subst h22
   injection h with h
   subst h
   rw [Array.getElem?_setIfInBounds_self_of_lt (by simp; omega)]
   rfl
  rename_i h22
  have h21 := Nat.ne_of_beq_eq_false h21
  have h22 := Nat.ne_of_beq_eq_false h22
  rw [Array.getElem?_setIfInBounds_ne (by omega), Array.getElem?_setIfInBounds_ne (by omega), hρ]
  exact hfr t s h
 intro ρ' w' hm' hF' a' ha'
 have hρ' : ρ' = ρ1 := hF'.2.2.2.eq (by rw [hm'.len, locP_len, hl])
 obtain ⟨hrow, ⟨hd1, hd2⟩, ⟨hr1, hr2⟩, htk⟩ := hF'
 have hlt := (Array.getElem?_eq_some_iff.1 hr1).1
 have hm2 := hm'.putObj (by omega) hr2 (.loop (busyP fid tmps D))
 have hnc : ∀ (c : Array Value) (t : TypeId) (f : Nat × Nat), Obj.loop (recP fid tmps D) ≠ .cells c t f := fun _ _ _ => by simp
 have hnd : ∀ (c : Array Value) (t : TypeId) (f : Nat × Nat), Obj.deferred (some []) ≠ .cells c t f := fun _ _ _ => by simp
 have ho1 := own_ne hrow.1.1.1 hr1 hnc
 have ho2 := own_ne hrow.1.1.1 hd1 hnd
 refine @body_any (Md.rnd (D + 1)) w0.heap.size w0.heap.size (w'.putObj (D + 1) (.loop (busyP fid tmps D))) (fun b => b ∈ ρ' ∨ (Value.slice A m cap).ownBlock = some b) ρ' (by rw [hm'.len, locP_len]) (Nat.le_refl _) (D + 1) _ t ln c wk A m cap xs hln (fun w3 hb => hW.below (hm2.below.trans hb)) en n hwr hn hmn ?_ ρ' a' (w'.putObj (D + 1) (.loop (busyP fid tmps D))) (@Sx.Inv.mk (Md.rnd (D + 1)) _ _ _ _ _ _ _ _ ha' ⟨Below.refl _ _, hm2.hN, hm2.len, hm2.nodup, hm2.ge, hm2.cells⟩) ?_
 ·intro A' m' cap' ρ'' w'' hm'' hf''
  have hch := hf''.1.2.1.1
  have hnl : ¬ (D + 1 ∈ ρ' ∨ (Value.slice A m cap).ownBlock = some (D + 1)) := fun h => h.elim hr2 ho1
  have hnd2 : ¬ (D ∈ ρ' ∨ (Value.slice A m cap).ownBlock = some D) := fun h => h.elim hd2 ho2
  have hl1 : w''.heap[D + 1]? = some (.loop (busyP fid tmps D)) := (hch.block (D + 1) (by simpa using hlt) hnl).trans (World.putObj_heap_same hlt)
  have hl2 : w''.heap[D]? = some (.deferred (some [])) := (hch.block D (by simp; omega) hnd2).trans ((World.putObj_heap_other (by omega)).trans hd1)
  have hρ'' : ρ'' = ρ' := Tk.eq (ρ1 := ρ') (w := w'') hf''.1.2.1.2.2 (by rw [hm''.len, locR_len, hm'.len, locP_len])
  have hnb : ∀ (c : Array Value) (t : TypeId) (f : Nat × Nat), Obj.loop (busyP fid tmps D) ≠ .cells c t f := fun _ _ _ => by simp
  have hm3 : WInv w0.heap.size w0 ρ'' (locR t n c wk xs A' m' cap' (stepR ln en n c wk xs)) w'' := ⟨hm2.below.trans hm''.below, hm''.hN, hm''.len, hm''.nodup, hm''.ge, hm''.cells⟩
  have hfrm : FrameR w0 (fun _ => False) [] ρ' w'' := (hrow.1.2.1.putObj (.inr (by omega)) _).chg hch (fun g _ hg => .inr (hg.elim (fun h => (hm'.ge g h).1) (fun h => (hrow.1.2.2 g h).elim False.elim id)))
  have hr2'' : D + 1 ∉ ρ'' := by rw [hρ'']; exact hr2
  have hlt'' := (Array.getElem?_eq_some_iff.1 hl1).1
  refine ⟨_, hl1, (A', m', cap'), ρ'', rfl, by rw [hρ'', hρ', hρ]; exact Grow.refl _ _, hm3.putObj (by omega) hr2'' _, ⟨⟨⟨hf''.1.1.1.putObj hl1 hnb _, by have := hf''.1.1.2; simpa using this⟩, ?_, fun g hg => ?_⟩, by simp⟩, ⟨?_, by rw [hρ'']; exact hd2⟩, ⟨World.putObj_heap_same hlt'', hr2''⟩, by rw [hρ'']; exact htk⟩
  ·rw [hρ'']
   exact hfrm.putObj (.inr (by omega)) _
  ·rcases hf''.1.2.2 g hg with h | h
   ·rcases h with h | h
    ·exact .inr (hm'.ge g h).1
    exact hrow.1.2.2 g h
   have := hm'.hN
   simp at h
   exact .inr (by omega)
  rw [World.putObj_heap_other (by omega)]
  exact hl2
 exact ⟨⟨⟨hrow.1.1.1.putObj hr1 hnc _, by simpa using hrow.1.1.2⟩, FrameR.start _ ρ' (fun b hb => .inl hb), fun g hg => .inl (.inr hg)⟩, by simp⟩
noncomputable def B26 : Code := (Tryz.f26.body).getD .skip
noncomputable def sq26 (p : List Nat) : Go.Sx.K := .seq (sub B26 p)
set_option maxHeartbeats 4000000 in
set_option maxRecDepth 100000 in
theorem lines_any (t : List UInt8) (w : World) :
  Calls Tryz.prog 26 #[.string (mkB t)] w fun e w' => ∃ ρc, e = .returned ((SV.fn (.func 49) [.lp 0 0]).den ρc) ∧ WInv w.heap.size w ρc [([.so (mkB t)], 9)] w' := by
 refine enter (fn := Tryz.f26) (c := B26) [.so (mkB t)] Tryz.func26 rfl rfl ?_
 refine zM [2] 1 ⟨.exit .ret, [], [(2, .fn (Fn.func 49) [.lp 0 0])], [([.so (mkB t)], 9)]⟩ ?_
 refine zE (.fn (Fn.func 49) [.lp 0 0]) ?_
 intro ρ w9 hm' hf
 exact ⟨ρ, rfl, hm'⟩
end Go.Proofs.YthfpekhpeiebjaaGreatDoor
end
section
namespace Go.Proofs.YthfpekhpeiebjaaGreatDoor
open Go.RowKit Go.Sx
noncomputable def B49 : Code := (Tryz.f49.body).getD .skip
noncomputable def sq49 (p : List Nat) : Go.Sx.K := .seq (sub B49 p)
noncomputable def opsY : Array Oper := opsOf (sub B49 [4, 4, 1, 4, 1, 0, 0])
noncomputable def oY : Oper := (opsY.toList[3]?).getD default
noncomputable def rY : List Oper := opsY.toList.drop 4
theorem dropY : opsY.toList.drop 3 = oY :: rY := by kernel_rfl
structure PS where
 t : List UInt8
 n : Nat
 c : Cf
 wk : Int
 A : Option Addr
 m : Nat
 cap : Nat
 xs : List St
structure XP where
 t : List UInt8
 n : Nat
 c : Cf
 wk : Int
 A : Option Addr
 m : Nat
 cap : Nat
 xs : List St
 stop : Option Bool
def frL (D : Nat) (_ : PS) : Fr := [(0, .v (.func (.yield (D + 1)) #[] #[])), (1, .lp 5 0)]
def locL : PS → Sx.Loc
 | ⟨t, n, c, wk, A, m, cap, _⟩ => locP t n c wk A m cap 0 0
def locX : XP → Sx.Loc
 | ⟨t, n, c, wk, A, m, cap, _, stop⟩ => match stop with
  | some true => locP t n c wk A m cap n 370
  | _ => locP t n c wk A m cap 0 0
def jmpX : Option Bool → Option Code
 | none => none
 | some true => some .ret
 | some false => some (.exit 0)
def GL (w0 : World) (ρ1 : List Nat) (D : Nat) (fid : FuncId) (tmps : Array Value) (fo : FO) : PS → List Nat → World → Prop
 | ⟨t, n, c, wk, A, m, cap, xs⟩, ρ, w => FP w0 ρ1 D (.loop (recP fid tmps D)) A m cap xs ρ w ∧ (runL (cutsP t) n c wk xs = fo ∧ m = xs.length ∧ (1 ≤ n → c.wr = 0) ∧ n + t.length ≤ 1048576 ∧ m ≤ n)
theorem foldY {fid : FuncId} {tmps : Array Value} {D : Nat} {ρ : List Nat} {ln : List UInt8} {en : Bool} : ((recP fid tmps D).params.zip (SV.denL ρ [.so (mkB ln), .bo en]).toArray).foldl (fun tmps (t, a) => tmps.setIfInBounds t a) (recP fid tmps D).tmps = (tmps.setIfInBounds 21 (.string (mkB ln))).setIfInBounds 22 (.bool en) := by
 simp [recP, SV.denL, SV.den]
theorem row_steps {w0 : World} {ρ1 : List Nat} {D : Nat} {o : Obj} {A : Option Addr} {m cap : Nat} {xs : List St} {ρ : List Nat} {w : World} (h : FP w0 ρ1 D o A m cap xs ρ w) : m = xs.length := by
 have := h.1.1.1.1.len
 rw [stW_len] at this
 omega
theorem runL_cons (ln : List UInt8) (en : Bool) (ls : List (List UInt8 × Bool)) (n : Nat) (c : Cf) (wk : Int) (xs : List St) : runL ((ln, en) :: ls) n c wk xs = match stepR ln en n c wk xs with
  | .go n' c' wk' xs' => runL ls n' c' wk' xs'
  | .ret => ⟨n, c, wk, xs, some true⟩
  | .brk => ⟨n, c, wk, xs, some false⟩ := rfl
theorem step_wr {ln : List UInt8} {en : Bool} {n n2 : Nat} {c c2 : Cf} {wk wk2 : Int} {xs xs2 : List St} (h : stepR ln en n c wk xs = .go n2 c2 wk2 xs2) (hc : 1 ≤ n → c.wr = 0) : c2.wr = 0 ∧ n2 = n + 1 ∧ xs2.length ≤ xs.length + 1 := by
 unfold stepR at h
 split at h
 ·cases h
 split at h
 ·split at h
  ·split at h
   ·rename_i c' hp
    simp only [RS.go.injEq] at h
    obtain ⟨rfl, rfl, rfl, rfl⟩ := h
    exact ⟨((cfgP_iff _ _).1 hp).1, rfl, by omega⟩
   cases h
  cases h
 ·split at h
  ·split at h
   ·split at h
    ·cases h
    simp only [RS.go.injEq] at h
    obtain ⟨rfl, rfl, rfl, rfl⟩ := h
    exact ⟨hc (by omega), rfl, by omega⟩
   cases h
  cases h
 split at h
 ·split at h
  ·simp only [RS.go.injEq] at h
   obtain ⟨rfl, rfl, rfl, rfl⟩ := h
   exact ⟨hc (by omega), rfl, by simp⟩
  cases h
 cases h
def EndX (fo : FO) (x : XP) : Prop := fo = ⟨x.n, x.c, x.wk, x.xs, x.stop⟩ ∧ x.m = x.xs.length ∧ (1 ≤ x.n → x.c.wr = 0)
set_option maxHeartbeats 8000000 in
set_option maxRecDepth 100000 in
theorem iter_go {w0 w1 : World} {ρ1 : List Nat} {D : Nat} {tmps : Array Value} {fid : FuncId} (hl : ρ1.length = 6) (hD : w0.heap.size ≤ D) (hsz : tmps.size = Tryz.f9.ntmps) (hfr : ∀ t s, Sx.look frP t = some s → tmps[t]? = some (s.den ρ1)) (hW : Wd w0)
  {t0 : List UInt8} (ht : t0.length ≤ 1048576) {fo : FO} (hfo : runL (cutsP t0) 0 cf0 0 [] = fo) (hm : WInv w0.heap.size w0 ρ1 (locP t0 0 cf0 0 none 0 0 0 0) w1) (hF : FP w0 ρ1 D (.loop (recP fid tmps D)) none 0 0 [] ρ1 w1)
  {R : Ending → World → Prop} (hRo : ∀ w, ¬ R .outgrown w)
  (hR : ∀ (x : XP) (r3 : Loop) (w3 : World), WInv w0.heap.size w0 ρ1 (locX x) w3 → FP w0 ρ1 D (.loop r3) x.A x.m x.cap x.xs ρ1 w3 → EndX fo x → r3.state ≠ .busy → r3.pending = jmpX x.stop → R (.returned (.tuple #[])) w3) :
  Calls Tryz.prog 49 (SV.denL ρ1 [.v (.func (.yield (D + 1)) #[] #[]), .lp 5 0]).toArray w1 R := by
 have h6 : ∀ {o : Obj} {A : Option Addr} {m cap : Nat} {xs : List St}, FewerK 6 (FP w0 ρ1 D o A m cap xs) := FP.fewer hl
 refine enterH (w0 := w0) (N := w0.heap.size) (F := FP w0 ρ1 D (.loop (recP fid tmps D)) none 0 0 []) (fn := Tryz.f49) (c := B49) [.v (.func (.yield (D + 1)) #[] #[]), .lp 5 0] ρ1 (locP t0 0 cf0 0 none 0 0 0 0) Tryz.func49 rfl rfl hm hF ?_
 refine zT FP.stable h6 [0, 1] 6 ⟨.code (sub B49 [4]), [.block 0], [(0, .v (.func (Fn.yield (D + 1)) (Array.mk []) (Array.mk []))), (1, .lp 5 0)], [(zAM2, 28), ([.io .i64 0], 3), ([.io .i64 0], 29), (zAM2, 28), ([.io .i64 0], 3), ([.so (mkB t0)], 9)]⟩ ?_
 refine At.loop (σ := PS) (sub B49 [4, 4]) (frL D) locL (GL w0 ρ1 D fid tmps fo) (fun x => x.t.length) ⟨t0, 0, cf0, 0, none, 0, 0, []⟩ (by kernel_rfl) (by unfold subFr; kernel_rfl) (by kernel_rfl) (fun _ _ _ _ h => ⟨h, hfo, rfl, fun h => absurd h (by decide), by simpa using ht, Nat.le_refl _⟩) ?_
 rintro ⟨t, n, ⟨g, s, k, sz, sl, of, gp, lt, ea, d⟩, wk, A, m, cap, xs⟩
 refine At.pure fun ⟨h1, h2, h3, h4, h5⟩ => ?_
 refine zTq FP.stable h6 [0, 1, 7] 6 ?_
 rcases zB (!(mkB t).toList == (ByteArray.mk #[]).toList) with b0 | b0
 ·refine zR 7 b0 ?_
  refine zT FP.stable h6 [0, 1, 9] 6 ⟨pops B49 [4, 4, 1, 4, 0] 1, [(sq49 [4, 4, 1, 4, 1]), .block 1, .next (Sx.Next w0.heap.size w0 Tryz.f49.ntmps (frL D) locL (GL w0 ρ1 D fid tmps fo) (fun x => x.t.length) (PS.mk t n (Cf.mk g s k sz sl of gp lt ea d) wk A m cap xs)), .block 0], [(0, .v (.func (Fn.yield (D + 1)) (Array.mk []) (Array.mk []))), (1, .lp 5 0), (9, .so (mkB t))], [(zAM2, 28), ([.io .i64 0], 3), ([.io .i64 0], 29), ((cwAM g s k sz sl of gp lt ea d wk A m cap), 28), ([.io .i64 (↑n : Int)], 3), ([.so (mkB t)], 9)]⟩ ?_
  obtain ⟨y, r, rfl⟩ := emp_false (x := t) (by simpa using b0)
  clear b0
  obtain ⟨⟨ln, rs, en⟩, hc⟩ : ∃ x, cutN (y :: r) = x := ⟨_, rfl⟩
  have hcl := cutN_len (y :: r)
  have hcs := cutN_less y r
  rw [hc] at hcl hcs
  simp only at hcl hcs
  refine zC FP.stable 50 [.so (mkB (y :: r)), .v (.string ⟨#[10]⟩)] (.tup [.so (mkB ln), .so (mkB rs), .bo en]) (fun _ _ w2 hi _ => ?_) ?_
  ·obtain ⟨mm, h6⟩ := (hW.below hi.mem.below).c1
   exact cut_any hc (by omega) w2 h6
  let kn0 : K := .next (Sx.Next w0.heap.size w0 Tryz.f49.ntmps (frL D) locL (GL w0 ρ1 D fid tmps fo) (fun x => x.t.length) (PS.mk (y :: r) n (Cf.mk g s k sz sl of gp lt ea d) wk A m cap xs))
  refine At.toJ (FP.stable) h6 0 11 [0, 1, 3, 4, 5] 6 ⟨.code (sub B49 [4, 4, 1, 4, 1, 0, 0]), [(sq49 [4, 4, 1, 4, 1, 0, 1]), (sq49 [4, 4, 1, 4, 1, 1]), .block 1, kn0, .block 0], [(0, .v (.func (Fn.yield (D + 1)) (Array.mk []) (Array.mk []))), (1, .lp 5 0), (3, .so (mkB ln)), (4, .so (mkB rs)), (5, .bo en)], [(zAM2, 28), ([.io .i64 0], 3), ([.io .i64 0], 29), ((cwAM g s k sz sl of gp lt ea d wk A m cap), 28), ([.io .i64 (↑n : Int)], 3), ([.so (mkB (y :: r))], 9)]⟩ (by kernel_rfl) (by kernel_rfl) ?_
  refine At.split (id := 2) (ops := opsY) 3 (by kernel_rfl) (fun ⟨a, w, h⟩ => hRo w h) ?_
  rw [dropY]
  refine zT FP.stable h6 [0, 1, 4, 14, 15, 16] 6 ⟨.exit .normal, [.next (wpListIn Fence.wide 0 Tryz.prog opsY (postK Tryz.prog (S.mk (PC.code (sub B49 [4, 4, 1, 4, 1, 0, 0])) [K.seq (sub B49 [4, 4, 1, 4, 1, 0, 1]), K.seq (sub B49 [4, 4, 1, 4, 1, 1]), K.block 1, K.next (Sx.Next w0.heap.size w0 Tryz.f49.ntmps (frL D) locL (GL w0 ρ1 D fid tmps fo) (fun x => x.t.length) (PS.mk (y :: r) n (Cf.mk g s k sz sl of gp lt ea d) wk A m cap xs)), K.block 0] [(0, .v (.func (Fn.yield (D + 1)) (Array.mk []) (Array.mk []))), (1, .lp 5 0), (3, .so (mkB ln)), (4, .so (mkB rs)), (5, .bo en)] [(zAM2, 28), ([.io .i64 0], 3), ([.io .i64 0], 29), ((cwAM g s k sz sl of gp lt ea d wk A m cap), 28), ([.io .i64 (↑n : Int)], 3), ([.so (mkB (y :: r))], 9)]).ks (bodyPost Tryz.prog Tryz.f49 R)) (oY :: rY)), (sq49 [4, 4, 1, 4, 1, 0, 1]), (sq49 [4, 4, 1, 4, 1, 1]), .block 1, kn0, .block 0], [(0, .v (.func (Fn.yield (D + 1)) (Array.mk []) (Array.mk []))), (1, .lp 5 0), (4, .so (mkB rs)), (14, .v (.func (Fn.yield (D + 1)) (Array.mk []) (Array.mk []))), (15, .so (mkB ln)), (16, .bo en)], [(zAM2, 28), ([.io .i64 0], 3), ([.io .i64 0], 29), ((cwAM g s k sz sl of gp lt ea d wk A m cap), 28), ([.io .i64 (↑n : Int)], 3), ([.so (mkB (y :: r))], 9)]⟩ ?_
  refine At.yield (X := Option Addr × Nat × Nat) (o := oY) (rest := rY) (d := 17) (t := 14) (args := #[.tmp 15, .tmp 16]) (tys := #[9, 4]) (l := D + 1) [.so (mkB ln), .bo en] (by kernel_rfl) (by kernel_rfl) (by kernel_rfl) (by kernel_rfl) (by kernel_rfl) (by kernel_rfl) (by kernel_rfl) (fun ⟨a, w, h⟩ => hRo w h) (fun _ => (jmpR (stepR ln en n ⟨g, s, k, sz, sl, of, gp, lt, ea, d⟩ wk xs)).isNone) (fun x => locR (y :: r) n ⟨g, s, k, sz, sl, of, gp, lt, ea, d⟩ wk xs x.1 x.2.1 x.2.2 (stepR ln en n ⟨g, s, k, sz, sl, of, gp, lt, ea, d⟩ wk xs)) (fun x => FP w0 ρ1 D (.loop { recP fid tmps D with state := if (jmpR (stepR ln en n ⟨g, s, k, sz, sl, of, gp, lt, ea, d⟩ wk xs)).isNone then .ready else .done, pending := jmpR (stepR ln en n ⟨g, s, k, sz, sl, of, gp, lt, ea, d⟩ wk xs) }) x.1 x.2.1 x.2.2 (xsR xs (stepR ln en n ⟨g, s, k, sz, sl, of, gp, lt, ea, d⟩ wk xs))) (fun ρ a w2 hi hf => ?_) (fun x => ?_)
  ·refine ⟨recP fid tmps D, hf.2.2.1.1, rfl, ?_⟩
   rw [foldY]
   exact rnd_ok hl hD hsz hfr hW (by omega) (fun h => h3 (by omega)) (by omega) (by simp only [List.length_cons] at h4; omega) hi.mem hf
  obtain ⟨A2, m2, cap2⟩ := x
  refine At.learn (p := m2 = (xsR xs (stepR ln en n ⟨g, s, k, sz, sl, of, gp, lt, ea, d⟩ wk xs)).length) (fun ρ w hf => row_steps hf) ?_
  intro hm2
  rw [cutsP_cons hc, runL_cons] at h1
  have hsw := fun n2 c2 wk2 xs2 (h : (stepR ln en n ⟨g, s, k, sz, sl, of, gp, lt, ea, d⟩ wk xs) = .go n2 c2 wk2 xs2) => step_wr h h3
  cases hrs : (stepR ln en n ⟨g, s, k, sz, sl, of, gp, lt, ea, d⟩ wk xs) with
  | go n2 c2 wk2 xs2 =>
   obtain ⟨hw2, hn2, hx2⟩ := hsw _ _ _ _ hrs
   rw [hrs] at h1 hm2
   obtain ⟨g2, s2, k2, sz2, sl2, of2, gp2, lt2, ea2, d2⟩ := c2
   refine zT FP.stable h6 [0, 1] 6 ⟨.exit .normal, [.next (Sx.Next w0.heap.size w0 Tryz.f49.ntmps (frL D) locL (GL w0 ρ1 D fid tmps fo) (fun x => x.t.length) (PS.mk (y :: r) n (Cf.mk g s k sz sl of gp lt ea d) wk A m cap xs)), .block 0], [(0, .v (.func (Fn.yield (D + 1)) (Array.mk []) (Array.mk []))), (1, .lp 5 0)], [(zAM2, 28), ([.io .i64 0], 3), ([.io .i64 0], 29), ([.io .i64 g2, .io .i64 s2, .io .i64 k2, .io .i64 sz2, .io .i64 sl2, .io .i64 of2, .io .i64 gp2, .io .i64 lt2, .io .i64 ea2, .bo d2, .io .i64 wk2, .sl A2 (A2, m2, cap2).snd.fst (A2, m2, cap2).snd.snd], 28), ([.io .i64 (↑n2 : Int)], 3), ([.so (mkB rs)], 9)]⟩ ?_
   refine At.next (σ := PS) ⟨rs, n2, ⟨g2, s2, k2, sz2, sl2, of2, gp2, lt2, ea2, d2⟩, wk2, A2, m2, cap2, xs2⟩ rfl rfl (by unfold subFr; kernel_rfl) (by kernel_rfl) ?_ ?_
   ·intro ρ a' w' hi' hf
    exact ⟨hf, h1, hm2, fun _ => hw2, by simp only [List.length_cons] at hcs h4; omega, by simp only [xsR] at hm2; omega⟩
   exact hcs
  | ret =>
   rw [hrs] at h1 hm2
   refine zT FP.stable h6 [] 6 ⟨.exit .ret, [], [], [(zAM2, 28), ([.io .i64 (↑n : Int)], 3), ([.io .i64 370], 29), ([.io .i64 g, .io .i64 s, .io .i64 k, .io .i64 sz, .io .i64 sl, .io .i64 of, .io .i64 gp, .io .i64 lt, .io .i64 ea, .bo d, .io .i64 wk, .sl A2 (A2, m2, cap2).snd.fst (A2, m2, cap2).snd.snd], 28), ([.io .i64 (↑n : Int)], 3), ([.so (mkB (y :: r))], 9)]⟩ ?_
   refine zE (.tup []) ?_
   intro ρ w9 hm' hf
   have hρ : ρ = ρ1 := hf.2.2.2.eq (by rw [hm'.len, hl]; rfl)
   rw [hρ] at hm' hf
   exact hR ⟨y :: r, n, ⟨g, s, k, sz, sl, of, gp, lt, ea, d⟩, wk, A2, m2, cap2, xs, some true⟩ _ w9 hm' hf ⟨h1.symm, hm2, h3⟩ (by simp [jmpR]) rfl
  | brk =>
   rw [hrs] at h1 hm2
   refine zT FP.stable h6 [] 6 ⟨.exit .ret, [], [], [(zAM2, 28), ([.io .i64 0], 3), ([.io .i64 0], 29), ([.io .i64 g, .io .i64 s, .io .i64 k, .io .i64 sz, .io .i64 sl, .io .i64 of, .io .i64 gp, .io .i64 lt, .io .i64 ea, .bo d, .io .i64 wk, .sl A2 (A2, m2, cap2).snd.fst (A2, m2, cap2).snd.snd], 28), ([.io .i64 (↑n : Int)], 3), ([.so (mkB (y :: r))], 9)]⟩ ?_
   refine zE (.tup []) ?_
   intro ρ w9 hm' hf
   have hρ : ρ = ρ1 := hf.2.2.2.eq (by rw [hm'.len, hl]; rfl)
   rw [hρ] at hm' hf
   exact hR ⟨y :: r, n, ⟨g, s, k, sz, sl, of, gp, lt, ea, d⟩, wk, A2, m2, cap2, xs, some false⟩ _ w9 hm' hf ⟨h1.symm, hm2, h3⟩ (by simp [jmpR]) rfl
 refine zR 7 b0 ?_
 refine zT FP.stable h6 [0, 1] 6 ⟨.exit .normal, [], [(0, .v (.func (Fn.yield (D + 1)) (Array.mk []) (Array.mk []))), (1, .lp 5 0)], [(zAM2, 28), ([.io .i64 0], 3), ([.io .i64 0], 29), ((cwAM g s k sz sl of gp lt ea d wk A m cap), 28), ([.io .i64 (↑n : Int)], 3), ([.so (mkB t)], 9)]⟩ ?_
 refine zE (.tup []) ?_
 have he := emp_true (x := t) (by simpa using b0)
 subst he
 intro ρ w9 hm' hf
 have hρ : ρ = ρ1 := hf.2.2.2.eq (by rw [hm'.len, hl]; rfl)
 rw [hρ] at hm' hf
 refine hR ⟨[], n, ⟨g, s, k, sz, sl, of, gp, lt, ea, d⟩, wk, A, m, cap, xs, none⟩ (recP fid tmps D) w9 hm' hf ?_ (by simp [recP]) rfl
 exact ⟨by rw [← h1]; rfl, h2, h3⟩
end Go.Proofs.YthfpekhpeiebjaaGreatDoor
end
