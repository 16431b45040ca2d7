/- Joined texts: ST, SI. -/
import Derived.Test.YthfpekhpeiebjaaGreatDoorTAI
import Derived.Test.YthfpekhpeiebjaaGreatDoorTAK
set_option linter.unusedSimpArgs false
set_option linter.unusedVariables false
namespace Go.Sx
open Go
def zAL0 : List SV := [.agg [.v (.int .i64 0), .v (.int .i64 0), .v (.string (ByteArray.mk #[])), .v (.int .i64 0), .v (.int .i64 0), .v (.int .i64 0), .v (.int .i64 0), .v (.int .i64 0), .v (.int .i64 0), .v (.int IntKind.u32 0)], .v (.bool false)]
def zAL1 : List SV := [.v (.int .i64 0), .v (.int .i64 0), .v (.string (ByteArray.mk #[])), .v (.int .i64 0), .v (.int .i64 0), .v (.int .i64 0), .v (.int .i64 0), .v (.int .i64 0), .v (.int .i64 0), .v (.int IntKind.u32 0)]
def zAL2 : List SV := [.v (.int .i64 1), .v (.int .i64 3), .v (.string (ByteArray.mk #[])), .v (.int .i64 0), .v (.int .i64 0), .v (.int .i64 0), .v (.int .i64 0), .v (.int .i64 0), .v (.int .i64 0), .v (.int IntKind.u32 0)]
def zAL3 : List SV := [.v (.int .i64 3), .v (.int .i64 0), .v (.string (ByteArray.mk #[])), .v (.int .i64 0), .v (.int .i64 0), .v (.int .i64 0), .v (.int .i64 0), .v (.int .i64 0), .v (.int .i64 0), .v (.int IntKind.u32 0)]
def pAL4 : List Nat := [1, 1, 1, 0, 1, 4, 1, 3, 1, 3, 1, 3, 1, 3, 1, 2, 1, 1, 2, 0]
def pAL5 : List Nat := [1, 1, 1, 0, 1, 4, 1, 3, 1, 3, 1, 3, 1, 2, 1, 1, 2, 0]
def pAL6 : List Nat := [1, 1, 1, 0, 1, 4, 1, 3, 1, 3, 1, 3, 1, 3, 1, 2, 1, 0]
def pAL7 : List Nat := [1, 1, 1, 0, 1, 4, 1, 3, 1, 3, 1, 3, 1, 3, 1, 2, 1, 1]
def pAL8 : List Nat := [1, 1, 1, 0, 1, 4, 1, 3, 1, 3, 1, 2, 1, 1, 2, 0]
def pAL9 : List Nat := [1, 1, 1, 0, 1, 4, 1, 3, 1, 2, 1, 1, 2, 0]
def pAL10 : List Nat := [1, 1, 1, 0, 1, 4, 1, 2, 1, 1, 1, 1, 0]
def pAL11 : List Nat := [1, 1, 1, 0, 1, 4, 1, 2, 1, 0, 0]
def pAL12 : List Nat := [1, 1, 1, 0, 1, 4, 1, 2, 1, 0, 1]
def pAL13 : List Nat := [1, 1, 0, 1, 2, 0, 1, 4, 1, 2, 1]
def pAL14 : List Nat := [1, 1, 1, 0, 1, 4, 1, 2, 1, 1]
def pAL15 : List Nat := [1, 1, 1, 1, 0, 0]
def pAL16 : List Nat := [1, 1, 1, 1, 0, 1]
def pAL17 : List Nat := [1, 1, 1, 1, 1]
def pAL18 : List Nat := [1, 1, 1, 1]
end Go.Sx
section
namespace Go.Proofs.YthfpekhpeiebjaaGreatDoor
open Go.RowKit Go.Sx
noncomputable def B30 : Code := (Tryz.f30.body).getD .skip
noncomputable def sq30 (p : List Nat) : Go.Sx.K := .seq (sub B30 p)
theorem cut_cutB : ∀ t : List UInt8, Lib.cut t [32] = cutB t
 | [] => by simp [Lib.cut, Lib.index, cutB]
 | c :: r => by
  have ih := cut_cutB r
  have hg := Lib.index_ge r [32]
  unfold cutB
  by_cases hc : c = 32
  ·subst hc
   have hi : Lib.index (32 :: r) [32] = 0 := by unfold Lib.index; rw [if_pos (by simp [List.isPrefixOf])]
   simp [Lib.cut, hi]
  have hp : List.isPrefixOf [32] (c :: r) = false := by simp [List.isPrefixOf, Ne.symm hc]
  rw [if_neg hc, ← ih]
  by_cases h1 : Lib.index r [32] = -1
  ·have hi : Lib.index (c :: r) [32] = -1 := by unfold Lib.index; rw [if_neg (by simp [hp]), if_pos (by simp [h1])]
   simp [Lib.cut, hi, h1]
  have hi : Lib.index (c :: r) [32] = Lib.index r [32] + 1 := by
   conv => lhs; unfold Lib.index
   rw [if_neg (by simp [hp]), if_neg (by simp [h1])]
  obtain ⟨i, hi2⟩ : ∃ i : Nat, Lib.index r [32] = i := ⟨_, (Int.toNat_of_nonneg (by omega)).symm⟩
  have e1 : ((i : Int) + 1).toNat = i + 1 := by omega
  simp only [Lib.cut, hi, hi2]
  rw [if_pos (by omega), if_pos (by omega), e1]
  simp
theorem cutB_any {t ln rs : List UInt8} {en : Bool} (h : cutB t = (ln, rs, en)) (hs : t.length ≤ 1048576) (w : World) {m : Int} (hm : w.cell? ⟨1, 0, none⟩ = some (.int .i64 m)) :
  Calls Tryz.prog 50 #[.string (mkB t), .string ⟨#[32]⟩] w fun e w' => e = .returned (.tuple #[.string (mkB ln), .string (mkB rs), .bool en]) ∧ Below w.heap.size w w' :=
 (Tryz.strings_Cut (mkB t) ⟨#[32]⟩ m w (by rw [mkB_size]; omega) hm).mono fun e w' hh => by
  obtain ⟨rfl, n, rfl⟩ := hh
  have e1 : Lib.cut (mkB t).data.toList (ByteArray.mk #[32]).data.toList = (ln, rs, en) := (cut_cutB t).trans h
  rw [e1]
  exact ⟨rfl, rfl, rfl, rfl, Nat.le_refl _, fun _ _ => rfl⟩
theorem cutB_len : ∀ t : List UInt8, (cutB t).1.length ≤ t.length ∧ (cutB t).2.1.length ≤ t.length
 | [] => by simp [cutB]
 | c :: r => by
  have ih := cutB_len r
  unfold cutB
  by_cases hc : c = 32
  ·rw [if_pos hc]
   simp
  rw [if_neg hc]
  simp only [List.length_cons]
  exact ⟨by omega, by omega⟩
theorem w_yes {x y : List UInt8} (h : ((mkB x).toList == (mkB y).toList) = true) : x = y := by
 rw [str_beq] at h
 exact of_decide_eq_true h
theorem w_no {x y : List UInt8} (h : ((mkB x).toList == (mkB y).toList) = false) : x ≠ y := by
 rw [str_beq] at h
 exact of_decide_eq_false h
theorem keyK_len {s k q : List UInt8} (h : keyK s = some (k, q)) : q.length ≤ s.length := by
 rw [keyK_iff] at h
 subst h
 simp
def zst : Value := .agg #[.int .i64 0, .int .i64 0, .string ⟨#[]⟩, .int .i64 0, .int .i64 0, .int .i64 0, .int .i64 0, .int .i64 0, .int .i64 0, .int .u32 0]
def stepV : Option St → Value
 | none => .tuple #[zst, .bool false]
 | some x => .tuple #[.agg x.w.toArray, .bool true]
theorem nums_len2 {s : List UInt8} {n : Nat} {l : List Int} (h : numsP s n = some l) : l.length = n := by
 unfold numsP at h
 split at h
 ·rename_i hn
  rw [← hn]
  have key : ∀ (ps : List (List UInt8)) (r : List Int), ps.mapM numK = some r → r.length = ps.length := by
   intro ps
   induction ps with
   | nil => intro r hr; simp at hr; subst hr; rfl
   | cons p ps ih =>
    intro r hr
    simp only [List.mapM_cons] at hr
    cases hp : numK p with
    | none => rw [hp] at hr; cases hr
    | some y =>
     rw [hp] at hr
     cases hq : ps.mapM numK with
     | none => rw [hq] at hr; cases hr
     | some ys =>
      rw [hq] at hr
      injection hr with hr
      subst hr
      simp [ih ys hq]
  exact key _ _ h
 cases h
theorem nums_one {s : List UInt8} {l : List Int} (h : numsP s 1 = some l) : ∃ x, l = [x] := by
 match l, nums_len2 h with
 | [x], _ => exact ⟨x, rfl⟩
theorem nums_two {s : List UInt8} {l : List Int} (h : numsP s 2 = some l) : ∃ x y, l = [x, y] := by
 match l, nums_len2 h with
 | [x, y], _ => exact ⟨x, y, rfl⟩
section
variable {Q : Exit → Act → World → Prop} {N : Nat} {w0 : World} {ntm : Nat} {F : List Nat → World → Prop} [Md]
theorem At.learn {s : S} {p : Prop} (hp : ∀ ρ w, F ρ w → p) (h : p → At Tryz.prog Q N w0 ntm F s) : At Tryz.prog Q N w0 ntm F s := fun ρ a w hi hf => h (hp ρ w hf) ρ a w hi hf
end
set_option maxHeartbeats 20000000 in
set_option maxRecDepth 100000 in
theorem step_any (s : List UInt8) (hs : s.length ≤ 1048576) (w : World) (hw : Wd w) :
  Calls Tryz.prog 30 #[.string (mkB s)] w fun e w' => e = .returned (stepV (stepP s)) ∧ Below w.heap.size w w' := by
 generalize hR : stepP s = R
 obtain ⟨⟨wd, rst, more⟩, hc⟩ : ∃ x, cutB s = x := ⟨_, rfl⟩
 have hcl := cutB_len s
 rw [hc] at hcl
 simp only at hcl
 refine enterF (N := w.heap.size) (F := RowE w (fun _ => False) [] w.heap.size 2 1 none 0 0 [] []) (fn := Tryz.f30) (c := B30) [.so (mkB s)] Tryz.func30 rfl rfl (Nat.le_refl _) ⟨⟨⟨⟨World.ownsRow_nil _ _ _ _, by simp [Value.ownBlock]⟩, Nat.le_refl _⟩, FrameR.start _ [] (by simp), by simp [Value.ownBlock]⟩, by simp⟩ ?_
 refine zI [2, 20] 1 ⟨pops B30 [1, 0] 1, [(sq30 [1, 1])], [(2, .lp 0 0), (20, .so (mkB s))], [(zAL1, 41)]⟩ ?_
 refine zC RowE.stable 50 [.so (mkB s), .v (.string ⟨#[32]⟩)] (.tup [.so (mkB wd), .so (mkB rst), .v (.bool more)]) (fun _ _ w1 hi _ => ?_) ?_
 ·obtain ⟨mm, h3⟩ := (hw.below hi.mem.below).c1
  exact cutB_any hc hs w1 h3
 cases more with
 | false =>
  refine zI [2, 27, 28] 1 ⟨.code (sub B30 [1, 1, 0, 1, 2, 0, 1, 4, 1]), [.block 0, (sq30 [1, 1, 0, 1, 2, 1]), (sq30 [1, 1, 1])], [(2, .lp 0 0), (27, .so (mkB wd)), (28, .bo ((mkB wd).toList == (ByteArray.mk #[115, 97, 118, 101]).toList))], [(zAL1, 41)]⟩ ?_
  rcases zB ((mkB wd).toList == (ByteArray.mk #[115, 97, 118, 101]).toList) with b0 | b0
  ·refine zR 28 b0 ?_
   refine zI [2, 3] 1 ⟨.exit .ret, [], [(2, .lp 0 0), (3, .v (.bool true))], [(zAL2, 41)]⟩ ?_
   refine zE (.tup [.agg zAL2, .v (.bool true)]) ?_
   have e0 : wd = [115, 97, 118, 101] := w_yes (y := [115, 97, 118, 101]) b0
   have hq : stepP s = some sv1 := by simp [stepP, hc, e0]
   intro ρ w9 hm' hf
   exact ⟨by rw [← hR, hq]; rfl, hm'.below⟩
  refine zR 28 b0 ?_
  refine zI [2, 32] 1 ⟨.code (sub B30 [1, 1, 0, 1, 2, 0, 1, 4, 1, 3, 1]), [.block 0, (sq30 [1, 1, 0, 1, 2, 1]), (sq30 [1, 1, 1])], [(2, .lp 0 0), (32, .bo ((mkB wd).toList == (ByteArray.mk #[100, 114, 97, 105, 110]).toList))], [(zAL1, 41)]⟩ ?_
  rcases zB ((mkB wd).toList == (ByteArray.mk #[100, 114, 97, 105, 110]).toList) with b1 | b1
  ·refine zR 32 b1 ?_
   refine zI [2, 3] 1 ⟨.exit .ret, [], [(2, .lp 0 0), (3, .v (.bool true))], [(zAL3, 41)]⟩ ?_
   refine zE (.tup [.agg zAL3, .v (.bool true)]) ?_
   have e0 : wd ≠ [115, 97, 118, 101] := w_no (y := [115, 97, 118, 101]) b0
   have e1 : wd = [100, 114, 97, 105, 110] := w_yes (y := [100, 114, 97, 105, 110]) b1
   have hq : stepP s = some dr := by simp [stepP, hc, e0, e1]
   intro ρ w9 hm' hf
   exact ⟨by rw [← hR, hq]; rfl, hm'.below⟩
  refine zR 32 b1 ?_
  refine zI [2, 3] 1 ⟨.exit .ret, [], [(2, .lp 0 0), (3, .v (.bool false))], [(zAL1, 41)]⟩ ?_
  refine zE (.tup zAL0) ?_
  have e0 : wd ≠ [115, 97, 118, 101] := w_no (y := [115, 97, 118, 101]) b0
  have e1 : wd ≠ [100, 114, 97, 105, 110] := w_no (y := [100, 114, 97, 105, 110]) b1
  have hq : stepP s = none := by simp [stepP, hc, e0, e1]
  intro ρ w9 hm' hf
  exact ⟨by rw [← hR, hq]; rfl, hm'.below⟩
 | true =>
  refine zI [2, 5, 36, 37] 1 ⟨.code (sub B30 [1, 1, 1, 0, 1, 4, 1]), [.block 1, (sq30 pAL18)], [(2, .lp 0 0), (5, .so (mkB rst)), (36, .so (mkB wd)), (37, .bo ((mkB wd).toList == (ByteArray.mk #[101, 118, 101, 110, 116]).toList))], [(zAL1, 41)]⟩ ?_
  rcases zB ((mkB wd).toList == (ByteArray.mk #[101, 118, 101, 110, 116]).toList) with b0 | b0
  ·refine zR 37 b0 ?_
   refine zI [2, 40] 1 ⟨pops B30 [1, 1, 1, 0, 1, 4, 1, 2, 0] 1, [(sq30 [1, 1, 1, 0, 1, 4, 1, 2, 1]), .block 1, (sq30 pAL18)], [(2, .lp 0 0), (40, .so (mkB rst))], [(zAL1, 41)]⟩ ?_
   have e0 : wd = [101, 118, 101, 110, 116] := w_yes (y := [101, 118, 101, 110, 116]) b0
   cases hk : keyK rst with
   | none =>
    refine zC RowE.stable 60 [.so (mkB rst)] (.tup [.v (.string ⟨#[]⟩), .v (.string ⟨#[]⟩), .v (.bool false)]) (fun _ _ w1 hi _ => let ⟨tp, qq, hv⟩ := (hw.below hi.mem.below).v1; (unquote_any rst (by omega) w1 hv).mono fun e w2 h => ⟨h.1.trans (by rw [hk]; rfl), h.2⟩) ?_
    refine zI [2, 3] 1 ⟨.exit .ret, [], [(2, .lp 0 0), (3, .v (.bool false))], [(zAL1, 41)]⟩ ?_
    refine zE (.tup zAL0) ?_
    have hq : stepP s = none := by simp [stepP, hc, e0, hk]
    intro ρ w9 hm' hf
    exact ⟨by rw [← hR, hq]; rfl, hm'.below⟩
   | some kq =>
    obtain ⟨k, q⟩ := kq
    refine zC RowE.stable 60 [.so (mkB rst)] (.tup [.so (mkB k), .so (mkB q), .v (.bool true)]) (fun _ _ w1 hi _ => let ⟨tp, qq, hv⟩ := (hw.below hi.mem.below).v1; (unquote_any rst (by omega) w1 hv).mono fun e w2 h => ⟨h.1.trans (by rw [hk]; rfl), h.2⟩) ?_
    have hql := keyK_len hk
    cases q with
    | nil =>
     refine zI [2, 7, 8, 51] 1 ⟨pops B30 pAL11 7, [(sq30 pAL12), (sq30 pAL14), .block 1, (sq30 pAL18)], [(2, .lp 0 0), (7, .so (mkB k)), (8, .so (mkB [])), (51, .bo true)], [(zAL1, 41)]⟩ ?_
     refine At.res 51 (true) true (by kernel_rfl) (by first | assumption | (simp only [*]; done) | (simp [*]; done)) ?_
     refine zI [2, 3] 1 ⟨.exit .ret, [], [(2, .lp 0 0), (3, .v (.bool false))], [(zAL1, 41)]⟩ ?_
     refine zE (.tup zAL0) ?_
     have hq : stepP s = none := by simp [stepP, hc, e0, hk]
     intro ρ w9 hm' hf
     exact ⟨by rw [← hR, hq]; rfl, hm'.below⟩
    | cons c q =>
     refine zI [2, 7, 8, 51] 1 ⟨pops B30 pAL11 7, [(sq30 pAL12), (sq30 pAL14), .block 1, (sq30 pAL18)], [(2, .lp 0 0), (7, .so (mkB k)), (8, .so (mkB (c :: q))), (51, .bo ((mkB (c :: q)).toList == (ByteArray.mk #[]).toList))], [(zAL1, 41)]⟩ ?_
     rcases zB ((mkB (c :: q)).toList == (ByteArray.mk #[]).toList) with b0 | b0
     ·refine zR 51 b0 ?_
      refine zI [2, 3] 1 ⟨.exit .ret, [], [(2, .lp 0 0), (3, .v (.bool false))], [(zAL1, 41)]⟩ ?_
      refine zE (.tup zAL0) ?_
      cases emp_true b0
     refine zR 51 b0 ?_
     refine zI [2, 7, 8, 51, 52] 1 ⟨pops B30 pAL11 8, [(sq30 pAL12), (sq30 pAL14), .block 1, (sq30 pAL18)], [(2, .lp 0 0), (7, .so (mkB k)), (8, .so (mkB (c :: q))), (51, .v (.bool false)), (52, .so (mkB (c :: q)))], [(zAL1, 41)]⟩ ?_
     have hcl := c.toNat_lt
     refine At.six (mkB (c :: q)) 0 c (by kernel_rfl) (by omega) rfl RowE.stable ?_
     refine zI [2, 7, 8, 55] 1 ⟨.code (sub B30 pAL12), [(sq30 pAL14), .block 1, (sq30 pAL18)], [(2, .lp 0 0), (7, .so (mkB k)), (8, .so (mkB (c :: q))), (55, .bo ((↑c.toNat : Int) != 32))], [(zAL1, 41)]⟩ ?_
     rcases zB ((↑c.toNat : Int) != 32) with b0 | b0
     ·refine zR 55 b0 ?_
      refine zI [2, 3] 1 ⟨.exit .ret, [], [(2, .lp 0 0), (3, .v (.bool false))], [(zAL1, 41)]⟩ ?_
      refine zE (.tup zAL0) ?_
      have hc32 : c ≠ 32 := fun e => by subst e; exact absurd b0 (by decide)
      have hq : stepP s = none := by simp [stepP, hc, e0, hk, hc32]
      intro ρ w9 hm' hf
      exact ⟨by rw [← hR, hq]; rfl, hm'.below⟩
     refine zR 55 b0 ?_
     refine zI [2, 7, 58] 1 ⟨pops B30 [1, 1, 1, 0, 1, 4, 1, 2, 1, 1, 0] 1, [(sq30 [1, 1, 1, 0, 1, 4, 1, 2, 1, 1, 1]), .block 1, (sq30 pAL18)], [(2, .lp 0 0), (7, .so (mkB k)), (58, .so (mkB (c :: q)))], [(zAL1, 41)]⟩ ?_
     have hc32 : c = 32 := UInt8.toNat_inj.1 (by simp at b0; show c.toNat = 32; omega)
     subst hc32
     refine sslW (32 :: q) 1 q rfl (by kernel_rfl) (by simp) RowE.stable ?_
     refine zI [2, 7, 59] 1 ⟨pops B30 [1, 1, 1, 0, 1, 4, 1, 2, 1, 1, 0] 2, [(sq30 [1, 1, 1, 0, 1, 4, 1, 2, 1, 1, 1]), .block 1, (sq30 pAL18)], [(2, .lp 0 0), (7, .so (mkB k)), (59, .so (mkB q))], [(zAL1, 41)]⟩ ?_
     cases hnp : numsP q 2 with
     | none =>
      refine zC RowE.stable 29 [.so (mkB q), .v (.int .i64 2)] (.tup [.v (.slice none 0 0), .v (.bool false)]) (fun _ _ w1 hi _ => numbers_none q 2 (by decide) (by simp only [List.length_cons] at hql; omega) hnp w1 (hw.below hi.mem.below)) ?_
      refine zI [2, 3] 1 ⟨.exit .ret, [], [(2, .lp 0 0), (3, .v (.bool false))], [(zAL1, 41)]⟩ ?_
      refine zE (.tup zAL0) ?_
      have hq : stepP s = none := by simp [stepP, hc, e0, hk, hnp]
      intro ρ w9 hm' hf
      exact ⟨by rw [← hR, hq]; rfl, hm'.below⟩
     | some l1 =>
      obtain ⟨x0, x1, rfl⟩ := nums_two hnp
      refine At.mkrowE 29 [.so (mkB q), .v (.int .i64 2)] (fun A' n' c' => .tup [.sl A' n' c', .v (.bool true)]) [.int .i64 x0, .int .i64 x1] (by kernel_rfl) (by kernel_rfl) (by kernel_rfl) (by kernel_rfl) (by kernel_rfl) (by simp) (fun ρ w1 hm' hf => (numbers_some q 2 (by decide) [x0, x1] (by simp only [List.length_cons] at hql; omega) hnp w1 (hw.below hm'.below)).mono fun e w' ⟨A', c', h1, h2⟩ => ⟨A', 2, c', h1, h2⟩) ?_
      intro A1 n1 c1
      refine At.pure fun ⟨hn1, hc1⟩ => ?_
      obtain rfl : n1 = 2 := by simpa using hn1.symm
      clear hn1 hc1
      refine At.learn (p := ∃ b, A1 = some ⟨b, 0, none⟩) (fun ρ w1 hf => let ⟨b, h, _⟩ := hf.2 _ (List.mem_singleton.2 rfl); ⟨b, h⟩) ?_
      rintro ⟨b1, rfl⟩
      refine zI [2, 10, 66, 67] 1 ⟨.qops (opsOf (sub B30 pAL10)) (((opsOf (sub B30 pAL10)).toList.take 9).drop 2), [.tail (opsOf (sub B30 pAL10)) ((opsOf (sub B30 pAL10)).toList.drop 9), (sq30 pAL13), .block 1, (sq30 pAL18)], [(2, .lp 0 0), (10, .sl (some (Addr.mk b1 0 none)) 2 c1), (66, .so (mkB k)), (67, .sl (some (Addr.mk b1 0 none)) 2 c1)], [(zAL1, 41)]⟩ ?_
      refine At.idx ⟨b1, 0, none⟩ 2 1 0 (by kernel_rfl) (by omega) (by omega) RowE.stable ?_
      refine zI [2, 10, 66, 68] 1 ⟨.qops (opsOf (sub B30 pAL10)) (((opsOf (sub B30 pAL10)).toList.take 9).drop 3), [.tail (opsOf (sub B30 pAL10)) ((opsOf (sub B30 pAL10)).toList.drop 9), (sq30 pAL13), .block 1, (sq30 pAL18)], [(2, .lp 0 0), (10, .sl (some (Addr.mk b1 0 none)) 2 c1), (66, .so (mkB k)), (68, .v (.pointer (some (Addr.mk b1 0 none))))], [(zAL1, 41)]⟩ ?_
      refine At.ldx ((⟨b1, 0, none⟩ : Addr).add ((0 : Int).toNat * 1)) (.io .i64 x0) (by kernel_rfl) RowE.stable (fun ρ w1 hm' hf => ent_src (hf.2 _ (List.mem_singleton.2 rfl)) 0 _ rfl) ?_
      refine zI [2, 66, 69, 70] 1 ⟨.qops (opsOf (sub B30 pAL10)) (((opsOf (sub B30 pAL10)).toList.take 9).drop 5), [.tail (opsOf (sub B30 pAL10)) ((opsOf (sub B30 pAL10)).toList.drop 9), (sq30 pAL13), .block 1, (sq30 pAL18)], [(2, .lp 0 0), (66, .so (mkB k)), (69, .io .i64 x0), (70, .sl (some (Addr.mk b1 0 none)) 2 c1)], [(zAL1, 41)]⟩ ?_
      refine At.idx ⟨b1, 0, none⟩ 2 1 1 (by kernel_rfl) (by omega) (by omega) RowE.stable ?_
      refine zI [2, 66, 69, 71] 1 ⟨.qops (opsOf (sub B30 pAL10)) (((opsOf (sub B30 pAL10)).toList.take 9).drop 6), [.tail (opsOf (sub B30 pAL10)) ((opsOf (sub B30 pAL10)).toList.drop 9), (sq30 pAL13), .block 1, (sq30 pAL18)], [(2, .lp 0 0), (66, .so (mkB k)), (69, .io .i64 x0), (71, .v (.pointer (some (Addr.mk b1 1 none))))], [(zAL1, 41)]⟩ ?_
      refine At.ldx ((⟨b1, 0, none⟩ : Addr).add ((1 : Int).toNat * 1)) (.io .i64 x1) (by kernel_rfl) RowE.stable (fun ρ w1 hm' hf => ent_src (hf.2 _ (List.mem_singleton.2 rfl)) 1 _ rfl) ?_
      refine zI [2, 3] 1 ⟨.exit .ret, [], [(2, .lp 0 0), (3, .v (.bool true))], [([.v (.int .i64 1), .v (.int .i64 1), .so (mkB k), .io .i64 x0, .io .i64 x1, .v (.int .i64 0), .v (.int .i64 0), .v (.int .i64 0), .v (.int .i64 0), .v (.int IntKind.u32 0)], 41)]⟩ ?_
      refine zE (.tup [.agg [.v (.int .i64 1), .v (.int .i64 1), .so (mkB k), .io .i64 x0, .io .i64 x1, .v (.int .i64 0), .v (.int .i64 0), .v (.int .i64 0), .v (.int .i64 0), .v (.int IntKind.u32 0)], .v (.bool true)]) ?_
      have hq : stepP s = some (ev k x0 x1) := by simp [stepP, hc, e0, hk, hnp]
      intro ρ w9 hm' hf
      exact ⟨by rw [← hR, hq]; rfl, hm'.below⟩
  refine zR 37 b0 ?_
  refine zI [2, 5, 36, 75] 1 ⟨.code (sub B30 [1, 1, 1, 0, 1, 4, 1, 3, 1]), [.block 1, (sq30 pAL18)], [(2, .lp 0 0), (5, .so (mkB rst)), (36, .so (mkB wd)), (75, .bo ((mkB wd).toList == (ByteArray.mk #[109, 97, 114, 107]).toList))], [(zAL1, 41)]⟩ ?_
  rcases zB ((mkB wd).toList == (ByteArray.mk #[109, 97, 114, 107]).toList) with b1 | b1
  ·refine zR 75 b1 ?_
   refine zI [2, 78] 1 ⟨pops B30 [1, 1, 1, 0, 1, 4, 1, 3, 1, 2, 0] 1, [(sq30 [1, 1, 1, 0, 1, 4, 1, 3, 1, 2, 1]), .block 1, (sq30 pAL18)], [(2, .lp 0 0), (78, .so (mkB rst))], [(zAL1, 41)]⟩ ?_
   have e0 : wd ≠ [101, 118, 101, 110, 116] := w_no (y := [101, 118, 101, 110, 116]) b0
   have e1 : wd = [109, 97, 114, 107] := w_yes (y := [109, 97, 114, 107]) b1
   cases hnp : numsP rst 2 with
   | none =>
    refine zC RowE.stable 29 [.so (mkB rst), .v (.int .i64 2)] (.tup [.v (.slice none 0 0), .v (.bool false)]) (fun _ _ w1 hi _ => numbers_none rst 2 (by decide) (by omega) hnp w1 (hw.below hi.mem.below)) ?_
    refine zI [2, 3] 1 ⟨.exit .ret, [], [(2, .lp 0 0), (3, .v (.bool false))], [(zAL1, 41)]⟩ ?_
    refine zE (.tup zAL0) ?_
    have hq : stepP s = none := by simp [stepP, hc, e0, e1, hnp]
    intro ρ w9 hm' hf
    exact ⟨by rw [← hR, hq]; rfl, hm'.below⟩
   | some l1 =>
    obtain ⟨x0, x1, rfl⟩ := nums_two hnp
    refine At.mkrowE 29 [.so (mkB rst), .v (.int .i64 2)] (fun A' n' c' => .tup [.sl A' n' c', .v (.bool true)]) [.int .i64 x0, .int .i64 x1] (by kernel_rfl) (by kernel_rfl) (by kernel_rfl) (by kernel_rfl) (by kernel_rfl) (by simp) (fun ρ w1 hm' hf => (numbers_some rst 2 (by decide) [x0, x1] (by omega) hnp w1 (hw.below hm'.below)).mono fun e w' ⟨A', c', h1, h2⟩ => ⟨A', 2, c', h1, h2⟩) ?_
    intro A1 n1 c1
    refine At.pure fun ⟨hn1, hc1⟩ => ?_
    obtain rfl : n1 = 2 := by simpa using hn1.symm
    clear hn1 hc1
    refine At.learn (p := ∃ b, A1 = some ⟨b, 0, none⟩) (fun ρ w1 hf => let ⟨b, h, _⟩ := hf.2 _ (List.mem_singleton.2 rfl); ⟨b, h⟩) ?_
    rintro ⟨b1, rfl⟩
    refine zI [2, 11, 83] 1 ⟨.qops (opsOf (sub B30 pAL9)) (((opsOf (sub B30 pAL9)).toList.take 8).drop 1), [.tail (opsOf (sub B30 pAL9)) ((opsOf (sub B30 pAL9)).toList.drop 8), (sq30 pAL13), .block 1, (sq30 pAL18)], [(2, .lp 0 0), (11, .sl (some (Addr.mk b1 0 none)) 2 c1), (83, .sl (some (Addr.mk b1 0 none)) 2 c1)], [(zAL1, 41)]⟩ ?_
    refine At.idx ⟨b1, 0, none⟩ 2 1 0 (by kernel_rfl) (by omega) (by omega) RowE.stable ?_
    refine zI [2, 11, 84] 1 ⟨.qops (opsOf (sub B30 pAL9)) (((opsOf (sub B30 pAL9)).toList.take 8).drop 2), [.tail (opsOf (sub B30 pAL9)) ((opsOf (sub B30 pAL9)).toList.drop 8), (sq30 pAL13), .block 1, (sq30 pAL18)], [(2, .lp 0 0), (11, .sl (some (Addr.mk b1 0 none)) 2 c1), (84, .v (.pointer (some (Addr.mk b1 0 none))))], [(zAL1, 41)]⟩ ?_
    refine At.ldx ((⟨b1, 0, none⟩ : Addr).add ((0 : Int).toNat * 1)) (.io .i64 x0) (by kernel_rfl) RowE.stable (fun ρ w1 hm' hf => ent_src (hf.2 _ (List.mem_singleton.2 rfl)) 0 _ rfl) ?_
    refine zI [2, 85, 86] 1 ⟨.qops (opsOf (sub B30 pAL9)) (((opsOf (sub B30 pAL9)).toList.take 8).drop 4), [.tail (opsOf (sub B30 pAL9)) ((opsOf (sub B30 pAL9)).toList.drop 8), (sq30 pAL13), .block 1, (sq30 pAL18)], [(2, .lp 0 0), (85, .io .i64 x0), (86, .sl (some (Addr.mk b1 0 none)) 2 c1)], [(zAL1, 41)]⟩ ?_
    refine At.idx ⟨b1, 0, none⟩ 2 1 1 (by kernel_rfl) (by omega) (by omega) RowE.stable ?_
    refine zI [2, 85, 87] 1 ⟨.qops (opsOf (sub B30 pAL9)) (((opsOf (sub B30 pAL9)).toList.take 8).drop 5), [.tail (opsOf (sub B30 pAL9)) ((opsOf (sub B30 pAL9)).toList.drop 8), (sq30 pAL13), .block 1, (sq30 pAL18)], [(2, .lp 0 0), (85, .io .i64 x0), (87, .v (.pointer (some (Addr.mk b1 1 none))))], [(zAL1, 41)]⟩ ?_
    refine At.ldx ((⟨b1, 0, none⟩ : Addr).add ((1 : Int).toNat * 1)) (.io .i64 x1) (by kernel_rfl) RowE.stable (fun ρ w1 hm' hf => ent_src (hf.2 _ (List.mem_singleton.2 rfl)) 1 _ rfl) ?_
    refine zI [2, 3] 1 ⟨.exit .ret, [], [(2, .lp 0 0), (3, .v (.bool true))], [([.v (.int .i64 1), .v (.int .i64 2), .v (.string (ByteArray.mk #[])), .io .i64 x1, .v (.int .i64 0), .io .i64 x0, .v (.int .i64 0), .v (.int .i64 0), .v (.int .i64 0), .v (.int IntKind.u32 0)], 41)]⟩ ?_
    refine zE (.tup [.agg [.v (.int .i64 1), .v (.int .i64 2), .v (.string (ByteArray.mk #[])), .io .i64 x1, .v (.int .i64 0), .io .i64 x0, .v (.int .i64 0), .v (.int .i64 0), .v (.int .i64 0), .v (.int IntKind.u32 0)], .v (.bool true)]) ?_
    have hq : stepP s = some (mk x0 x1) := by simp [stepP, hc, e0, e1, hnp]
    intro ρ w9 hm' hf
    exact ⟨by rw [← hR, hq]; rfl, hm'.below⟩
  refine zR 75 b1 ?_
  refine zI [2, 5, 36, 91] 1 ⟨.code (sub B30 [1, 1, 1, 0, 1, 4, 1, 3, 1, 3, 1]), [.block 1, (sq30 pAL18)], [(2, .lp 0 0), (5, .so (mkB rst)), (36, .so (mkB wd)), (91, .bo ((mkB wd).toList == (ByteArray.mk #[112, 105, 99, 107]).toList))], [(zAL1, 41)]⟩ ?_
  rcases zB ((mkB wd).toList == (ByteArray.mk #[112, 105, 99, 107]).toList) with b2 | b2
  ·refine zR 91 b2 ?_
   refine zI [2, 94] 1 ⟨pops B30 [1, 1, 1, 0, 1, 4, 1, 3, 1, 3, 1, 2, 0] 1, [(sq30 [1, 1, 1, 0, 1, 4, 1, 3, 1, 3, 1, 2, 1]), .block 1, (sq30 pAL18)], [(2, .lp 0 0), (94, .so (mkB rst))], [(zAL1, 41)]⟩ ?_
   have e0 : wd ≠ [101, 118, 101, 110, 116] := w_no (y := [101, 118, 101, 110, 116]) b0
   have e1 : wd ≠ [109, 97, 114, 107] := w_no (y := [109, 97, 114, 107]) b1
   have e2 : wd = [112, 105, 99, 107] := w_yes (y := [112, 105, 99, 107]) b2
   cases hnp : numsP rst 1 with
   | none =>
    refine zC RowE.stable 29 [.so (mkB rst), .v (.int .i64 1)] (.tup [.v (.slice none 0 0), .v (.bool false)]) (fun _ _ w1 hi _ => numbers_none rst 1 (by decide) (by omega) hnp w1 (hw.below hi.mem.below)) ?_
    refine zI [2, 3] 1 ⟨.exit .ret, [], [(2, .lp 0 0), (3, .v (.bool false))], [(zAL1, 41)]⟩ ?_
    refine zE (.tup zAL0) ?_
    have hq : stepP s = none := by simp [stepP, hc, e0, e1, e2, hnp]
    intro ρ w9 hm' hf
    exact ⟨by rw [← hR, hq]; rfl, hm'.below⟩
   | some l1 =>
    obtain ⟨x0, rfl⟩ := nums_one hnp
    refine At.mkrowE 29 [.so (mkB rst), .v (.int .i64 1)] (fun A' n' c' => .tup [.sl A' n' c', .v (.bool true)]) [.int .i64 x0] (by kernel_rfl) (by kernel_rfl) (by kernel_rfl) (by kernel_rfl) (by kernel_rfl) (by simp) (fun ρ w1 hm' hf => (numbers_some rst 1 (by decide) [x0] (by omega) hnp w1 (hw.below hm'.below)).mono fun e w' ⟨A', c', h1, h2⟩ => ⟨A', 1, c', h1, h2⟩) ?_
    intro A1 n1 c1
    refine At.pure fun ⟨hn1, hc1⟩ => ?_
    obtain rfl : n1 = 1 := by simpa using hn1.symm
    clear hn1 hc1
    refine At.learn (p := ∃ b, A1 = some ⟨b, 0, none⟩) (fun ρ w1 hf => let ⟨b, h, _⟩ := hf.2 _ (List.mem_singleton.2 rfl); ⟨b, h⟩) ?_
    rintro ⟨b1, rfl⟩
    refine zI [2, 99] 1 ⟨pops B30 pAL8 1, [(sq30 pAL13), .block 1, (sq30 pAL18)], [(2, .lp 0 0), (99, .sl (some (Addr.mk b1 0 none)) 1 c1)], [(zAL1, 41)]⟩ ?_
    refine At.idx ⟨b1, 0, none⟩ 1 1 0 (by kernel_rfl) (by omega) (by omega) RowE.stable ?_
    refine zI [2, 100] 1 ⟨pops B30 pAL8 2, [(sq30 pAL13), .block 1, (sq30 pAL18)], [(2, .lp 0 0), (100, .v (.pointer (some (Addr.mk b1 0 none))))], [(zAL1, 41)]⟩ ?_
    refine At.ldx ((⟨b1, 0, none⟩ : Addr).add ((0 : Int).toNat * 1)) (.io .i64 x0) (by kernel_rfl) RowE.stable (fun ρ w1 hm' hf => ent_src (hf.2 _ (List.mem_singleton.2 rfl)) 0 _ rfl) ?_
    refine zI [2, 3] 1 ⟨.exit .ret, [], [(2, .lp 0 0), (3, .v (.bool true))], [([.v (.int .i64 2), .v (.int .i64 0), .v (.string (ByteArray.mk #[])), .v (.int .i64 0), .v (.int .i64 0), .v (.int .i64 0), .io .i64 x0, .v (.int .i64 0), .v (.int .i64 0), .v (.int IntKind.u32 0)], 41)]⟩ ?_
    refine zE (.tup [.agg [.v (.int .i64 2), .v (.int .i64 0), .v (.string (ByteArray.mk #[])), .v (.int .i64 0), .v (.int .i64 0), .v (.int .i64 0), .io .i64 x0, .v (.int .i64 0), .v (.int .i64 0), .v (.int IntKind.u32 0)], .v (.bool true)]) ?_
    have hq : stepP s = some (pk x0) := by simp [stepP, hc, e0, e1, e2, hnp]
    intro ρ w9 hm' hf
    exact ⟨by rw [← hR, hq]; rfl, hm'.below⟩
  refine zR 91 b2 ?_
  refine zI [2, 5, 36, 103] 1 ⟨.code (sub B30 [1, 1, 1, 0, 1, 4, 1, 3, 1, 3, 1, 3, 1]), [.block 1, (sq30 pAL18)], [(2, .lp 0 0), (5, .so (mkB rst)), (36, .so (mkB wd)), (103, .bo ((mkB wd).toList == (ByteArray.mk #[114, 101, 115, 116, 111, 114, 101]).toList))], [(zAL1, 41)]⟩ ?_
  rcases zB ((mkB wd).toList == (ByteArray.mk #[114, 101, 115, 116, 111, 114, 101]).toList) with b3 | b3
  ·refine zR 103 b3 ?_
   refine zI [2, 106] 1 ⟨pops B30 [1, 1, 1, 0, 1, 4, 1, 3, 1, 3, 1, 3, 1, 2, 0] 1, [(sq30 [1, 1, 1, 0, 1, 4, 1, 3, 1, 3, 1, 3, 1, 2, 1]), .block 1, (sq30 pAL18)], [(2, .lp 0 0), (106, .so (mkB rst))], [(zAL1, 41)]⟩ ?_
   have e0 : wd ≠ [101, 118, 101, 110, 116] := w_no (y := [101, 118, 101, 110, 116]) b0
   have e1 : wd ≠ [109, 97, 114, 107] := w_no (y := [109, 97, 114, 107]) b1
   have e2 : wd ≠ [112, 105, 99, 107] := w_no (y := [112, 105, 99, 107]) b2
   have e3 : wd = [114, 101, 115, 116, 111, 114, 101] := w_yes (y := [114, 101, 115, 116, 111, 114, 101]) b3
   cases hnp : numsP rst 1 with
   | none =>
    refine zC RowE.stable 29 [.so (mkB rst), .v (.int .i64 1)] (.tup [.v (.slice none 0 0), .v (.bool false)]) (fun _ _ w1 hi _ => numbers_none rst 1 (by decide) (by omega) hnp w1 (hw.below hi.mem.below)) ?_
    refine zI [2, 3] 1 ⟨.exit .ret, [], [(2, .lp 0 0), (3, .v (.bool false))], [(zAL1, 41)]⟩ ?_
    refine zE (.tup zAL0) ?_
    have hq : stepP s = none := by simp [stepP, hc, e0, e1, e2, e3, hnp]
    intro ρ w9 hm' hf
    exact ⟨by rw [← hR, hq]; rfl, hm'.below⟩
   | some l1 =>
    obtain ⟨x0, rfl⟩ := nums_one hnp
    refine At.mkrowE 29 [.so (mkB rst), .v (.int .i64 1)] (fun A' n' c' => .tup [.sl A' n' c', .v (.bool true)]) [.int .i64 x0] (by kernel_rfl) (by kernel_rfl) (by kernel_rfl) (by kernel_rfl) (by kernel_rfl) (by simp) (fun ρ w1 hm' hf => (numbers_some rst 1 (by decide) [x0] (by omega) hnp w1 (hw.below hm'.below)).mono fun e w' ⟨A', c', h1, h2⟩ => ⟨A', 1, c', h1, h2⟩) ?_
    intro A1 n1 c1
    refine At.pure fun ⟨hn1, hc1⟩ => ?_
    obtain rfl : n1 = 1 := by simpa using hn1.symm
    clear hn1 hc1
    refine At.learn (p := ∃ b, A1 = some ⟨b, 0, none⟩) (fun ρ w1 hf => let ⟨b, h, _⟩ := hf.2 _ (List.mem_singleton.2 rfl); ⟨b, h⟩) ?_
    rintro ⟨b1, rfl⟩
    refine zI [2, 111] 1 ⟨pops B30 pAL5 1, [(sq30 pAL13), .block 1, (sq30 pAL18)], [(2, .lp 0 0), (111, .sl (some (Addr.mk b1 0 none)) 1 c1)], [(zAL1, 41)]⟩ ?_
    refine At.idx ⟨b1, 0, none⟩ 1 1 0 (by kernel_rfl) (by omega) (by omega) RowE.stable ?_
    refine zI [2, 112] 1 ⟨pops B30 pAL5 2, [(sq30 pAL13), .block 1, (sq30 pAL18)], [(2, .lp 0 0), (112, .v (.pointer (some (Addr.mk b1 0 none))))], [(zAL1, 41)]⟩ ?_
    refine At.ldx ((⟨b1, 0, none⟩ : Addr).add ((0 : Int).toNat * 1)) (.io .i64 x0) (by kernel_rfl) RowE.stable (fun ρ w1 hm' hf => ent_src (hf.2 _ (List.mem_singleton.2 rfl)) 0 _ rfl) ?_
    refine zI [2, 3] 1 ⟨.exit .ret, [], [(2, .lp 0 0), (3, .v (.bool true))], [([.v (.int .i64 4), .v (.int .i64 0), .v (.string (ByteArray.mk #[])), .v (.int .i64 0), .v (.int .i64 0), .v (.int .i64 0), .v (.int .i64 0), .io .i64 x0, .v (.int .i64 0), .v (.int IntKind.u32 0)], 41)]⟩ ?_
    refine zE (.tup [.agg [.v (.int .i64 4), .v (.int .i64 0), .v (.string (ByteArray.mk #[])), .v (.int .i64 0), .v (.int .i64 0), .v (.int .i64 0), .v (.int .i64 0), .io .i64 x0, .v (.int .i64 0), .v (.int IntKind.u32 0)], .v (.bool true)]) ?_
    have hq : stepP s = some (rs x0) := by simp [stepP, hc, e0, e1, e2, e3, hnp]
    intro ρ w9 hm' hf
    exact ⟨by rw [← hR, hq]; rfl, hm'.below⟩
  refine zR 103 b3 ?_
  refine zI [2, 5, 115] 1 ⟨.code (sub B30 [1, 1, 1, 0, 1, 4, 1, 3, 1, 3, 1, 3, 1, 3, 1]), [.block 1, (sq30 pAL18)], [(2, .lp 0 0), (5, .so (mkB rst)), (115, .bo ((mkB wd).toList == (ByteArray.mk #[115, 112, 111, 105, 108]).toList))], [(zAL1, 41)]⟩ ?_
  rcases zB ((mkB wd).toList == (ByteArray.mk #[115, 112, 111, 105, 108]).toList) with b4 | b4
  ·refine zR 115 b4 ?_
   refine zI [2, 118] 1 ⟨pops B30 [1, 1, 1, 0, 1, 4, 1, 3, 1, 3, 1, 3, 1, 3, 1, 2, 0] 1, [(sq30 [1, 1, 1, 0, 1, 4, 1, 3, 1, 3, 1, 3, 1, 3, 1, 2, 1]), .block 1, (sq30 pAL18)], [(2, .lp 0 0), (118, .so (mkB rst))], [(zAL1, 41)]⟩ ?_
   have e0 : wd ≠ [101, 118, 101, 110, 116] := w_no (y := [101, 118, 101, 110, 116]) b0
   have e1 : wd ≠ [109, 97, 114, 107] := w_no (y := [109, 97, 114, 107]) b1
   have e2 : wd ≠ [112, 105, 99, 107] := w_no (y := [112, 105, 99, 107]) b2
   have e3 : wd ≠ [114, 101, 115, 116, 111, 114, 101] := w_no (y := [114, 101, 115, 116, 111, 114, 101]) b3
   have e4 : wd = [115, 112, 111, 105, 108] := w_yes (y := [115, 112, 111, 105, 108]) b4
   cases hnp : numsP rst 2 with
   | none =>
    refine zC RowE.stable 29 [.so (mkB rst), .v (.int .i64 2)] (.tup [.v (.slice none 0 0), .v (.bool false)]) (fun _ _ w1 hi _ => numbers_none rst 2 (by decide) (by omega) hnp w1 (hw.below hi.mem.below)) ?_
    refine zI [2, 3] 1 ⟨.exit .ret, [], [(2, .lp 0 0), (3, .v (.bool false))], [(zAL1, 41)]⟩ ?_
    refine zE (.tup zAL0) ?_
    have hq : stepP s = none := by simp [stepP, hc, e0, e1, e2, e3, e4, hnp]
    intro ρ w9 hm' hf
    exact ⟨by rw [← hR, hq]; rfl, hm'.below⟩
   | some l1 =>
    obtain ⟨x0, x1, rfl⟩ := nums_two hnp
    refine At.mkrowE 29 [.so (mkB rst), .v (.int .i64 2)] (fun A' n' c' => .tup [.sl A' n' c', .v (.bool true)]) [.int .i64 x0, .int .i64 x1] (by kernel_rfl) (by kernel_rfl) (by kernel_rfl) (by kernel_rfl) (by kernel_rfl) (by simp) (fun ρ w1 hm' hf => (numbers_some rst 2 (by decide) [x0, x1] (by omega) hnp w1 (hw.below hm'.below)).mono fun e w' ⟨A', c', h1, h2⟩ => ⟨A', 2, c', h1, h2⟩) ?_
    intro A1 n1 c1
    refine At.pure fun ⟨hn1, hc1⟩ => ?_
    obtain rfl : n1 = 2 := by simpa using hn1.symm
    clear hn1 hc1
    refine At.learn (p := ∃ b, A1 = some ⟨b, 0, none⟩) (fun ρ w1 hf => let ⟨b, h, _⟩ := hf.2 _ (List.mem_singleton.2 rfl); ⟨b, h⟩) ?_
    rintro ⟨b1, rfl⟩
    refine zI [2, 17, 123, 124] 1 ⟨pops B30 pAL6 3, [(sq30 pAL7), .block 1, (sq30 pAL18)], [(2, .lp 0 0), (17, .sl (some (Addr.mk b1 0 none)) 2 c1), (123, .v (.bool true)), (124, .sl (some (Addr.mk b1 0 none)) 2 c1)], [(zAL1, 41)]⟩ ?_
    refine At.idx ⟨b1, 0, none⟩ 2 1 1 (by kernel_rfl) (by omega) (by omega) RowE.stable ?_
    refine zI [2, 17, 123, 125] 1 ⟨pops B30 pAL6 4, [(sq30 pAL7), .block 1, (sq30 pAL18)], [(2, .lp 0 0), (17, .sl (some (Addr.mk b1 0 none)) 2 c1), (123, .v (.bool true)), (125, .v (.pointer (some (Addr.mk b1 1 none))))], [(zAL1, 41)]⟩ ?_
    refine At.ldx ((⟨b1, 0, none⟩ : Addr).add ((1 : Int).toNat * 1)) (.io .i64 x1) (by kernel_rfl) RowE.stable (fun ρ w1 hm' hf => ent_src (hf.2 _ (List.mem_singleton.2 rfl)) 1 _ rfl) ?_
    refine zI [2, 17, 129] 1 ⟨pops B30 pAL6 8, [(sq30 pAL7), .block 1, (sq30 pAL18)], [(2, .lp 0 0), (17, .sl (some (Addr.mk b1 0 none)) 2 c1), (129, .bo (decide (x1 ≥ 0)))], [(zAL1, 41)]⟩ ?_
    rcases zB (decide (x1 ≥ 0)) with b0 | b0
    ·refine zR 129 b0 ?_
     refine zI [2, 17, 129, 130] 1 ⟨pops B30 pAL6 9, [(sq30 pAL7), .block 1, (sq30 pAL18)], [(2, .lp 0 0), (17, .sl (some (Addr.mk b1 0 none)) 2 c1), (129, .v (.bool true)), (130, .sl (some (Addr.mk b1 0 none)) 2 c1)], [(zAL1, 41)]⟩ ?_
     refine At.idx ⟨b1, 0, none⟩ 2 1 1 (by kernel_rfl) (by omega) (by omega) RowE.stable ?_
     refine zI [2, 17, 129, 131] 1 ⟨pops B30 pAL6 10, [(sq30 pAL7), .block 1, (sq30 pAL18)], [(2, .lp 0 0), (17, .sl (some (Addr.mk b1 0 none)) 2 c1), (129, .v (.bool true)), (131, .v (.pointer (some (Addr.mk b1 1 none))))], [(zAL1, 41)]⟩ ?_
     refine At.ldx ((⟨b1, 0, none⟩ : Addr).add ((1 : Int).toNat * 1)) (.io .i64 x1) (by kernel_rfl) RowE.stable (fun ρ w1 hm' hf => ent_src (hf.2 _ (List.mem_singleton.2 rfl)) 1 _ rfl) ?_
     refine zI [2, 17, 134] 1 ⟨.code (sub B30 pAL7), [.block 1, (sq30 pAL18)], [(2, .lp 0 0), (17, .sl (some (Addr.mk b1 0 none)) 2 c1), (134, .bo (decide (x1 < 4294967296)))], [(zAL1, 41)]⟩ ?_
     rcases zB (decide (x1 < 4294967296)) with b0 | b0
     ·refine zR 134 b0 ?_
      refine zI [2, 17, 135] 1 ⟨.qops (opsOf (sub B30 pAL4)) (((opsOf (sub B30 pAL4)).toList.take 8).drop 1), [.tail (opsOf (sub B30 pAL4)) ((opsOf (sub B30 pAL4)).toList.drop 8), (sq30 pAL13), .block 1, (sq30 pAL18)], [(2, .lp 0 0), (17, .sl (some (Addr.mk b1 0 none)) 2 c1), (135, .sl (some (Addr.mk b1 0 none)) 2 c1)], [(zAL1, 41)]⟩ ?_
      refine At.idx ⟨b1, 0, none⟩ 2 1 0 (by kernel_rfl) (by omega) (by omega) RowE.stable ?_
      refine zI [2, 17, 136] 1 ⟨.qops (opsOf (sub B30 pAL4)) (((opsOf (sub B30 pAL4)).toList.take 8).drop 2), [.tail (opsOf (sub B30 pAL4)) ((opsOf (sub B30 pAL4)).toList.drop 8), (sq30 pAL13), .block 1, (sq30 pAL18)], [(2, .lp 0 0), (17, .sl (some (Addr.mk b1 0 none)) 2 c1), (136, .v (.pointer (some (Addr.mk b1 0 none))))], [(zAL1, 41)]⟩ ?_
      refine At.ldx ((⟨b1, 0, none⟩ : Addr).add ((0 : Int).toNat * 1)) (.io .i64 x0) (by kernel_rfl) RowE.stable (fun ρ w1 hm' hf => ent_src (hf.2 _ (List.mem_singleton.2 rfl)) 0 _ rfl) ?_
      refine zI [2, 137, 138] 1 ⟨.qops (opsOf (sub B30 pAL4)) (((opsOf (sub B30 pAL4)).toList.take 8).drop 4), [.tail (opsOf (sub B30 pAL4)) ((opsOf (sub B30 pAL4)).toList.drop 8), (sq30 pAL13), .block 1, (sq30 pAL18)], [(2, .lp 0 0), (137, .io .i64 x0), (138, .sl (some (Addr.mk b1 0 none)) 2 c1)], [(zAL1, 41)]⟩ ?_
      refine At.idx ⟨b1, 0, none⟩ 2 1 1 (by kernel_rfl) (by omega) (by omega) RowE.stable ?_
      refine zI [2, 137, 139] 1 ⟨.qops (opsOf (sub B30 pAL4)) (((opsOf (sub B30 pAL4)).toList.take 8).drop 5), [.tail (opsOf (sub B30 pAL4)) ((opsOf (sub B30 pAL4)).toList.drop 8), (sq30 pAL13), .block 1, (sq30 pAL18)], [(2, .lp 0 0), (137, .io .i64 x0), (139, .v (.pointer (some (Addr.mk b1 1 none))))], [(zAL1, 41)]⟩ ?_
      refine At.ldx ((⟨b1, 0, none⟩ : Addr).add ((1 : Int).toNat * 1)) (.io .i64 x1) (by kernel_rfl) RowE.stable (fun ρ w1 hm' hf => ent_src (hf.2 _ (List.mem_singleton.2 rfl)) 1 _ rfl) ?_
      refine zI [2, 3] 1 ⟨.exit .ret, [], [(2, .lp 0 0), (3, .v (.bool true))], [([.v (.int .i64 5), .v (.int .i64 0), .v (.string (ByteArray.mk #[])), .v (.int .i64 0), .v (.int .i64 0), .v (.int .i64 0), .v (.int .i64 0), .v (.int .i64 0), .io .i64 x0, .io IntKind.u32 (IntKind.u32.wrap x1)], 41)]⟩ ?_
      refine zE (.tup [.agg [.v (.int .i64 5), .v (.int .i64 0), .v (.string (ByteArray.mk #[])), .v (.int .i64 0), .v (.int .i64 0), .v (.int .i64 0), .v (.int .i64 0), .v (.int .i64 0), .io .i64 x0, .io IntKind.u32 (IntKind.u32.wrap x1)], .v (.bool true)]) ?_
      have h0 : 0 ≤ x1 := of_decide_eq_true ‹decide (x1 ≥ 0) = true›
      have h1 : x1 < 4294967296 := of_decide_eq_true ‹decide (x1 < 4294967296) = true›
      have hq : stepP s = some (sp x0 x1) := by simp [stepP, hc, e0, e1, e2, e3, e4, hnp, h0, h1]
      have hwr : IntKind.u32.wrap x1 = x1 := by simp only [IntKind.wrap, IntKind.signed, IntKind.bits]; simp; omega
      rw [hwr]
      intro ρ w9 hm' hf
      exact ⟨by rw [← hR, hq]; rfl, hm'.below⟩
     refine zR 134 b0 ?_
     refine zI [2, 3] 1 ⟨.exit .ret, [], [(2, .lp 0 0), (3, .v (.bool false))], [(zAL1, 41)]⟩ ?_
     refine zE (.tup zAL0) ?_
     have hno : ¬ (0 ≤ x1 ∧ x1 < 4294967296) := fun ⟨h0, h1⟩ => by
      first
       | exact absurd h0 (of_decide_eq_false ‹decide (x1 ≥ 0) = false›)
       | exact absurd h1 (of_decide_eq_false ‹decide (x1 < 4294967296) = false›)
     have hq : stepP s = none := by simp only [stepP, hc, hnp]; simp [e0, e1, e2, e3, e4]; omega
     intro ρ w9 hm' hf
     exact ⟨by rw [← hR, hq]; rfl, hm'.below⟩
    refine zR 129 b0 ?_
    refine zI [2, 3] 1 ⟨.exit .ret, [], [(2, .lp 0 0), (3, .v (.bool false))], [(zAL1, 41)]⟩ ?_
    refine zE (.tup zAL0) ?_
    have hno : ¬ (0 ≤ x1 ∧ x1 < 4294967296) := fun ⟨h0, h1⟩ => by
     first
      | exact absurd h0 (of_decide_eq_false ‹decide (x1 ≥ 0) = false›)
      | exact absurd h1 (of_decide_eq_false ‹decide (x1 < 4294967296) = false›)
    have hq : stepP s = none := by simp only [stepP, hc, hnp]; simp [e0, e1, e2, e3, e4]; omega
    intro ρ w9 hm' hf
    exact ⟨by rw [← hR, hq]; rfl, hm'.below⟩
  refine zR 115 b4 ?_
  refine zI [2, 3] 1 ⟨.exit .ret, [], [(2, .lp 0 0), (3, .v (.bool false))], [(zAL1, 41)]⟩ ?_
  refine zE (.tup zAL0) ?_
  have e0 : wd ≠ [101, 118, 101, 110, 116] := w_no (y := [101, 118, 101, 110, 116]) b0
  have e1 : wd ≠ [109, 97, 114, 107] := w_no (y := [109, 97, 114, 107]) b1
  have e2 : wd ≠ [112, 105, 99, 107] := w_no (y := [112, 105, 99, 107]) b2
  have e3 : wd ≠ [114, 101, 115, 116, 111, 114, 101] := w_no (y := [114, 101, 115, 116, 111, 114, 101]) b3
  have e4 : wd ≠ [115, 112, 111, 105, 108] := w_no (y := [115, 112, 111, 105, 108]) b4
  have hq : stepP s = none := by simp [stepP, hc, e0, e1, e2, e3, e4]
  intro ρ w9 hm' hf
  exact ⟨by rw [← hR, hq]; rfl, hm'.below⟩
end Go.Proofs.YthfpekhpeiebjaaGreatDoor
end
section
namespace Go.Proofs.YthfpekhpeiebjaaGreatDoor
open Go.RowKit Go.Sx
def it1 (key : ByteArray) (t src : Int) : Bool := decide ((key.size : Int) ≤ 256) && (timeB t && (src == 0))
def it2 (s : Int) (key : ByteArray) (t v src : Int) : Bool := decide (src ≥ 0) && (decide (src < s) && (timeB t && ((key.toList == (ByteArray.mk #[]).toList) && (v == 0))))
def it3 (key : ByteArray) (t v src : Int) : Bool := (key.toList == (ByteArray.mk #[]).toList) && ((t == 0) && ((v == 0) && (src == 0)))
def itN : Bool := false
theorem size0 (key : ByteArray) (h : (key.toList == (ByteArray.mk #[]).toList) = true) : key.size = 0 := by
 have h' := eq_of_beq h
 rw [ByteArray.toList_eq, ByteArray.toList_eq] at h'
 have := congrArg List.length h'
 simpa using this
theorem wrong_s {g s k sz sl of gp lt ea : Int} (h : wrongF g s k sz sl of gp lt ea = 0) : 1 ≤ s ∧ s ≤ 64 := by
 unfold wrongF at h
 cases h1 : (decide (1 ≤ g) && decide (g ≤ 32768)) with
 | false => rw [h1] at h; simp at h
 | true =>
  rw [h1] at h
  cases h2 : (decide (1 ≤ s) && decide (s ≤ 64)) with
  | false => rw [h2] at h; simp at h
  | true => simpa using h2
noncomputable def B84 : Code := (Tryz.f84.body).getD .skip
noncomputable def sq84 (p : List Nat) : Go.Sx.K := .seq (sub B84 p)
set_option maxHeartbeats 4000000 in
set_option maxRecDepth 100000 in
theorem istime_any (t : Int) (w : World) : Calls Tryz.prog 84 #[.int .i64 t] w fun e w' => e = .returned (.bool (timeB t)) ∧ Below w.heap.size w w' := by
 refine enter (fn := Tryz.f84) (c := B84) [.io .i64 t] Tryz.func84 rfl rfl ?_
 refine At.to noF_stable noF_fewer 20 400 [3] 0 ⟨pops B84 [1, 0] 1, [(sq84 [1, 1])], [(3, .io .i64 t)], []⟩ (by kernel_rfl) (by kernel_rfl) ?_
 refine zC noF_stable 85 [.io .i64 t, .v (.int .i64 (-4611686018427387904)), .v (.int .i64 4611686018427387904)] (.bo (decide (-4611686018427387904 ≤ t) && decide (t ≤ 4611686018427387904))) (fun _ _ w _ _ => within_any (t) (-4611686018427387904) (4611686018427387904) w) ?_
 refine At.to noF_stable noF_fewer 20 400 [2] 0 ⟨.exit .ret, [], [(2, .bo (decide (-4611686018427387904 ≤ t) && decide (t ≤ 4611686018427387904)))], []⟩ (by kernel_rfl) (by kernel_rfl) ?_
 refine zE (.bo (decide (-4611686018427387904 ≤ t) && decide (t ≤ 4611686018427387904))) ?_
 intro ρ w9 hw9 _
 exact ⟨rfl, hw9.below⟩
noncomputable def B61 : Code := (Tryz.f61.body).getD .skip
noncomputable def sq61 (p : List Nat) : Go.Sx.K := .seq (sub B61 p)
set_option maxHeartbeats 4000000 in
set_option maxRecDepth 100000 in
theorem item_1 (g s k sz sl of gp lt ea : Int) (d : Bool) (key : ByteArray) (t v src : Int) (w : World) (h0 : wrongF g s k sz sl of gp lt ea = 0) : Calls Tryz.prog 61 #[.agg #[.int .i64 g, .int .i64 s, .int .i64 k, .int .i64 sz, .int .i64 sl, .int .i64 of, .int .i64 gp, .int .i64 lt, .int .i64 ea, .bool d], .agg #[.int .i64 1, .string key, .int .i64 t, .int .i64 v, .int .i64 src]] w fun e w' => e = .returned (.int .i64 (bif it1 key t src then 0 else 5)) ∧ Below w.heap.size w w' := by
 have hs := wrong_s h0
 refine enter (fn := Tryz.f61) (c := B61) [.agg (cfgL g s k sz sl of gp lt ea d), .agg [.v (.int .i64 1), .so key, .io .i64 t, .io .i64 v, .io .i64 src]] Tryz.func61 rfl rfl ?_
 refine zM [2, 3, 7] 2 ⟨pops B61 [1, 0, 0] 1, [(sq61 [1, 0, 1]), (sq61 [1, 1])], [(2, .lp 0 0), (3, .lp 1 0), (7, .agg (cfgL g s k sz sl of gp lt ea d))], [((cfgL g s k sz sl of gp lt ea d), 25), ([.v (.int .i64 1), .so key, .io .i64 t, .io .i64 v, .io .i64 src], 38)]⟩ ?_
 refine zC noF_stable 41 [.agg (cfgL g s k sz sl of gp lt ea d)] (.v (.int .i64 0)) (fun _ _ w1 hi _ => (check_any g s k sz sl of gp lt ea d w1).mono fun e w' h => ⟨h.1.trans (by rw [h0]; rfl), h.2⟩) ?_
 refine zM [2, 3, 6] 3 ⟨.any (opsOf (sub B61 [1, 1, 1, 0, 1, 4, 1, 2])) 12 [], [.block 0, (sq61 pAL18)], [(2, .lp 0 0), (3, .lp 1 0), (6, .lp 2 0)], [((cfgL g s k sz sl of gp lt ea d), 25), ([.v (.int .i64 1), .so key, .io .i64 t, .io .i64 v, .io .i64 src], 38), ([.v (.int .i64 1), .v (.string (ByteArray.mk #[])), .v (.int .i64 0), .v (.int .i64 0), .v (.int .i64 0)], 38)]⟩ ?_
 refine At.anyOrder noF_stable (j := 0) (fun _ _ _ _ _ => trivial) rfl 20 15 [2, 3, 6] 3 [(2, .lp 0 0), (3, .lp 1 0), (6, .lp 2 0)] ([((cfgL g s k sz sl of gp lt ea d), 25), ([.v (.int .i64 1), .so key, .io .i64 t, .io .i64 v, .io .i64 src], 38), ([.v (.int .i64 1), .so key, .io .i64 t, .io .i64 v, .v (.int .i64 0)], 38)]) (by kernel_rfl) (by kernel_rfl) ?_
 refine zM [2, 3, 41] 2 ⟨pops B61 pAL15 4, [(sq61 pAL16), (sq61 pAL17)], [(2, .lp 0 0), (3, .lp 1 0), (41, .bo !(1 == 1 && (key.toList == key.toList && (t == t && (v == v && (src == 0 && true))))))], [((cfgL g s k sz sl of gp lt ea d), 25), ([.v (.int .i64 1), .so key, .io .i64 t, .io .i64 v, .io .i64 src], 38)]⟩ ?_
 rcases zB (!(1 == 1 && (key.toList == key.toList && (t == t && (v == v && (src == 0 && true)))))) with b0 | b0
 ·refine zR 41 b0 ?_
  refine zM [4] 0 ⟨.exit .ret, [], [(4, .v (.int .i64 5))], []⟩ ?_
  refine zE (.v (.int .i64 5)) ?_
  have hq : it1 key t src = false := by
   have hsrc : (src == 0) = false := by simpa only [BEq.rfl, Bool.true_and, Bool.and_true, Bool.not_eq_true'] using b0
   unfold it1
   rw [hsrc]
   simp
  intro ρ w9 hw9 _
  exact ⟨by rw [hq]; rfl, hw9.below⟩
 refine zR 41 b0 ?_
 refine zM [2, 3, 47] 2 ⟨pops B61 pAL15 10, [(sq61 pAL16), (sq61 pAL17)], [(2, .lp 0 0), (3, .lp 1 0), (47, .bo (decide ((↑key.size : Int) > 256)))], [((cfgL g s k sz sl of gp lt ea d), 25), ([.v (.int .i64 1), .so key, .io .i64 t, .io .i64 v, .io .i64 src], 38)]⟩ ?_
 rcases zB (decide ((↑key.size : Int) > 256)) with b1 | b1
 ·refine zR 47 b1 ?_
  refine zM [4] 0 ⟨.exit .ret, [], [(4, .v (.int .i64 5))], []⟩ ?_
  refine zE (.v (.int .i64 5)) ?_
  have hq : it1 key t src = false := by
   have hbig : decide ((key.size : Int) ≤ 256) = false := decide_eq_false (by have := of_decide_eq_true b1; omega)
   unfold it1
   rw [hbig]
   rfl
  intro ρ w9 hw9 _
  exact ⟨by rw [hq]; rfl, hw9.below⟩
 refine zR 47 b1 ?_
 refine zM [2, 3, 47, 49] 2 ⟨pops B61 pAL15 12, [(sq61 pAL16), (sq61 pAL17)], [(2, .lp 0 0), (3, .lp 1 0), (47, .v (.bool false)), (49, .io .i64 t)], [((cfgL g s k sz sl of gp lt ea d), 25), ([.v (.int .i64 1), .so key, .io .i64 t, .io .i64 v, .io .i64 src], 38)]⟩ ?_
 refine zC (noF_stable) 84 [.io .i64 t] (.bo (timeB t)) (fun _ _ w _ _ => istime_any (t) w) ?_
 refine zM [2, 3, 53] 2 ⟨pops B61 pAL15 16, [(sq61 pAL16), (sq61 pAL17)], [(2, .lp 0 0), (3, .lp 1 0), (53, .bo !timeB t)], [((cfgL g s k sz sl of gp lt ea d), 25), ([.v (.int .i64 1), .so key, .io .i64 t, .io .i64 v, .io .i64 src], 38)]⟩ ?_
 rcases zB (!timeB t) with b2 | b2
 ·refine zR 53 b2 ?_
  refine zM [4] 0 ⟨.exit .ret, [], [(4, .v (.int .i64 5))], []⟩ ?_
  refine zE (.v (.int .i64 5)) ?_
  have hq : it1 key t src = false := by
   have ht : timeB t = false := by simpa using b2
   unfold it1
   rw [ht]
   simp
  intro ρ w9 hw9 _
  exact ⟨by rw [hq]; rfl, hw9.below⟩
 refine zR 53 b2 ?_
 refine zM [53, 55, 58] 0 ⟨pops B61 pAL15 21, [(sq61 pAL16), (sq61 pAL17)], [(53, .v (.bool false)), (55, .io .i64 src), (58, .io .i64 (IntKind.i64.wrap (s - 1)))], []⟩ ?_
 refine zC (noF_stable) 85 [.io .i64 src, .v (.int .i64 0), .io .i64 (IntKind.i64.wrap (s - 1))] (.bo (decide (0 ≤ src) && decide (src ≤ IntKind.i64.wrap (s - 1)))) (fun _ _ w _ _ => within_any (src) (0) (IntKind.i64.wrap (s - 1)) w) ?_
 refine zM [61] 0 ⟨.code (sub B61 pAL16), [(sq61 pAL17)], [(61, .bo !(decide (0 ≤ src) && decide (src ≤ IntKind.i64.wrap (s - 1))))], []⟩ ?_
 rcases zB (!(decide (0 ≤ src) && decide (src ≤ IntKind.i64.wrap (s - 1)))) with b3 | b3
 ·refine zR 61 b3 ?_
  refine zM [4] 0 ⟨.exit .ret, [], [(4, .v (.int .i64 5))], []⟩ ?_
  refine zE (.v (.int .i64 5)) ?_
  have hq : it1 key t src = false := by
   have hsrc : (src == 0) = true := by simpa only [BEq.rfl, Bool.true_and, Bool.and_true, Bool.not_eq_false'] using b0
   have h1 : src = 0 := by simpa using hsrc
   subst h1
   rw [wrap63 (by omega) (by omega)] at b3
   have h2 : decide ((0 : Int) ≤ 0) = true := rfl
   have h3 : decide (0 ≤ s - 1) = true := decide_eq_true (by omega)
   rw [h2, h3] at b3
   cases b3
  intro ρ w9 hw9 _
  exact ⟨by rw [hq]; rfl, hw9.below⟩
 refine zR 61 b3 ?_
 refine zM [4] 0 ⟨.exit .ret, [], [(4, .v (.int .i64 0))], []⟩ ?_
 refine zE (.v (.int .i64 0)) ?_
 have hq : it1 key t src = true := by
  have hsrc : (src == 0) = true := by simpa only [BEq.rfl, Bool.true_and, Bool.and_true, Bool.not_eq_false'] using b0
  have hsml : decide ((key.size : Int) ≤ 256) = true := decide_eq_true (by have := of_decide_eq_false b1; omega)
  have ht : timeB t = true := by simpa using b2
  unfold it1
  rw [hsrc, hsml, ht]
  rfl
 intro ρ w9 hw9 _
 exact ⟨by rw [hq]; rfl, hw9.below⟩
set_option maxHeartbeats 4000000 in
set_option maxRecDepth 100000 in
theorem item_2 (g s k sz sl of gp lt ea : Int) (d : Bool) (key : ByteArray) (t v src : Int) (w : World) (h0 : wrongF g s k sz sl of gp lt ea = 0) : Calls Tryz.prog 61 #[.agg #[.int .i64 g, .int .i64 s, .int .i64 k, .int .i64 sz, .int .i64 sl, .int .i64 of, .int .i64 gp, .int .i64 lt, .int .i64 ea, .bool d], .agg #[.int .i64 2, .string key, .int .i64 t, .int .i64 v, .int .i64 src]] w fun e w' => e = .returned (.int .i64 (bif it2 s key t v src then 0 else 5)) ∧ Below w.heap.size w w' := by
 have hs := wrong_s h0
 refine enter (fn := Tryz.f61) (c := B61) [.agg (cfgL g s k sz sl of gp lt ea d), .agg [.v (.int .i64 2), .so key, .io .i64 t, .io .i64 v, .io .i64 src]] Tryz.func61 rfl rfl ?_
 refine zM [2, 3, 7] 2 ⟨pops B61 [1, 0, 0] 1, [(sq61 [1, 0, 1]), (sq61 [1, 1])], [(2, .lp 0 0), (3, .lp 1 0), (7, .agg (cfgL g s k sz sl of gp lt ea d))], [((cfgL g s k sz sl of gp lt ea d), 25), ([.v (.int .i64 2), .so key, .io .i64 t, .io .i64 v, .io .i64 src], 38)]⟩ ?_
 refine zC noF_stable 41 [.agg (cfgL g s k sz sl of gp lt ea d)] (.v (.int .i64 0)) (fun _ _ w1 hi _ => (check_any g s k sz sl of gp lt ea d w1).mono fun e w' h => ⟨h.1.trans (by rw [h0]; rfl), h.2⟩) ?_
 refine zM [2, 3, 6] 3 ⟨.any (opsOf (sub B61 [1, 1, 1, 0, 1, 4, 1, 3, 1, 2])) 8 [], [.block 0, (sq61 pAL18)], [(2, .lp 0 0), (3, .lp 1 0), (6, .lp 2 0)], [((cfgL g s k sz sl of gp lt ea d), 25), ([.v (.int .i64 2), .so key, .io .i64 t, .io .i64 v, .io .i64 src], 38), ([.v (.int .i64 2), .v (.string (ByteArray.mk #[])), .v (.int .i64 0), .v (.int .i64 0), .v (.int .i64 0)], 38)]⟩ ?_
 refine At.anyOrder noF_stable (j := 0) (fun _ _ _ _ _ => trivial) rfl 20 3 [2, 3, 6] 3 [(2, .lp 0 0), (3, .lp 1 0), (6, .lp 2 0)] ([((cfgL g s k sz sl of gp lt ea d), 25), ([.v (.int .i64 2), .so key, .io .i64 t, .io .i64 v, .io .i64 src], 38), ([.v (.int .i64 2), .v (.string (ByteArray.mk #[])), .io .i64 t, .v (.int .i64 0), .io .i64 src], 38)]) (by kernel_rfl) (by kernel_rfl) ?_
 refine zM [2, 3, 41] 2 ⟨pops B61 pAL15 4, [(sq61 pAL16), (sq61 pAL17)], [(2, .lp 0 0), (3, .lp 1 0), (41, .bo !(2 == 2 && (key.toList == (ByteArray.mk #[]).toList && (t == t && (v == 0 && (src == src && true))))))], [((cfgL g s k sz sl of gp lt ea d), 25), ([.v (.int .i64 2), .so key, .io .i64 t, .io .i64 v, .io .i64 src], 38)]⟩ ?_
 rcases zB (!(2 == 2 && (key.toList == (ByteArray.mk #[]).toList && (t == t && (v == 0 && (src == src && true)))))) with b0 | b0
 ·refine zR 41 b0 ?_
  refine zM [4] 0 ⟨.exit .ret, [], [(4, .v (.int .i64 5))], []⟩ ?_
  refine zE (.v (.int .i64 5)) ?_
  have hq : it2 s key t v src = false := by
   have hev : ((key.toList == (ByteArray.mk #[]).toList) && (v == 0)) = false := by simpa only [BEq.rfl, Bool.true_and, Bool.and_true, Bool.not_eq_true'] using b0
   unfold it2
   rw [hev]
   simp
  intro ρ w9 hw9 _
  exact ⟨by rw [hq]; rfl, hw9.below⟩
 refine zR 41 b0 ?_
 refine zM [2, 3, 47] 2 ⟨pops B61 pAL15 10, [(sq61 pAL16), (sq61 pAL17)], [(2, .lp 0 0), (3, .lp 1 0), (47, .bo (decide ((↑key.size : Int) > 256)))], [((cfgL g s k sz sl of gp lt ea d), 25), ([.v (.int .i64 2), .so key, .io .i64 t, .io .i64 v, .io .i64 src], 38)]⟩ ?_
 rcases zB (decide ((↑key.size : Int) > 256)) with b1 | b1
 ·refine zR 47 b1 ?_
  refine zM [4] 0 ⟨.exit .ret, [], [(4, .v (.int .i64 5))], []⟩ ?_
  refine zE (.v (.int .i64 5)) ?_
  have hq : it2 s key t v src = false := by
   have hev : ((key.toList == (ByteArray.mk #[]).toList) && (v == 0)) = true := by simpa only [BEq.rfl, Bool.true_and, Bool.and_true, Bool.not_eq_false'] using b0
   simp only [Bool.and_eq_true] at hev
   have hz := size0 key hev.1
   rw [hz] at b1
   cases b1
  intro ρ w9 hw9 _
  exact ⟨by rw [hq]; rfl, hw9.below⟩
 refine zR 47 b1 ?_
 refine zM [2, 3, 47, 49] 2 ⟨pops B61 pAL15 12, [(sq61 pAL16), (sq61 pAL17)], [(2, .lp 0 0), (3, .lp 1 0), (47, .v (.bool false)), (49, .io .i64 t)], [((cfgL g s k sz sl of gp lt ea d), 25), ([.v (.int .i64 2), .so key, .io .i64 t, .io .i64 v, .io .i64 src], 38)]⟩ ?_
 refine zC (noF_stable) 84 [.io .i64 t] (.bo (timeB t)) (fun _ _ w _ _ => istime_any (t) w) ?_
 refine zM [2, 3, 53] 2 ⟨pops B61 pAL15 16, [(sq61 pAL16), (sq61 pAL17)], [(2, .lp 0 0), (3, .lp 1 0), (53, .bo !timeB t)], [((cfgL g s k sz sl of gp lt ea d), 25), ([.v (.int .i64 2), .so key, .io .i64 t, .io .i64 v, .io .i64 src], 38)]⟩ ?_
 rcases zB (!timeB t) with b2 | b2
 ·refine zR 53 b2 ?_
  refine zM [4] 0 ⟨.exit .ret, [], [(4, .v (.int .i64 5))], []⟩ ?_
  refine zE (.v (.int .i64 5)) ?_
  have hq : it2 s key t v src = false := by
   have ht : timeB t = false := by simpa using b2
   unfold it2
   rw [ht]
   simp
  intro ρ w9 hw9 _
  exact ⟨by rw [hq]; rfl, hw9.below⟩
 refine zR 53 b2 ?_
 refine zM [53, 55, 58] 0 ⟨pops B61 pAL15 21, [(sq61 pAL16), (sq61 pAL17)], [(53, .v (.bool false)), (55, .io .i64 src), (58, .io .i64 (IntKind.i64.wrap (s - 1)))], []⟩ ?_
 refine zC (noF_stable) 85 [.io .i64 src, .v (.int .i64 0), .io .i64 (IntKind.i64.wrap (s - 1))] (.bo (decide (0 ≤ src) && decide (src ≤ IntKind.i64.wrap (s - 1)))) (fun _ _ w _ _ => within_any (src) (0) (IntKind.i64.wrap (s - 1)) w) ?_
 refine zM [61] 0 ⟨.code (sub B61 pAL16), [(sq61 pAL17)], [(61, .bo !(decide (0 ≤ src) && decide (src ≤ IntKind.i64.wrap (s - 1))))], []⟩ ?_
 rcases zB (!(decide (0 ≤ src) && decide (src ≤ IntKind.i64.wrap (s - 1)))) with b3 | b3
 ·refine zR 61 b3 ?_
  refine zM [4] 0 ⟨.exit .ret, [], [(4, .v (.int .i64 5))], []⟩ ?_
  refine zE (.v (.int .i64 5)) ?_
  have hq : it2 s key t v src = false := by
   rw [wrap63 (by omega) (by omega)] at b3
   unfold it2
   by_cases h1 : 0 ≤ src
   ·have h2 : ¬ src < s := by
     intro h2
     rw [decide_eq_true h1, decide_eq_true (show src ≤ s - 1 by omega)] at b3
     cases b3
    rw [decide_eq_false h2]
    simp
   rw [decide_eq_false (show ¬ src ≥ 0 from h1)]
   rfl
  intro ρ w9 hw9 _
  exact ⟨by rw [hq]; rfl, hw9.below⟩
 refine zR 61 b3 ?_
 refine zM [4] 0 ⟨.exit .ret, [], [(4, .v (.int .i64 0))], []⟩ ?_
 refine zE (.v (.int .i64 0)) ?_
 have hq : it2 s key t v src = true := by
  have hev : ((key.toList == (ByteArray.mk #[]).toList) && (v == 0)) = true := by simpa only [BEq.rfl, Bool.true_and, Bool.and_true, Bool.not_eq_false'] using b0
  simp only [Bool.and_eq_true] at hev
  have ht : timeB t = true := by simpa using b2
  rw [wrap63 (by omega) (by omega)] at b3
  have h1 : 0 ≤ src ∧ src ≤ s - 1 := by simpa using b3
  unfold it2
  rw [hev.1, hev.2, ht, decide_eq_true (show src ≥ 0 by omega), decide_eq_true (show src < s by omega)]
  rfl
 intro ρ w9 hw9 _
 exact ⟨by rw [hq]; rfl, hw9.below⟩
set_option maxHeartbeats 4000000 in
set_option maxRecDepth 100000 in
theorem item_3 (g s k sz sl of gp lt ea : Int) (d : Bool) (key : ByteArray) (t v src : Int) (w : World) (h0 : wrongF g s k sz sl of gp lt ea = 0) : Calls Tryz.prog 61 #[.agg #[.int .i64 g, .int .i64 s, .int .i64 k, .int .i64 sz, .int .i64 sl, .int .i64 of, .int .i64 gp, .int .i64 lt, .int .i64 ea, .bool d], .agg #[.int .i64 3, .string key, .int .i64 t, .int .i64 v, .int .i64 src]] w fun e w' => e = .returned (.int .i64 (bif it3 key t v src then 0 else 5)) ∧ Below w.heap.size w w' := by
 have hs := wrong_s h0
 refine enter (fn := Tryz.f61) (c := B61) [.agg (cfgL g s k sz sl of gp lt ea d), .agg [.v (.int .i64 3), .so key, .io .i64 t, .io .i64 v, .io .i64 src]] Tryz.func61 rfl rfl ?_
 refine zM [2, 3, 7] 2 ⟨pops B61 [1, 0, 0] 1, [(sq61 [1, 0, 1]), (sq61 [1, 1])], [(2, .lp 0 0), (3, .lp 1 0), (7, .agg (cfgL g s k sz sl of gp lt ea d))], [((cfgL g s k sz sl of gp lt ea d), 25), ([.v (.int .i64 3), .so key, .io .i64 t, .io .i64 v, .io .i64 src], 38)]⟩ ?_
 refine zC noF_stable 41 [.agg (cfgL g s k sz sl of gp lt ea d)] (.v (.int .i64 0)) (fun _ _ w1 hi _ => (check_any g s k sz sl of gp lt ea d w1).mono fun e w' h => ⟨h.1.trans (by rw [h0]; rfl), h.2⟩) ?_
 refine zM [2, 3, 41] 2 ⟨pops B61 pAL15 4, [(sq61 pAL16), (sq61 pAL17)], [(2, .lp 0 0), (3, .lp 1 0), (41, .bo !(3 == 3 && (key.toList == (ByteArray.mk #[]).toList && (t == 0 && (v == 0 && (src == 0 && true))))))], [((cfgL g s k sz sl of gp lt ea d), 25), ([.v (.int .i64 3), .so key, .io .i64 t, .io .i64 v, .io .i64 src], 38)]⟩ ?_
 rcases zB (!(3 == 3 && (key.toList == (ByteArray.mk #[]).toList && (t == 0 && (v == 0 && (src == 0 && true)))))) with b0 | b0
 ·refine zR 41 b0 ?_
  refine zM [4] 0 ⟨.exit .ret, [], [(4, .v (.int .i64 5))], []⟩ ?_
  refine zE (.v (.int .i64 5)) ?_
  have hq : it3 key t v src = false := by
   simpa only [it3, BEq.rfl, Bool.true_and, Bool.and_true, Bool.not_eq_true'] using b0
  intro ρ w9 hw9 _
  exact ⟨by rw [hq]; rfl, hw9.below⟩
 refine zR 41 b0 ?_
 refine zM [2, 3, 47] 2 ⟨pops B61 pAL15 10, [(sq61 pAL16), (sq61 pAL17)], [(2, .lp 0 0), (3, .lp 1 0), (47, .bo (decide ((↑key.size : Int) > 256)))], [((cfgL g s k sz sl of gp lt ea d), 25), ([.v (.int .i64 3), .so key, .io .i64 t, .io .i64 v, .io .i64 src], 38)]⟩ ?_
 rcases zB (decide ((↑key.size : Int) > 256)) with b1 | b1
 ·refine zR 47 b1 ?_
  refine zM [4] 0 ⟨.exit .ret, [], [(4, .v (.int .i64 5))], []⟩ ?_
  refine zE (.v (.int .i64 5)) ?_
  have hq : it3 key t v src = false := by
   have h3 : it3 key t v src = true := by simpa only [it3, BEq.rfl, Bool.true_and, Bool.and_true, Bool.not_eq_false'] using b0
   have h4 := h3
   simp only [it3, Bool.and_eq_true] at h4
   have hz := size0 key h4.1
   rw [hz] at b1
   cases b1
  intro ρ w9 hw9 _
  exact ⟨by rw [hq]; rfl, hw9.below⟩
 refine zR 47 b1 ?_
 refine zM [2, 3, 47, 49] 2 ⟨pops B61 pAL15 12, [(sq61 pAL16), (sq61 pAL17)], [(2, .lp 0 0), (3, .lp 1 0), (47, .v (.bool false)), (49, .io .i64 t)], [((cfgL g s k sz sl of gp lt ea d), 25), ([.v (.int .i64 3), .so key, .io .i64 t, .io .i64 v, .io .i64 src], 38)]⟩ ?_
 refine zC (noF_stable) 84 [.io .i64 t] (.bo (timeB t)) (fun _ _ w _ _ => istime_any (t) w) ?_
 refine zM [2, 3, 53] 2 ⟨pops B61 pAL15 16, [(sq61 pAL16), (sq61 pAL17)], [(2, .lp 0 0), (3, .lp 1 0), (53, .bo !timeB t)], [((cfgL g s k sz sl of gp lt ea d), 25), ([.v (.int .i64 3), .so key, .io .i64 t, .io .i64 v, .io .i64 src], 38)]⟩ ?_
 rcases zB (!timeB t) with b2 | b2
 ·refine zR 53 b2 ?_
  refine zM [4] 0 ⟨.exit .ret, [], [(4, .v (.int .i64 5))], []⟩ ?_
  refine zE (.v (.int .i64 5)) ?_
  have hq : it3 key t v src = false := by
   have h3 : it3 key t v src = true := by simpa only [it3, BEq.rfl, Bool.true_and, Bool.and_true, Bool.not_eq_false'] using b0
   have h4 := h3
   simp only [it3, Bool.and_eq_true] at h4
   have ht : t = 0 := by simpa using h4.2.1
   subst ht
   exact absurd b2 (by decide)
  intro ρ w9 hw9 _
  exact ⟨by rw [hq]; rfl, hw9.below⟩
 refine zR 53 b2 ?_
 refine zM [53, 55, 58] 0 ⟨pops B61 pAL15 21, [(sq61 pAL16), (sq61 pAL17)], [(53, .v (.bool false)), (55, .io .i64 src), (58, .io .i64 (IntKind.i64.wrap (s - 1)))], []⟩ ?_
 refine zC (noF_stable) 85 [.io .i64 src, .v (.int .i64 0), .io .i64 (IntKind.i64.wrap (s - 1))] (.bo (decide (0 ≤ src) && decide (src ≤ IntKind.i64.wrap (s - 1)))) (fun _ _ w _ _ => within_any (src) (0) (IntKind.i64.wrap (s - 1)) w) ?_
 refine zM [61] 0 ⟨.code (sub B61 pAL16), [(sq61 pAL17)], [(61, .bo !(decide (0 ≤ src) && decide (src ≤ IntKind.i64.wrap (s - 1))))], []⟩ ?_
 rcases zB (!(decide (0 ≤ src) && decide (src ≤ IntKind.i64.wrap (s - 1)))) with b3 | b3
 ·refine zR 61 b3 ?_
  refine zM [4] 0 ⟨.exit .ret, [], [(4, .v (.int .i64 5))], []⟩ ?_
  refine zE (.v (.int .i64 5)) ?_
  have hq : it3 key t v src = false := by
   have h3 : it3 key t v src = true := by simpa only [it3, BEq.rfl, Bool.true_and, Bool.and_true, Bool.not_eq_false'] using b0
   have h4 := h3
   simp only [it3, Bool.and_eq_true] at h4
   have hsrc := h4.2.2.2
   have h1 : src = 0 := by simpa using hsrc
   subst h1
   rw [wrap63 (by omega) (by omega)] at b3
   have h2 : decide ((0 : Int) ≤ 0) = true := rfl
   have h3 : decide (0 ≤ s - 1) = true := decide_eq_true (by omega)
   rw [h2, h3] at b3
   cases b3
  intro ρ w9 hw9 _
  exact ⟨by rw [hq]; rfl, hw9.below⟩
 refine zR 61 b3 ?_
 refine zM [4] 0 ⟨.exit .ret, [], [(4, .v (.int .i64 0))], []⟩ ?_
 refine zE (.v (.int .i64 0)) ?_
 have hq : it3 key t v src = true := by
  have h3 : it3 key t v src = true := by simpa only [it3, BEq.rfl, Bool.true_and, Bool.and_true, Bool.not_eq_false'] using b0
  have h4 := h3
  simp only [it3, Bool.and_eq_true] at h4
  exact h3
 intro ρ w9 hw9 _
 exact ⟨by rw [hq]; rfl, hw9.below⟩
set_option maxHeartbeats 4000000 in
set_option maxRecDepth 100000 in
theorem item_n (g s k sz sl of gp lt ea : Int) (d : Bool) (kd : Int) (key : ByteArray) (t v src : Int) (w : World) (h0 : wrongF g s k sz sl of gp lt ea = 0) (k1 : (kd == 1) = false) (k2 : (kd == 2) = false) (k3 : (kd == 3) = false) : Calls Tryz.prog 61 #[.agg #[.int .i64 g, .int .i64 s, .int .i64 k, .int .i64 sz, .int .i64 sl, .int .i64 of, .int .i64 gp, .int .i64 lt, .int .i64 ea, .bool d], .agg #[.int .i64 kd, .string key, .int .i64 t, .int .i64 v, .int .i64 src]] w fun e w' => e = .returned (.int .i64 (bif itN then 0 else 5)) ∧ Below w.heap.size w w' := by
 have hs := wrong_s h0
 refine enter (fn := Tryz.f61) (c := B61) [.agg (cfgL g s k sz sl of gp lt ea d), .agg [.io .i64 kd, .so key, .io .i64 t, .io .i64 v, .io .i64 src]] Tryz.func61 rfl rfl ?_
 refine zM [2, 3, 7] 2 ⟨pops B61 [1, 0, 0] 1, [(sq61 [1, 0, 1]), (sq61 [1, 1])], [(2, .lp 0 0), (3, .lp 1 0), (7, .agg (cfgL g s k sz sl of gp lt ea d))], [((cfgL g s k sz sl of gp lt ea d), 25), ([.io .i64 kd, .so key, .io .i64 t, .io .i64 v, .io .i64 src], 38)]⟩ ?_
 refine zC noF_stable 41 [.agg (cfgL g s k sz sl of gp lt ea d)] (.v (.int .i64 0)) (fun _ _ w1 hi _ => (check_any g s k sz sl of gp lt ea d w1).mono fun e w' h => ⟨h.1.trans (by rw [h0]; rfl), h.2⟩) ?_
 refine zM [2, 3, 6, 16, 17] 3 ⟨.code (sub B61 [1, 1, 1, 0, 1, 4, 1]), [.block 0, (sq61 pAL18)], [(2, .lp 0 0), (3, .lp 1 0), (6, .lp 2 0), (16, .io .i64 kd), (17, .bo (kd == 1))], [((cfgL g s k sz sl of gp lt ea d), 25), ([.io .i64 kd, .so key, .io .i64 t, .io .i64 v, .io .i64 src], 38), ([.io .i64 kd, .v (.string (ByteArray.mk #[])), .v (.int .i64 0), .v (.int .i64 0), .v (.int .i64 0)], 38)]⟩ ?_
 refine zR 17 k1 ?_
 refine zM [2, 3, 6, 16, 28] 3 ⟨.code (sub B61 [1, 1, 1, 0, 1, 4, 1, 3, 1]), [.block 0, (sq61 pAL18)], [(2, .lp 0 0), (3, .lp 1 0), (6, .lp 2 0), (16, .io .i64 kd), (28, .bo (kd == 2))], [((cfgL g s k sz sl of gp lt ea d), 25), ([.io .i64 kd, .so key, .io .i64 t, .io .i64 v, .io .i64 src], 38), ([.io .i64 kd, .v (.string (ByteArray.mk #[])), .v (.int .i64 0), .v (.int .i64 0), .v (.int .i64 0)], 38)]⟩ ?_
 refine zR 28 k2 ?_
 refine zM [2, 3, 6, 36] 3 ⟨.code (sub B61 [1, 1, 1, 0, 1, 4, 1, 3, 1, 3, 1]), [.block 0, (sq61 pAL18)], [(2, .lp 0 0), (3, .lp 1 0), (6, .lp 2 0), (36, .bo (kd == 3))], [((cfgL g s k sz sl of gp lt ea d), 25), ([.io .i64 kd, .so key, .io .i64 t, .io .i64 v, .io .i64 src], 38), ([.io .i64 kd, .v (.string (ByteArray.mk #[])), .v (.int .i64 0), .v (.int .i64 0), .v (.int .i64 0)], 38)]⟩ ?_
 refine zR 36 k3 ?_
 refine zM [4] 0 ⟨.exit .ret, [], [(4, .v (.int .i64 5))], []⟩ ?_
 refine zE (.v (.int .i64 5)) ?_
 have hq : itN = false := by
  rfl
 intro ρ w9 hw9 _
 exact ⟨by rw [hq]; rfl, hw9.below⟩
end Go.Proofs.YthfpekhpeiebjaaGreatDoor
end
