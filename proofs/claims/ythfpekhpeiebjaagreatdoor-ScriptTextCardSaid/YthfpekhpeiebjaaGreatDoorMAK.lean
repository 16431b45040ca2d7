/- Joined texts: ST, SM. -/
import Derived.Test.YthfpekhpeiebjaaGreatDoorMAH
import Derived.Test.YthfpekhpeiebjaaGreatDoorMAJ
set_option linter.unusedSimpArgs false
set_option linter.unusedVariables false
namespace Go.Sx
open Go
def cfAK (g s k sz sl of gp lt ea : Int) (d : Bool) : List SV := [.io .i64 g, .io .i64 s, .io .i64 k, .io .i64 sz, .io .i64 sl, .io .i64 of, .io .i64 gp, .io .i64 lt, .io .i64 ea, .bo d]
def zAK0 : List SV := [.agg [.v (.int .i64 0), .v (.int .i64 0), .v (.string (ByteArray.mk #[])), .v (.int .i64 0), .v (.int .i64 0), .v (.int .i64 0), .v (.int .i64 0), .v (.int .i64 0), .v (.int .i64 0), .v (.int IntKind.u32 0)], .v (.bool false)]
def zAK1 : List SV := [.v (.int .i64 0), .v (.int .i64 0), .v (.string (ByteArray.mk #[])), .v (.int .i64 0), .v (.int .i64 0), .v (.int .i64 0), .v (.int .i64 0), .v (.int .i64 0), .v (.int .i64 0), .v (.int IntKind.u32 0)]
def zAK2 : List SV := [.v (.int .i64 1), .v (.int .i64 3), .v (.string (ByteArray.mk #[])), .v (.int .i64 0), .v (.int .i64 0), .v (.int .i64 0), .v (.int .i64 0), .v (.int .i64 0), .v (.int .i64 0), .v (.int IntKind.u32 0)]
def zAK3 : List SV := [.v (.int .i64 3), .v (.int .i64 0), .v (.string (ByteArray.mk #[])), .v (.int .i64 0), .v (.int .i64 0), .v (.int .i64 0), .v (.int .i64 0), .v (.int .i64 0), .v (.int .i64 0), .v (.int IntKind.u32 0)]
def pAK4 : List Nat := [1, 1, 1, 0, 1, 4, 1, 3, 1, 3, 1, 3, 1, 3, 1, 2, 1, 1, 2, 0]
def pAK5 : List Nat := [1, 1, 1, 0, 1, 4, 1, 3, 1, 3, 1, 3, 1, 2, 1, 1, 2, 0]
def pAK6 : List Nat := [1, 1, 1, 0, 1, 4, 1, 3, 1, 3, 1, 3, 1, 3, 1, 2, 1, 0]
def pAK7 : List Nat := [1, 1, 1, 0, 1, 4, 1, 3, 1, 3, 1, 3, 1, 3, 1, 2, 1, 1]
def pAK8 : List Nat := [1, 1, 1, 0, 1, 4, 1, 3, 1, 3, 1, 2, 1, 1, 2, 0]
def pAK9 : List Nat := [1, 1, 0, 1, 4, 1, 3, 1, 3, 1, 3, 1, 2, 1, 0]
def pAK10 : List Nat := [1, 1, 1, 0, 1, 4, 1, 3, 1, 2, 1, 1, 2, 0]
def pAK11 : List Nat := [1, 1, 1, 0, 1, 4, 1, 2, 1, 1, 1, 1, 0]
def pAK12 : List Nat := [1, 1, 1, 0, 1, 4, 1, 2, 1, 0, 0]
def pAK13 : List Nat := [1, 1, 1, 0, 1, 4, 1, 2, 1, 0, 1]
def pAK14 : List Nat := [1, 1, 0, 1, 2, 0, 1, 4, 1, 2, 1]
def pAK15 : List Nat := [1, 1, 1, 0, 1, 4, 1, 2, 1, 1]
def pAK16 : List Nat := [1, 1, 0, 1, 4, 1, 2, 1, 1]
def pAK17 : List Nat := [1, 1, 1, 1]
def pAK18 : List Nat := [1, 1, 1]
end Go.Sx
section
namespace Go.Proofs.YthfpekhpeiebjaaGreatDoor
open Go.RowKit Go.Sx
noncomputable def B30 : Code := (Tryz.f30.body).getD .skip
theorem cut_cutB : ∀ t : List UInt8, Lib.cut t [32] = cutB t
 | [] => by simp [Lib.cut, Lib.index, cutB]
 | c :: r => by
  have ih := cut_cutB r
  have hg := Lib.index_ge r [32]
  unfold cutB
  by_cases hc : c = 32
  ·subst hc
   have hi : Lib.index (32 :: r) [32] = 0 := by unfold Lib.index; rw [if_pos (by simp [List.isPrefixOf])]
   simp [Lib.cut, hi]
  have hp : List.isPrefixOf [32] (c :: r) = false := by simp [List.isPrefixOf, Ne.symm hc]
  rw [if_neg hc, ← ih]
  by_cases h1 : Lib.index r [32] = -1
  ·have hi : Lib.index (c :: r) [32] = -1 := by unfold Lib.index; rw [if_neg (by simp [hp]), if_pos (by simp [h1])]
   simp [Lib.cut, hi, h1]
  have hi : Lib.index (c :: r) [32] = Lib.index r [32] + 1 := by
   conv => lhs; unfold Lib.index
   rw [if_neg (by simp [hp]), if_neg (by simp [h1])]
  obtain ⟨i, hi2⟩ : ∃ i : Nat, Lib.index r [32] = i := ⟨_, (Int.toNat_of_nonneg (by omega)).symm⟩
  have e1 : ((i : Int) + 1).toNat = i + 1 := by omega
  simp only [Lib.cut, hi, hi2]
  rw [if_pos (by omega), if_pos (by omega), e1]
  simp
theorem cutB_any {t ln rs : List UInt8} {en : Bool} (h : cutB t = (ln, rs, en)) (hs : t.length ≤ 1048576) (w : World) {m : Int} (hm : w.cell? ⟨1, 0, none⟩ = some (.int .i64 m)) :
  Calls Tryz.prog 50 #[.string (mkB t), .string ⟨#[32]⟩] w fun e w' => e = .returned (.tuple #[.string (mkB ln), .string (mkB rs), .bool en]) ∧ Below w.heap.size w w' :=
 (Tryz.strings_Cut (mkB t) ⟨#[32]⟩ m w (by rw [mkB_size]; omega) hm).mono fun e w' hh => by
  obtain ⟨rfl, n, rfl⟩ := hh
  have e1 : Lib.cut (mkB t).data.toList (ByteArray.mk #[32]).data.toList = (ln, rs, en) := (cut_cutB t).trans h
  rw [e1]
  exact ⟨rfl, rfl, rfl, rfl, Nat.le_refl _, fun _ _ => rfl⟩
theorem cutB_len : ∀ t : List UInt8, (cutB t).1.length ≤ t.length ∧ (cutB t).2.1.length ≤ t.length
 | [] => by simp [cutB]
 | c :: r => by
  have ih := cutB_len r
  unfold cutB
  by_cases hc : c = 32
  ·rw [if_pos hc]
   simp
  rw [if_neg hc]
  simp only [List.length_cons]
  exact ⟨by omega, by omega⟩
theorem w_yes {x y : List UInt8} (h : ((mkB x).toList == (mkB y).toList) = true) : x = y := by
 rw [str_beq] at h
 exact of_decide_eq_true h
theorem w_no {x y : List UInt8} (h : ((mkB x).toList == (mkB y).toList) = false) : x ≠ y := by
 rw [str_beq] at h
 exact of_decide_eq_false h
theorem keyK_len {s k q : List UInt8} (h : keyK s = some (k, q)) : q.length ≤ s.length := by
 rw [keyK_iff] at h
 subst h
 simp
def zst : Value := .agg #[.int .i64 0, .int .i64 0, .string ⟨#[]⟩, .int .i64 0, .int .i64 0, .int .i64 0, .int .i64 0, .int .i64 0, .int .i64 0, .int .u32 0]
def stepV : Option St → Value
 | none => .tuple #[zst, .bool false]
 | some x => .tuple #[.agg x.w.toArray, .bool true]
theorem nums_len2 {s : List UInt8} {n : Nat} {l : List Int} (h : numsP s n = some l) : l.length = n := by
 unfold numsP at h
 split at h
 ·rename_i hn
  rw [← hn]
  have key : ∀ (ps : List (List UInt8)) (r : List Int), ps.mapM numK = some r → r.length = ps.length := by
   intro ps
   induction ps with
   | nil => intro r hr; simp at hr; subst hr; rfl
   | cons p ps ih =>
    intro r hr
    simp only [List.mapM_cons] at hr
    cases hp : numK p with
    | none => rw [hp] at hr; cases hr
    | some y =>
     rw [hp] at hr
     cases hq : ps.mapM numK with
     | none => rw [hq] at hr; cases hr
     | some ys =>
      rw [hq] at hr
      injection hr with hr
      subst hr
      simp [ih ys hq]
  exact key _ _ h
 cases h
theorem nums_one {s : List UInt8} {l : List Int} (h : numsP s 1 = some l) : ∃ x, l = [x] := by
 match l, nums_len2 h with
 | [x], _ => exact ⟨x, rfl⟩
theorem nums_two {s : List UInt8} {l : List Int} (h : numsP s 2 = some l) : ∃ x y, l = [x, y] := by
 match l, nums_len2 h with
 | [x, y], _ => exact ⟨x, y, rfl⟩
section
variable {Q : Exit → Act → World → Prop} {N : Nat} {w0 : World} {ntm : Nat} {F : List Nat → World → Prop} [Md]
theorem At.learn {s : S} {p : Prop} (hp : ∀ ρ w, F ρ w → p) (h : p → At Tryz.prog Q N w0 ntm F s) : At Tryz.prog Q N w0 ntm F s := fun ρ a w hi hf => h (hp ρ w hf) ρ a w hi hf
end
set_option maxHeartbeats 20000000 in
set_option maxRecDepth 100000 in
theorem step_any (s : List UInt8) (hs : s.length ≤ 1048576) (w : World) (hw : Wd w) :
  Calls Tryz.prog 30 #[.string (mkB s)] w fun e w' => e = .returned (stepV (stepP s)) ∧ Below w.heap.size w w' := by
 generalize hR : stepP s = R
 obtain ⟨⟨wd, rst, more⟩, hc⟩ : ∃ x, cutB s = x := ⟨_, rfl⟩
 have hcl := cutB_len s
 rw [hc] at hcl
 simp only at hcl
 refine enterF (N := w.heap.size) (F := RowE w (fun _ => False) [] w.heap.size 2 1 none 0 0 [] []) (fn := Tryz.f30) (c := B30) [.so (mkB s)] Tryz.func30 rfl rfl (Nat.le_refl _) ⟨⟨⟨⟨World.ownsRow_nil _ _ _ _, by simp [Value.ownBlock]⟩, Nat.le_refl _⟩, FrameR.start _ [] (by simp), by simp [Value.ownBlock]⟩, by simp⟩ ?_
 refine zU RowE.stable RowE.fewer [2, 20] 1 ⟨pops B30 [1, 0] 1, [.seq (sub B30 [1, 1])], [(2, .lp 0 0), (20, .so (mkB s))], [(zAK1, 41)]⟩ ?_
 refine zC RowE.stable 50 [.so (mkB s), .v (.string ⟨#[32]⟩)] (.tup [.so (mkB wd), .so (mkB rst), .v (.bool more)]) (fun _ _ w1 hi _ => ?_) ?_
 ·obtain ⟨mm, h3⟩ := (hw.below hi.mem.below).c1
  exact cutB_any hc hs w1 h3
 cases more with
 | false =>
  refine zU RowE.stable RowE.fewer [2, 27, 28] 1 ⟨.code (sub B30 [1, 1, 0, 1, 2, 0, 1, 4, 1]), [.block 0, .seq (sub B30 [1, 1, 0, 1, 2, 1]), .seq (sub B30 pAK18)], [(2, .lp 0 0), (27, .so (mkB wd)), (28, .bo ((mkB wd).toList == (ByteArray.mk #[115, 97, 118, 101]).toList))], [(zAK1, 41)]⟩ ?_
  rcases Bool.eq_false_or_eq_true ((mkB wd).toList == (ByteArray.mk #[115, 97, 118, 101]).toList) with b0 | b0
  ·refine zR 28 b0 ?_
   refine zU RowE.stable RowE.fewer [2, 3] 1 ⟨.exit .ret, [], [(2, .lp 0 0), (3, .v (.bool true))], [(zAK2, 41)]⟩ ?_
   refine zE (.tup [.agg zAK2, .v (.bool true)]) ?_
   have e0 : wd = [115, 97, 118, 101] := w_yes (y := [115, 97, 118, 101]) b0
   have hq : stepP s = some sv1 := by simp [stepP, hc, e0]
   intro ρ w9 hm' hf
   exact ⟨by rw [← hR, hq]; rfl, hm'.below⟩
  refine zR 28 b0 ?_
  refine zU RowE.stable RowE.fewer [2, 32] 1 ⟨.code (sub B30 [1, 1, 0, 1, 2, 0, 1, 4, 1, 3, 1]), [.block 0, .seq (sub B30 [1, 1, 0, 1, 2, 1]), .seq (sub B30 pAK18)], [(2, .lp 0 0), (32, .bo ((mkB wd).toList == (ByteArray.mk #[100, 114, 97, 105, 110]).toList))], [(zAK1, 41)]⟩ ?_
  rcases Bool.eq_false_or_eq_true ((mkB wd).toList == (ByteArray.mk #[100, 114, 97, 105, 110]).toList) with b1 | b1
  ·refine zR 32 b1 ?_
   refine zU RowE.stable RowE.fewer [2, 3] 1 ⟨.exit .ret, [], [(2, .lp 0 0), (3, .v (.bool true))], [(zAK3, 41)]⟩ ?_
   refine zE (.tup [.agg zAK3, .v (.bool true)]) ?_
   have e0 : wd ≠ [115, 97, 118, 101] := w_no (y := [115, 97, 118, 101]) b0
   have e1 : wd = [100, 114, 97, 105, 110] := w_yes (y := [100, 114, 97, 105, 110]) b1
   have hq : stepP s = some dr := by simp [stepP, hc, e0, e1]
   intro ρ w9 hm' hf
   exact ⟨by rw [← hR, hq]; rfl, hm'.below⟩
  refine zR 32 b1 ?_
  refine zU RowE.stable RowE.fewer [2, 3] 1 ⟨.exit .ret, [], [(2, .lp 0 0), (3, .v (.bool false))], [(zAK1, 41)]⟩ ?_
  refine zE (.tup zAK0) ?_
  have e0 : wd ≠ [115, 97, 118, 101] := w_no (y := [115, 97, 118, 101]) b0
  have e1 : wd ≠ [100, 114, 97, 105, 110] := w_no (y := [100, 114, 97, 105, 110]) b1
  have hq : stepP s = none := by simp [stepP, hc, e0, e1]
  intro ρ w9 hm' hf
  exact ⟨by rw [← hR, hq]; rfl, hm'.below⟩
 | true =>
  refine zU RowE.stable RowE.fewer [2, 5, 36, 37] 1 ⟨.code (sub B30 [1, 1, 1, 0, 1, 4, 1]), [.block 1, .seq (sub B30 pAK17)], [(2, .lp 0 0), (5, .so (mkB rst)), (36, .so (mkB wd)), (37, .bo ((mkB wd).toList == (ByteArray.mk #[101, 118, 101, 110, 116]).toList))], [(zAK1, 41)]⟩ ?_
  rcases Bool.eq_false_or_eq_true ((mkB wd).toList == (ByteArray.mk #[101, 118, 101, 110, 116]).toList) with b0 | b0
  ·refine zR 37 b0 ?_
   refine zU RowE.stable RowE.fewer [2, 40] 1 ⟨pops B30 [1, 1, 1, 0, 1, 4, 1, 2, 0] 1, [.seq (sub B30 [1, 1, 1, 0, 1, 4, 1, 2, 1]), .block 1, .seq (sub B30 pAK17)], [(2, .lp 0 0), (40, .so (mkB rst))], [(zAK1, 41)]⟩ ?_
   have e0 : wd = [101, 118, 101, 110, 116] := w_yes (y := [101, 118, 101, 110, 116]) b0
   cases hk : keyK rst with
   | none =>
    refine zC RowE.stable 60 [.so (mkB rst)] (.tup [.v (.string ⟨#[]⟩), .v (.string ⟨#[]⟩), .v (.bool false)]) (fun _ _ w1 hi _ => let ⟨tp, qq, hv⟩ := (hw.below hi.mem.below).v1; (unquote_any rst (by omega) w1 hv).mono fun e w2 h => ⟨h.1.trans (by rw [hk]; rfl), h.2⟩) ?_
    refine zU RowE.stable RowE.fewer [2, 3] 1 ⟨.exit .ret, [], [(2, .lp 0 0), (3, .v (.bool false))], [(zAK1, 41)]⟩ ?_
    refine zE (.tup zAK0) ?_
    have hq : stepP s = none := by simp [stepP, hc, e0, hk]
    intro ρ w9 hm' hf
    exact ⟨by rw [← hR, hq]; rfl, hm'.below⟩
   | some kq =>
    obtain ⟨k, q⟩ := kq
    refine zC RowE.stable 60 [.so (mkB rst)] (.tup [.so (mkB k), .so (mkB q), .v (.bool true)]) (fun _ _ w1 hi _ => let ⟨tp, qq, hv⟩ := (hw.below hi.mem.below).v1; (unquote_any rst (by omega) w1 hv).mono fun e w2 h => ⟨h.1.trans (by rw [hk]; rfl), h.2⟩) ?_
    have hql := keyK_len hk
    cases q with
    | nil =>
     refine zU RowE.stable RowE.fewer [2, 7, 8, 51] 1 ⟨pops B30 pAK12 7, [.seq (sub B30 pAK13), .seq (sub B30 pAK15), .block 1, .seq (sub B30 pAK17)], [(2, .lp 0 0), (7, .so (mkB k)), (8, .so (mkB [])), (51, .bo true)], [(zAK1, 41)]⟩ ?_
     refine At.res 51 (true) true (by kernel_rfl) (by first | assumption | (simp only [*]; done) | (simp [*]; done)) ?_
     refine zU RowE.stable RowE.fewer [2, 3] 1 ⟨.exit .ret, [], [(2, .lp 0 0), (3, .v (.bool false))], [(zAK1, 41)]⟩ ?_
     refine zE (.tup zAK0) ?_
     have hq : stepP s = none := by simp [stepP, hc, e0, hk]
     intro ρ w9 hm' hf
     exact ⟨by rw [← hR, hq]; rfl, hm'.below⟩
    | cons c q =>
     refine zU RowE.stable RowE.fewer [2, 7, 8, 51] 1 ⟨pops B30 pAK12 7, [.seq (sub B30 pAK13), .seq (sub B30 pAK15), .block 1, .seq (sub B30 pAK17)], [(2, .lp 0 0), (7, .so (mkB k)), (8, .so (mkB (c :: q))), (51, .bo ((mkB (c :: q)).toList == (ByteArray.mk #[]).toList))], [(zAK1, 41)]⟩ ?_
     rcases Bool.eq_false_or_eq_true ((mkB (c :: q)).toList == (ByteArray.mk #[]).toList) with b0 | b0
     ·refine zR 51 b0 ?_
      refine zU RowE.stable RowE.fewer [2, 3] 1 ⟨.exit .ret, [], [(2, .lp 0 0), (3, .v (.bool false))], [(zAK1, 41)]⟩ ?_
      refine zE (.tup zAK0) ?_
      cases emp_true b0
     refine zR 51 b0 ?_
     refine zU RowE.stable RowE.fewer [2, 7, 8, 51, 52] 1 ⟨pops B30 pAK12 8, [.seq (sub B30 pAK13), .seq (sub B30 pAK15), .block 1, .seq (sub B30 pAK17)], [(2, .lp 0 0), (7, .so (mkB k)), (8, .so (mkB (c :: q))), (51, .v (.bool false)), (52, .so (mkB (c :: q)))], [(zAK1, 41)]⟩ ?_
     have hcl := c.toNat_lt
     refine At.six (mkB (c :: q)) 0 c (by kernel_rfl) (by omega) rfl RowE.stable ?_
     refine zU RowE.stable RowE.fewer [2, 7, 8, 55] 1 ⟨.code (sub B30 pAK13), [.seq (sub B30 pAK15), .block 1, .seq (sub B30 pAK17)], [(2, .lp 0 0), (7, .so (mkB k)), (8, .so (mkB (c :: q))), (55, .bo ((↑c.toNat : Int) != 32))], [(zAK1, 41)]⟩ ?_
     rcases Bool.eq_false_or_eq_true ((↑c.toNat : Int) != 32) with b0 | b0
     ·refine zR 55 b0 ?_
      refine zU RowE.stable RowE.fewer [2, 3] 1 ⟨.exit .ret, [], [(2, .lp 0 0), (3, .v (.bool false))], [(zAK1, 41)]⟩ ?_
      refine zE (.tup zAK0) ?_
      have hc32 : c ≠ 32 := fun e => by subst e; exact absurd b0 (by decide)
      have hq : stepP s = none := by simp [stepP, hc, e0, hk, hc32]
      intro ρ w9 hm' hf
      exact ⟨by rw [← hR, hq]; rfl, hm'.below⟩
     refine zR 55 b0 ?_
     refine zU RowE.stable RowE.fewer [2, 7, 58] 1 ⟨pops B30 [1, 1, 1, 0, 1, 4, 1, 2, 1, 1, 0] 1, [.seq (sub B30 [1, 1, 1, 0, 1, 4, 1, 2, 1, 1, 1]), .block 1, .seq (sub B30 pAK17)], [(2, .lp 0 0), (7, .so (mkB k)), (58, .so (mkB (c :: q)))], [(zAK1, 41)]⟩ ?_
     have hc32 : c = 32 := UInt8.toNat_inj.1 (by simp at b0; show c.toNat = 32; omega)
     subst hc32
     refine sslW (32 :: q) 1 q rfl (by kernel_rfl) (by simp) RowE.stable ?_
     refine zU RowE.stable RowE.fewer [2, 7, 59] 1 ⟨pops B30 [1, 1, 1, 0, 1, 4, 1, 2, 1, 1, 0] 2, [.seq (sub B30 [1, 1, 1, 0, 1, 4, 1, 2, 1, 1, 1]), .block 1, .seq (sub B30 pAK17)], [(2, .lp 0 0), (7, .so (mkB k)), (59, .so (mkB q))], [(zAK1, 41)]⟩ ?_
     cases hnp : numsP q 2 with
     | none =>
      refine zC RowE.stable 29 [.so (mkB q), .v (.int .i64 2)] (.tup [.v (.slice none 0 0), .v (.bool false)]) (fun _ _ w1 hi _ => numbers_none q 2 (by decide) (by simp only [List.length_cons] at hql; omega) hnp w1 (hw.below hi.mem.below)) ?_
      refine zU RowE.stable RowE.fewer [2, 3] 1 ⟨.exit .ret, [], [(2, .lp 0 0), (3, .v (.bool false))], [(zAK1, 41)]⟩ ?_
      refine zE (.tup zAK0) ?_
      have hq : stepP s = none := by simp [stepP, hc, e0, hk, hnp]
      intro ρ w9 hm' hf
      exact ⟨by rw [← hR, hq]; rfl, hm'.below⟩
     | some l1 =>
      obtain ⟨x0, x1, rfl⟩ := nums_two hnp
      refine At.mkrowE 29 [.so (mkB q), .v (.int .i64 2)] (fun A' n' c' => .tup [.sl A' n' c', .v (.bool true)]) [.int .i64 x0, .int .i64 x1] (by kernel_rfl) (by kernel_rfl) (by kernel_rfl) (by kernel_rfl) (by kernel_rfl) (by simp) (fun ρ w1 hm' hf => (numbers_some q 2 (by decide) [x0, x1] (by simp only [List.length_cons] at hql; omega) hnp w1 (hw.below hm'.below)).mono fun e w' ⟨A', c', h1, h2⟩ => ⟨A', 2, c', h1, h2⟩) ?_
      intro A1 n1 c1
      refine At.pure fun ⟨hn1, hc1⟩ => ?_
      obtain rfl : n1 = 2 := by simpa using hn1.symm
      clear hn1 hc1
      refine At.learn (p := ∃ b, A1 = some ⟨b, 0, none⟩) (fun ρ w1 hf => let ⟨b, h, _⟩ := hf.2 _ (List.mem_singleton.2 rfl); ⟨b, h⟩) ?_
      rintro ⟨b1, rfl⟩
      refine zU RowE.stable RowE.fewer [2, 10, 66, 67] 1 ⟨.qops (opsOf (sub B30 pAK11)) (((opsOf (sub B30 pAK11)).toList.take 9).drop 2), [.tail (opsOf (sub B30 pAK11)) ((opsOf (sub B30 pAK11)).toList.drop 9), .seq (sub B30 pAK14), .block 1, .seq (sub B30 pAK17)], [(2, .lp 0 0), (10, .sl (some (Addr.mk b1 0 none)) 2 c1), (66, .so (mkB k)), (67, .sl (some (Addr.mk b1 0 none)) 2 c1)], [(zAK1, 41)]⟩ ?_
      refine At.idx ⟨b1, 0, none⟩ 2 1 0 (by kernel_rfl) (by omega) (by omega) RowE.stable ?_
      refine zU RowE.stable RowE.fewer [2, 10, 66, 68] 1 ⟨.qops (opsOf (sub B30 pAK11)) (((opsOf (sub B30 pAK11)).toList.take 9).drop 3), [.tail (opsOf (sub B30 pAK11)) ((opsOf (sub B30 pAK11)).toList.drop 9), .seq (sub B30 pAK14), .block 1, .seq (sub B30 pAK17)], [(2, .lp 0 0), (10, .sl (some (Addr.mk b1 0 none)) 2 c1), (66, .so (mkB k)), (68, .v (.pointer (some (Addr.mk b1 0 none))))], [(zAK1, 41)]⟩ ?_
      refine At.ldx ((⟨b1, 0, none⟩ : Addr).add ((0 : Int).toNat * 1)) (.io .i64 x0) (by kernel_rfl) RowE.stable (fun ρ w1 hm' hf => ent_src (hf.2 _ (List.mem_singleton.2 rfl)) 0 _ rfl) ?_
      refine zU RowE.stable RowE.fewer [2, 66, 69, 70] 1 ⟨.qops (opsOf (sub B30 pAK11)) (((opsOf (sub B30 pAK11)).toList.take 9).drop 5), [.tail (opsOf (sub B30 pAK11)) ((opsOf (sub B30 pAK11)).toList.drop 9), .seq (sub B30 pAK14), .block 1, .seq (sub B30 pAK17)], [(2, .lp 0 0), (66, .so (mkB k)), (69, .io .i64 x0), (70, .sl (some (Addr.mk b1 0 none)) 2 c1)], [(zAK1, 41)]⟩ ?_
      refine At.idx ⟨b1, 0, none⟩ 2 1 1 (by kernel_rfl) (by omega) (by omega) RowE.stable ?_
      refine zU RowE.stable RowE.fewer [2, 66, 69, 71] 1 ⟨.qops (opsOf (sub B30 pAK11)) (((opsOf (sub B30 pAK11)).toList.take 9).drop 6), [.tail (opsOf (sub B30 pAK11)) ((opsOf (sub B30 pAK11)).toList.drop 9), .seq (sub B30 pAK14), .block 1, .seq (sub B30 pAK17)], [(2, .lp 0 0), (66, .so (mkB k)), (69, .io .i64 x0), (71, .v (.pointer (some (Addr.mk b1 1 none))))], [(zAK1, 41)]⟩ ?_
      refine At.ldx ((⟨b1, 0, none⟩ : Addr).add ((1 : Int).toNat * 1)) (.io .i64 x1) (by kernel_rfl) RowE.stable (fun ρ w1 hm' hf => ent_src (hf.2 _ (List.mem_singleton.2 rfl)) 1 _ rfl) ?_
      refine zU RowE.stable RowE.fewer [2, 3] 1 ⟨.exit .ret, [], [(2, .lp 0 0), (3, .v (.bool true))], [([.v (.int .i64 1), .v (.int .i64 1), .so (mkB k), .io .i64 x0, .io .i64 x1, .v (.int .i64 0), .v (.int .i64 0), .v (.int .i64 0), .v (.int .i64 0), .v (.int IntKind.u32 0)], 41)]⟩ ?_
      refine zE (.tup [.agg [.v (.int .i64 1), .v (.int .i64 1), .so (mkB k), .io .i64 x0, .io .i64 x1, .v (.int .i64 0), .v (.int .i64 0), .v (.int .i64 0), .v (.int .i64 0), .v (.int IntKind.u32 0)], .v (.bool true)]) ?_
      have hq : stepP s = some (ev k x0 x1) := by simp [stepP, hc, e0, hk, hnp]
      intro ρ w9 hm' hf
      exact ⟨by rw [← hR, hq]; rfl, hm'.below⟩
  refine zR 37 b0 ?_
  refine zU RowE.stable RowE.fewer [2, 5, 36, 75] 1 ⟨.code (sub B30 [1, 1, 1, 0, 1, 4, 1, 3, 1]), [.block 1, .seq (sub B30 pAK17)], [(2, .lp 0 0), (5, .so (mkB rst)), (36, .so (mkB wd)), (75, .bo ((mkB wd).toList == (ByteArray.mk #[109, 97, 114, 107]).toList))], [(zAK1, 41)]⟩ ?_
  rcases Bool.eq_false_or_eq_true ((mkB wd).toList == (ByteArray.mk #[109, 97, 114, 107]).toList) with b1 | b1
  ·refine zR 75 b1 ?_
   refine zU RowE.stable RowE.fewer [2, 78] 1 ⟨pops B30 [1, 1, 1, 0, 1, 4, 1, 3, 1, 2, 0] 1, [.seq (sub B30 [1, 1, 1, 0, 1, 4, 1, 3, 1, 2, 1]), .block 1, .seq (sub B30 pAK17)], [(2, .lp 0 0), (78, .so (mkB rst))], [(zAK1, 41)]⟩ ?_
   have e0 : wd ≠ [101, 118, 101, 110, 116] := w_no (y := [101, 118, 101, 110, 116]) b0
   have e1 : wd = [109, 97, 114, 107] := w_yes (y := [109, 97, 114, 107]) b1
   cases hnp : numsP rst 2 with
   | none =>
    refine zC RowE.stable 29 [.so (mkB rst), .v (.int .i64 2)] (.tup [.v (.slice none 0 0), .v (.bool false)]) (fun _ _ w1 hi _ => numbers_none rst 2 (by decide) (by omega) hnp w1 (hw.below hi.mem.below)) ?_
    refine zU RowE.stable RowE.fewer [2, 3] 1 ⟨.exit .ret, [], [(2, .lp 0 0), (3, .v (.bool false))], [(zAK1, 41)]⟩ ?_
    refine zE (.tup zAK0) ?_
    have hq : stepP s = none := by simp [stepP, hc, e0, e1, hnp]
    intro ρ w9 hm' hf
    exact ⟨by rw [← hR, hq]; rfl, hm'.below⟩
   | some l1 =>
    obtain ⟨x0, x1, rfl⟩ := nums_two hnp
    refine At.mkrowE 29 [.so (mkB rst), .v (.int .i64 2)] (fun A' n' c' => .tup [.sl A' n' c', .v (.bool true)]) [.int .i64 x0, .int .i64 x1] (by kernel_rfl) (by kernel_rfl) (by kernel_rfl) (by kernel_rfl) (by kernel_rfl) (by simp) (fun ρ w1 hm' hf => (numbers_some rst 2 (by decide) [x0, x1] (by omega) hnp w1 (hw.below hm'.below)).mono fun e w' ⟨A', c', h1, h2⟩ => ⟨A', 2, c', h1, h2⟩) ?_
    intro A1 n1 c1
    refine At.pure fun ⟨hn1, hc1⟩ => ?_
    obtain rfl : n1 = 2 := by simpa using hn1.symm
    clear hn1 hc1
    refine At.learn (p := ∃ b, A1 = some ⟨b, 0, none⟩) (fun ρ w1 hf => let ⟨b, h, _⟩ := hf.2 _ (List.mem_singleton.2 rfl); ⟨b, h⟩) ?_
    rintro ⟨b1, rfl⟩
    refine zU RowE.stable RowE.fewer [2, 11, 83] 1 ⟨.qops (opsOf (sub B30 pAK10)) (((opsOf (sub B30 pAK10)).toList.take 8).drop 1), [.tail (opsOf (sub B30 pAK10)) ((opsOf (sub B30 pAK10)).toList.drop 8), .seq (sub B30 pAK14), .block 1, .seq (sub B30 pAK17)], [(2, .lp 0 0), (11, .sl (some (Addr.mk b1 0 none)) 2 c1), (83, .sl (some (Addr.mk b1 0 none)) 2 c1)], [(zAK1, 41)]⟩ ?_
    refine At.idx ⟨b1, 0, none⟩ 2 1 0 (by kernel_rfl) (by omega) (by omega) RowE.stable ?_
    refine zU RowE.stable RowE.fewer [2, 11, 84] 1 ⟨.qops (opsOf (sub B30 pAK10)) (((opsOf (sub B30 pAK10)).toList.take 8).drop 2), [.tail (opsOf (sub B30 pAK10)) ((opsOf (sub B30 pAK10)).toList.drop 8), .seq (sub B30 pAK14), .block 1, .seq (sub B30 pAK17)], [(2, .lp 0 0), (11, .sl (some (Addr.mk b1 0 none)) 2 c1), (84, .v (.pointer (some (Addr.mk b1 0 none))))], [(zAK1, 41)]⟩ ?_
    refine At.ldx ((⟨b1, 0, none⟩ : Addr).add ((0 : Int).toNat * 1)) (.io .i64 x0) (by kernel_rfl) RowE.stable (fun ρ w1 hm' hf => ent_src (hf.2 _ (List.mem_singleton.2 rfl)) 0 _ rfl) ?_
    refine zU RowE.stable RowE.fewer [2, 85, 86] 1 ⟨.qops (opsOf (sub B30 pAK10)) (((opsOf (sub B30 pAK10)).toList.take 8).drop 4), [.tail (opsOf (sub B30 pAK10)) ((opsOf (sub B30 pAK10)).toList.drop 8), .seq (sub B30 pAK14), .block 1, .seq (sub B30 pAK17)], [(2, .lp 0 0), (85, .io .i64 x0), (86, .sl (some (Addr.mk b1 0 none)) 2 c1)], [(zAK1, 41)]⟩ ?_
    refine At.idx ⟨b1, 0, none⟩ 2 1 1 (by kernel_rfl) (by omega) (by omega) RowE.stable ?_
    refine zU RowE.stable RowE.fewer [2, 85, 87] 1 ⟨.qops (opsOf (sub B30 pAK10)) (((opsOf (sub B30 pAK10)).toList.take 8).drop 5), [.tail (opsOf (sub B30 pAK10)) ((opsOf (sub B30 pAK10)).toList.drop 8), .seq (sub B30 pAK14), .block 1, .seq (sub B30 pAK17)], [(2, .lp 0 0), (85, .io .i64 x0), (87, .v (.pointer (some (Addr.mk b1 1 none))))], [(zAK1, 41)]⟩ ?_
    refine At.ldx ((⟨b1, 0, none⟩ : Addr).add ((1 : Int).toNat * 1)) (.io .i64 x1) (by kernel_rfl) RowE.stable (fun ρ w1 hm' hf => ent_src (hf.2 _ (List.mem_singleton.2 rfl)) 1 _ rfl) ?_
    refine zU RowE.stable RowE.fewer [2, 3] 1 ⟨.exit .ret, [], [(2, .lp 0 0), (3, .v (.bool true))], [([.v (.int .i64 1), .v (.int .i64 2), .v (.string (ByteArray.mk #[])), .io .i64 x1, .v (.int .i64 0), .io .i64 x0, .v (.int .i64 0), .v (.int .i64 0), .v (.int .i64 0), .v (.int IntKind.u32 0)], 41)]⟩ ?_
    refine zE (.tup [.agg [.v (.int .i64 1), .v (.int .i64 2), .v (.string (ByteArray.mk #[])), .io .i64 x1, .v (.int .i64 0), .io .i64 x0, .v (.int .i64 0), .v (.int .i64 0), .v (.int .i64 0), .v (.int IntKind.u32 0)], .v (.bool true)]) ?_
    have hq : stepP s = some (mk x0 x1) := by simp [stepP, hc, e0, e1, hnp]
    intro ρ w9 hm' hf
    exact ⟨by rw [← hR, hq]; rfl, hm'.below⟩
  refine zR 75 b1 ?_
  refine zU RowE.stable RowE.fewer [2, 5, 36, 91] 1 ⟨.code (sub B30 [1, 1, 1, 0, 1, 4, 1, 3, 1, 3, 1]), [.block 1, .seq (sub B30 pAK17)], [(2, .lp 0 0), (5, .so (mkB rst)), (36, .so (mkB wd)), (91, .bo ((mkB wd).toList == (ByteArray.mk #[112, 105, 99, 107]).toList))], [(zAK1, 41)]⟩ ?_
  rcases Bool.eq_false_or_eq_true ((mkB wd).toList == (ByteArray.mk #[112, 105, 99, 107]).toList) with b2 | b2
  ·refine zR 91 b2 ?_
   refine zU RowE.stable RowE.fewer [2, 94] 1 ⟨pops B30 [1, 1, 1, 0, 1, 4, 1, 3, 1, 3, 1, 2, 0] 1, [.seq (sub B30 [1, 1, 1, 0, 1, 4, 1, 3, 1, 3, 1, 2, 1]), .block 1, .seq (sub B30 pAK17)], [(2, .lp 0 0), (94, .so (mkB rst))], [(zAK1, 41)]⟩ ?_
   have e0 : wd ≠ [101, 118, 101, 110, 116] := w_no (y := [101, 118, 101, 110, 116]) b0
   have e1 : wd ≠ [109, 97, 114, 107] := w_no (y := [109, 97, 114, 107]) b1
   have e2 : wd = [112, 105, 99, 107] := w_yes (y := [112, 105, 99, 107]) b2
   cases hnp : numsP rst 1 with
   | none =>
    refine zC RowE.stable 29 [.so (mkB rst), .v (.int .i64 1)] (.tup [.v (.slice none 0 0), .v (.bool false)]) (fun _ _ w1 hi _ => numbers_none rst 1 (by decide) (by omega) hnp w1 (hw.below hi.mem.below)) ?_
    refine zU RowE.stable RowE.fewer [2, 3] 1 ⟨.exit .ret, [], [(2, .lp 0 0), (3, .v (.bool false))], [(zAK1, 41)]⟩ ?_
    refine zE (.tup zAK0) ?_
    have hq : stepP s = none := by simp [stepP, hc, e0, e1, e2, hnp]
    intro ρ w9 hm' hf
    exact ⟨by rw [← hR, hq]; rfl, hm'.below⟩
   | some l1 =>
    obtain ⟨x0, rfl⟩ := nums_one hnp
    refine At.mkrowE 29 [.so (mkB rst), .v (.int .i64 1)] (fun A' n' c' => .tup [.sl A' n' c', .v (.bool true)]) [.int .i64 x0] (by kernel_rfl) (by kernel_rfl) (by kernel_rfl) (by kernel_rfl) (by kernel_rfl) (by simp) (fun ρ w1 hm' hf => (numbers_some rst 1 (by decide) [x0] (by omega) hnp w1 (hw.below hm'.below)).mono fun e w' ⟨A', c', h1, h2⟩ => ⟨A', 1, c', h1, h2⟩) ?_
    intro A1 n1 c1
    refine At.pure fun ⟨hn1, hc1⟩ => ?_
    obtain rfl : n1 = 1 := by simpa using hn1.symm
    clear hn1 hc1
    refine At.learn (p := ∃ b, A1 = some ⟨b, 0, none⟩) (fun ρ w1 hf => let ⟨b, h, _⟩ := hf.2 _ (List.mem_singleton.2 rfl); ⟨b, h⟩) ?_
    rintro ⟨b1, rfl⟩
    refine zU RowE.stable RowE.fewer [2, 99] 1 ⟨pops B30 pAK8 1, [.seq (sub B30 pAK14), .block 1, .seq (sub B30 pAK17)], [(2, .lp 0 0), (99, .sl (some (Addr.mk b1 0 none)) 1 c1)], [(zAK1, 41)]⟩ ?_
    refine At.idx ⟨b1, 0, none⟩ 1 1 0 (by kernel_rfl) (by omega) (by omega) RowE.stable ?_
    refine zU RowE.stable RowE.fewer [2, 100] 1 ⟨pops B30 pAK8 2, [.seq (sub B30 pAK14), .block 1, .seq (sub B30 pAK17)], [(2, .lp 0 0), (100, .v (.pointer (some (Addr.mk b1 0 none))))], [(zAK1, 41)]⟩ ?_
    refine At.ldx ((⟨b1, 0, none⟩ : Addr).add ((0 : Int).toNat * 1)) (.io .i64 x0) (by kernel_rfl) RowE.stable (fun ρ w1 hm' hf => ent_src (hf.2 _ (List.mem_singleton.2 rfl)) 0 _ rfl) ?_
    refine zU RowE.stable RowE.fewer [2, 3] 1 ⟨.exit .ret, [], [(2, .lp 0 0), (3, .v (.bool true))], [([.v (.int .i64 2), .v (.int .i64 0), .v (.string (ByteArray.mk #[])), .v (.int .i64 0), .v (.int .i64 0), .v (.int .i64 0), .io .i64 x0, .v (.int .i64 0), .v (.int .i64 0), .v (.int IntKind.u32 0)], 41)]⟩ ?_
    refine zE (.tup [.agg [.v (.int .i64 2), .v (.int .i64 0), .v (.string (ByteArray.mk #[])), .v (.int .i64 0), .v (.int .i64 0), .v (.int .i64 0), .io .i64 x0, .v (.int .i64 0), .v (.int .i64 0), .v (.int IntKind.u32 0)], .v (.bool true)]) ?_
    have hq : stepP s = some (pk x0) := by simp [stepP, hc, e0, e1, e2, hnp]
    intro ρ w9 hm' hf
    exact ⟨by rw [← hR, hq]; rfl, hm'.below⟩
  refine zR 91 b2 ?_
  refine zU RowE.stable RowE.fewer [2, 5, 36, 103] 1 ⟨.code (sub B30 [1, 1, 1, 0, 1, 4, 1, 3, 1, 3, 1, 3, 1]), [.block 1, .seq (sub B30 pAK17)], [(2, .lp 0 0), (5, .so (mkB rst)), (36, .so (mkB wd)), (103, .bo ((mkB wd).toList == (ByteArray.mk #[114, 101, 115, 116, 111, 114, 101]).toList))], [(zAK1, 41)]⟩ ?_
  rcases Bool.eq_false_or_eq_true ((mkB wd).toList == (ByteArray.mk #[114, 101, 115, 116, 111, 114, 101]).toList) with b3 | b3
  ·refine zR 103 b3 ?_
   refine zU RowE.stable RowE.fewer [2, 106] 1 ⟨pops B30 [1, 1, 1, 0, 1, 4, 1, 3, 1, 3, 1, 3, 1, 2, 0] 1, [.seq (sub B30 [1, 1, 1, 0, 1, 4, 1, 3, 1, 3, 1, 3, 1, 2, 1]), .block 1, .seq (sub B30 pAK17)], [(2, .lp 0 0), (106, .so (mkB rst))], [(zAK1, 41)]⟩ ?_
   have e0 : wd ≠ [101, 118, 101, 110, 116] := w_no (y := [101, 118, 101, 110, 116]) b0
   have e1 : wd ≠ [109, 97, 114, 107] := w_no (y := [109, 97, 114, 107]) b1
   have e2 : wd ≠ [112, 105, 99, 107] := w_no (y := [112, 105, 99, 107]) b2
   have e3 : wd = [114, 101, 115, 116, 111, 114, 101] := w_yes (y := [114, 101, 115, 116, 111, 114, 101]) b3
   cases hnp : numsP rst 1 with
   | none =>
    refine zC RowE.stable 29 [.so (mkB rst), .v (.int .i64 1)] (.tup [.v (.slice none 0 0), .v (.bool false)]) (fun _ _ w1 hi _ => numbers_none rst 1 (by decide) (by omega) hnp w1 (hw.below hi.mem.below)) ?_
    refine zU RowE.stable RowE.fewer [2, 3] 1 ⟨.exit .ret, [], [(2, .lp 0 0), (3, .v (.bool false))], [(zAK1, 41)]⟩ ?_
    refine zE (.tup zAK0) ?_
    have hq : stepP s = none := by simp [stepP, hc, e0, e1, e2, e3, hnp]
    intro ρ w9 hm' hf
    exact ⟨by rw [← hR, hq]; rfl, hm'.below⟩
   | some l1 =>
    obtain ⟨x0, rfl⟩ := nums_one hnp
    refine At.mkrowE 29 [.so (mkB rst), .v (.int .i64 1)] (fun A' n' c' => .tup [.sl A' n' c', .v (.bool true)]) [.int .i64 x0] (by kernel_rfl) (by kernel_rfl) (by kernel_rfl) (by kernel_rfl) (by kernel_rfl) (by simp) (fun ρ w1 hm' hf => (numbers_some rst 1 (by decide) [x0] (by omega) hnp w1 (hw.below hm'.below)).mono fun e w' ⟨A', c', h1, h2⟩ => ⟨A', 1, c', h1, h2⟩) ?_
    intro A1 n1 c1
    refine At.pure fun ⟨hn1, hc1⟩ => ?_
    obtain rfl : n1 = 1 := by simpa using hn1.symm
    clear hn1 hc1
    refine At.learn (p := ∃ b, A1 = some ⟨b, 0, none⟩) (fun ρ w1 hf => let ⟨b, h, _⟩ := hf.2 _ (List.mem_singleton.2 rfl); ⟨b, h⟩) ?_
    rintro ⟨b1, rfl⟩
    refine zU RowE.stable RowE.fewer [2, 111] 1 ⟨pops B30 pAK5 1, [.seq (sub B30 pAK14), .block 1, .seq (sub B30 pAK17)], [(2, .lp 0 0), (111, .sl (some (Addr.mk b1 0 none)) 1 c1)], [(zAK1, 41)]⟩ ?_
    refine At.idx ⟨b1, 0, none⟩ 1 1 0 (by kernel_rfl) (by omega) (by omega) RowE.stable ?_
    refine zU RowE.stable RowE.fewer [2, 112] 1 ⟨pops B30 pAK5 2, [.seq (sub B30 pAK14), .block 1, .seq (sub B30 pAK17)], [(2, .lp 0 0), (112, .v (.pointer (some (Addr.mk b1 0 none))))], [(zAK1, 41)]⟩ ?_
    refine At.ldx ((⟨b1, 0, none⟩ : Addr).add ((0 : Int).toNat * 1)) (.io .i64 x0) (by kernel_rfl) RowE.stable (fun ρ w1 hm' hf => ent_src (hf.2 _ (List.mem_singleton.2 rfl)) 0 _ rfl) ?_
    refine zU RowE.stable RowE.fewer [2, 3] 1 ⟨.exit .ret, [], [(2, .lp 0 0), (3, .v (.bool true))], [([.v (.int .i64 4), .v (.int .i64 0), .v (.string (ByteArray.mk #[])), .v (.int .i64 0), .v (.int .i64 0), .v (.int .i64 0), .v (.int .i64 0), .io .i64 x0, .v (.int .i64 0), .v (.int IntKind.u32 0)], 41)]⟩ ?_
    refine zE (.tup [.agg [.v (.int .i64 4), .v (.int .i64 0), .v (.string (ByteArray.mk #[])), .v (.int .i64 0), .v (.int .i64 0), .v (.int .i64 0), .v (.int .i64 0), .io .i64 x0, .v (.int .i64 0), .v (.int IntKind.u32 0)], .v (.bool true)]) ?_
    have hq : stepP s = some (rs x0) := by simp [stepP, hc, e0, e1, e2, e3, hnp]
    intro ρ w9 hm' hf
    exact ⟨by rw [← hR, hq]; rfl, hm'.below⟩
  refine zR 103 b3 ?_
  refine zU RowE.stable RowE.fewer [2, 5, 115] 1 ⟨.code (sub B30 [1, 1, 1, 0, 1, 4, 1, 3, 1, 3, 1, 3, 1, 3, 1]), [.block 1, .seq (sub B30 pAK17)], [(2, .lp 0 0), (5, .so (mkB rst)), (115, .bo ((mkB wd).toList == (ByteArray.mk #[115, 112, 111, 105, 108]).toList))], [(zAK1, 41)]⟩ ?_
  rcases Bool.eq_false_or_eq_true ((mkB wd).toList == (ByteArray.mk #[115, 112, 111, 105, 108]).toList) with b4 | b4
  ·refine zR 115 b4 ?_
   refine zU RowE.stable RowE.fewer [2, 118] 1 ⟨pops B30 [1, 1, 1, 0, 1, 4, 1, 3, 1, 3, 1, 3, 1, 3, 1, 2, 0] 1, [.seq (sub B30 [1, 1, 1, 0, 1, 4, 1, 3, 1, 3, 1, 3, 1, 3, 1, 2, 1]), .block 1, .seq (sub B30 pAK17)], [(2, .lp 0 0), (118, .so (mkB rst))], [(zAK1, 41)]⟩ ?_
   have e0 : wd ≠ [101, 118, 101, 110, 116] := w_no (y := [101, 118, 101, 110, 116]) b0
   have e1 : wd ≠ [109, 97, 114, 107] := w_no (y := [109, 97, 114, 107]) b1
   have e2 : wd ≠ [112, 105, 99, 107] := w_no (y := [112, 105, 99, 107]) b2
   have e3 : wd ≠ [114, 101, 115, 116, 111, 114, 101] := w_no (y := [114, 101, 115, 116, 111, 114, 101]) b3
   have e4 : wd = [115, 112, 111, 105, 108] := w_yes (y := [115, 112, 111, 105, 108]) b4
   cases hnp : numsP rst 2 with
   | none =>
    refine zC RowE.stable 29 [.so (mkB rst), .v (.int .i64 2)] (.tup [.v (.slice none 0 0), .v (.bool false)]) (fun _ _ w1 hi _ => numbers_none rst 2 (by decide) (by omega) hnp w1 (hw.below hi.mem.below)) ?_
    refine zU RowE.stable RowE.fewer [2, 3] 1 ⟨.exit .ret, [], [(2, .lp 0 0), (3, .v (.bool false))], [(zAK1, 41)]⟩ ?_
    refine zE (.tup zAK0) ?_
    have hq : stepP s = none := by simp [stepP, hc, e0, e1, e2, e3, e4, hnp]
    intro ρ w9 hm' hf
    exact ⟨by rw [← hR, hq]; rfl, hm'.below⟩
   | some l1 =>
    obtain ⟨x0, x1, rfl⟩ := nums_two hnp
    refine At.mkrowE 29 [.so (mkB rst), .v (.int .i64 2)] (fun A' n' c' => .tup [.sl A' n' c', .v (.bool true)]) [.int .i64 x0, .int .i64 x1] (by kernel_rfl) (by kernel_rfl) (by kernel_rfl) (by kernel_rfl) (by kernel_rfl) (by simp) (fun ρ w1 hm' hf => (numbers_some rst 2 (by decide) [x0, x1] (by omega) hnp w1 (hw.below hm'.below)).mono fun e w' ⟨A', c', h1, h2⟩ => ⟨A', 2, c', h1, h2⟩) ?_
    intro A1 n1 c1
    refine At.pure fun ⟨hn1, hc1⟩ => ?_
    obtain rfl : n1 = 2 := by simpa using hn1.symm
    clear hn1 hc1
    refine At.learn (p := ∃ b, A1 = some ⟨b, 0, none⟩) (fun ρ w1 hf => let ⟨b, h, _⟩ := hf.2 _ (List.mem_singleton.2 rfl); ⟨b, h⟩) ?_
    rintro ⟨b1, rfl⟩
    refine zU RowE.stable RowE.fewer [2, 17, 123, 124] 1 ⟨pops B30 pAK6 3, [.seq (sub B30 pAK7), .block 1, .seq (sub B30 pAK17)], [(2, .lp 0 0), (17, .sl (some (Addr.mk b1 0 none)) 2 c1), (123, .v (.bool true)), (124, .sl (some (Addr.mk b1 0 none)) 2 c1)], [(zAK1, 41)]⟩ ?_
    refine At.idx ⟨b1, 0, none⟩ 2 1 1 (by kernel_rfl) (by omega) (by omega) RowE.stable ?_
    refine zU RowE.stable RowE.fewer [2, 17, 123, 125] 1 ⟨pops B30 pAK6 4, [.seq (sub B30 pAK7), .block 1, .seq (sub B30 pAK17)], [(2, .lp 0 0), (17, .sl (some (Addr.mk b1 0 none)) 2 c1), (123, .v (.bool true)), (125, .v (.pointer (some (Addr.mk b1 1 none))))], [(zAK1, 41)]⟩ ?_
    refine At.ldx ((⟨b1, 0, none⟩ : Addr).add ((1 : Int).toNat * 1)) (.io .i64 x1) (by kernel_rfl) RowE.stable (fun ρ w1 hm' hf => ent_src (hf.2 _ (List.mem_singleton.2 rfl)) 1 _ rfl) ?_
    refine zU RowE.stable RowE.fewer [2, 17, 129] 1 ⟨pops B30 pAK6 8, [.seq (sub B30 pAK7), .block 1, .seq (sub B30 pAK17)], [(2, .lp 0 0), (17, .sl (some (Addr.mk b1 0 none)) 2 c1), (129, .bo (decide (x1 ≥ 0)))], [(zAK1, 41)]⟩ ?_
    rcases Bool.eq_false_or_eq_true (decide (x1 ≥ 0)) with b0 | b0
    ·refine zR 129 b0 ?_
     refine zU RowE.stable RowE.fewer [2, 17, 129, 130] 1 ⟨pops B30 pAK6 9, [.seq (sub B30 pAK7), .block 1, .seq (sub B30 pAK17)], [(2, .lp 0 0), (17, .sl (some (Addr.mk b1 0 none)) 2 c1), (129, .v (.bool true)), (130, .sl (some (Addr.mk b1 0 none)) 2 c1)], [(zAK1, 41)]⟩ ?_
     refine At.idx ⟨b1, 0, none⟩ 2 1 1 (by kernel_rfl) (by omega) (by omega) RowE.stable ?_
     refine zU RowE.stable RowE.fewer [2, 17, 129, 131] 1 ⟨pops B30 pAK6 10, [.seq (sub B30 pAK7), .block 1, .seq (sub B30 pAK17)], [(2, .lp 0 0), (17, .sl (some (Addr.mk b1 0 none)) 2 c1), (129, .v (.bool true)), (131, .v (.pointer (some (Addr.mk b1 1 none))))], [(zAK1, 41)]⟩ ?_
     refine At.ldx ((⟨b1, 0, none⟩ : Addr).add ((1 : Int).toNat * 1)) (.io .i64 x1) (by kernel_rfl) RowE.stable (fun ρ w1 hm' hf => ent_src (hf.2 _ (List.mem_singleton.2 rfl)) 1 _ rfl) ?_
     refine zU RowE.stable RowE.fewer [2, 17, 134] 1 ⟨.code (sub B30 pAK7), [.block 1, .seq (sub B30 pAK17)], [(2, .lp 0 0), (17, .sl (some (Addr.mk b1 0 none)) 2 c1), (134, .bo (decide (x1 < 4294967296)))], [(zAK1, 41)]⟩ ?_
     rcases Bool.eq_false_or_eq_true (decide (x1 < 4294967296)) with b0 | b0
     ·refine zR 134 b0 ?_
      refine zU RowE.stable RowE.fewer [2, 17, 135] 1 ⟨.qops (opsOf (sub B30 pAK4)) (((opsOf (sub B30 pAK4)).toList.take 8).drop 1), [.tail (opsOf (sub B30 pAK4)) ((opsOf (sub B30 pAK4)).toList.drop 8), .seq (sub B30 pAK14), .block 1, .seq (sub B30 pAK17)], [(2, .lp 0 0), (17, .sl (some (Addr.mk b1 0 none)) 2 c1), (135, .sl (some (Addr.mk b1 0 none)) 2 c1)], [(zAK1, 41)]⟩ ?_
      refine At.idx ⟨b1, 0, none⟩ 2 1 0 (by kernel_rfl) (by omega) (by omega) RowE.stable ?_
      refine zU RowE.stable RowE.fewer [2, 17, 136] 1 ⟨.qops (opsOf (sub B30 pAK4)) (((opsOf (sub B30 pAK4)).toList.take 8).drop 2), [.tail (opsOf (sub B30 pAK4)) ((opsOf (sub B30 pAK4)).toList.drop 8), .seq (sub B30 pAK14), .block 1, .seq (sub B30 pAK17)], [(2, .lp 0 0), (17, .sl (some (Addr.mk b1 0 none)) 2 c1), (136, .v (.pointer (some (Addr.mk b1 0 none))))], [(zAK1, 41)]⟩ ?_
      refine At.ldx ((⟨b1, 0, none⟩ : Addr).add ((0 : Int).toNat * 1)) (.io .i64 x0) (by kernel_rfl) RowE.stable (fun ρ w1 hm' hf => ent_src (hf.2 _ (List.mem_singleton.2 rfl)) 0 _ rfl) ?_
      refine zU RowE.stable RowE.fewer [2, 137, 138] 1 ⟨.qops (opsOf (sub B30 pAK4)) (((opsOf (sub B30 pAK4)).toList.take 8).drop 4), [.tail (opsOf (sub B30 pAK4)) ((opsOf (sub B30 pAK4)).toList.drop 8), .seq (sub B30 pAK14), .block 1, .seq (sub B30 pAK17)], [(2, .lp 0 0), (137, .io .i64 x0), (138, .sl (some (Addr.mk b1 0 none)) 2 c1)], [(zAK1, 41)]⟩ ?_
      refine At.idx ⟨b1, 0, none⟩ 2 1 1 (by kernel_rfl) (by omega) (by omega) RowE.stable ?_
      refine zU RowE.stable RowE.fewer [2, 137, 139] 1 ⟨.qops (opsOf (sub B30 pAK4)) (((opsOf (sub B30 pAK4)).toList.take 8).drop 5), [.tail (opsOf (sub B30 pAK4)) ((opsOf (sub B30 pAK4)).toList.drop 8), .seq (sub B30 pAK14), .block 1, .seq (sub B30 pAK17)], [(2, .lp 0 0), (137, .io .i64 x0), (139, .v (.pointer (some (Addr.mk b1 1 none))))], [(zAK1, 41)]⟩ ?_
      refine At.ldx ((⟨b1, 0, none⟩ : Addr).add ((1 : Int).toNat * 1)) (.io .i64 x1) (by kernel_rfl) RowE.stable (fun ρ w1 hm' hf => ent_src (hf.2 _ (List.mem_singleton.2 rfl)) 1 _ rfl) ?_
      refine zU RowE.stable RowE.fewer [2, 3] 1 ⟨.exit .ret, [], [(2, .lp 0 0), (3, .v (.bool true))], [([.v (.int .i64 5), .v (.int .i64 0), .v (.string (ByteArray.mk #[])), .v (.int .i64 0), .v (.int .i64 0), .v (.int .i64 0), .v (.int .i64 0), .v (.int .i64 0), .io .i64 x0, .io IntKind.u32 (IntKind.u32.wrap x1)], 41)]⟩ ?_
      refine zE (.tup [.agg [.v (.int .i64 5), .v (.int .i64 0), .v (.string (ByteArray.mk #[])), .v (.int .i64 0), .v (.int .i64 0), .v (.int .i64 0), .v (.int .i64 0), .v (.int .i64 0), .io .i64 x0, .io IntKind.u32 (IntKind.u32.wrap x1)], .v (.bool true)]) ?_
      have h0 : 0 ≤ x1 := of_decide_eq_true ‹decide (x1 ≥ 0) = true›
      have h1 : x1 < 4294967296 := of_decide_eq_true ‹decide (x1 < 4294967296) = true›
      have hq : stepP s = some (sp x0 x1) := by simp [stepP, hc, e0, e1, e2, e3, e4, hnp, h0, h1]
      have hwr : IntKind.u32.wrap x1 = x1 := by simp only [IntKind.wrap, IntKind.signed, IntKind.bits]; simp; omega
      rw [hwr]
      intro ρ w9 hm' hf
      exact ⟨by rw [← hR, hq]; rfl, hm'.below⟩
     refine zR 134 b0 ?_
     refine zU RowE.stable RowE.fewer [2, 3] 1 ⟨.exit .ret, [], [(2, .lp 0 0), (3, .v (.bool false))], [(zAK1, 41)]⟩ ?_
     refine zE (.tup zAK0) ?_
     have hno : ¬ (0 ≤ x1 ∧ x1 < 4294967296) := fun ⟨h0, h1⟩ => by
      first
       | exact absurd h0 (of_decide_eq_false ‹decide (x1 ≥ 0) = false›)
       | exact absurd h1 (of_decide_eq_false ‹decide (x1 < 4294967296) = false›)
     have hq : stepP s = none := by simp only [stepP, hc, hnp]; simp [e0, e1, e2, e3, e4]; omega
     intro ρ w9 hm' hf
     exact ⟨by rw [← hR, hq]; rfl, hm'.below⟩
    refine zR 129 b0 ?_
    refine zU RowE.stable RowE.fewer [2, 3] 1 ⟨.exit .ret, [], [(2, .lp 0 0), (3, .v (.bool false))], [(zAK1, 41)]⟩ ?_
    refine zE (.tup zAK0) ?_
    have hno : ¬ (0 ≤ x1 ∧ x1 < 4294967296) := fun ⟨h0, h1⟩ => by
     first
      | exact absurd h0 (of_decide_eq_false ‹decide (x1 ≥ 0) = false›)
      | exact absurd h1 (of_decide_eq_false ‹decide (x1 < 4294967296) = false›)
    have hq : stepP s = none := by simp only [stepP, hc, hnp]; simp [e0, e1, e2, e3, e4]; omega
    intro ρ w9 hm' hf
    exact ⟨by rw [← hR, hq]; rfl, hm'.below⟩
  refine zR 115 b4 ?_
  refine zU RowE.stable RowE.fewer [2, 3] 1 ⟨.exit .ret, [], [(2, .lp 0 0), (3, .v (.bool false))], [(zAK1, 41)]⟩ ?_
  refine zE (.tup zAK0) ?_
  have e0 : wd ≠ [101, 118, 101, 110, 116] := w_no (y := [101, 118, 101, 110, 116]) b0
  have e1 : wd ≠ [109, 97, 114, 107] := w_no (y := [109, 97, 114, 107]) b1
  have e2 : wd ≠ [112, 105, 99, 107] := w_no (y := [112, 105, 99, 107]) b2
  have e3 : wd ≠ [114, 101, 115, 116, 111, 114, 101] := w_no (y := [114, 101, 115, 116, 111, 114, 101]) b3
  have e4 : wd ≠ [115, 112, 111, 105, 108] := w_no (y := [115, 112, 111, 105, 108]) b4
  have hq : stepP s = none := by simp [stepP, hc, e0, e1, e2, e3, e4]
  intro ρ w9 hm' hf
  exact ⟨by rw [← hR, hq]; rfl, hm'.below⟩
end Go.Proofs.YthfpekhpeiebjaaGreatDoor
end
section
namespace Go.Proofs.YthfpekhpeiebjaaGreatDoor
open Go.RowKit Go.Sx
def itB (s ik : Int) (key : List UInt8) (t v src : Int) : Bool := if ik = 1 then decide (key.length ≤ 256) && (timeB t && src == 0)
     else if ik = 2 then decide (0 ≤ src) && (decide (src < s) && (timeB t && (decide (key = []) && v == 0)))
     else if ik = 3 then decide (key = []) && (t == 0 && (v == 0 && src == 0))
     else false
def itE (b : Bool) : Int := bif b then 0 else 5
theorem key_nil (key : List UInt8) : ((mkB key).toList == (ByteArray.mk #[]).toList) = decide (key = []) := str_beq key []
theorem mayB_1 {c : Cf} {x : St} (h : x.kd = 1) : mayB c x = (x.wk == 0 && (x.wks == 0 && (x.bit == 0 && (x.mask == 0 && itB c.s x.ik x.key x.t x.v x.src)))) := by
 unfold mayB
 rw [if_pos h]
 rfl
theorem mayB_n {c : Cf} {x : St} (h : x.kd ≠ 1) : mayB c x = ((x.ik == 0 && (decide (x.key = []) && (x.t == 0 && (x.v == 0 && x.src == 0)))) && (if x.kd = 2 then x.wks == 0 && (x.bit == 0 && (x.mask == 0 && decide (0 ≤ x.wk)))
     else if x.kd = 3 then x.wk == 0 && (x.wks == 0 && (x.bit == 0 && x.mask == 0))
     else if x.kd = 4 then x.wk == 0 && (x.bit == 0 && (x.mask == 0 && (decide (1 ≤ x.wks) && decide (x.wks ≤ c.g))))
     else if x.kd = 5 then x.wk == 0 && (x.wks == 0 && decide (0 ≤ x.bit))
     else false)) := by
  unfold mayB
  rw [if_neg h]
  split
  · rename_i h0
    obtain ⟨h1, h2, h3, h4, h5⟩ := h0
    simp [h1, h2, h3, h4, h5]
  rename_i h0
  have : (x.ik == 0 && (decide (x.key = []) && (x.t == 0 && (x.v == 0 && x.src == 0)))) = false := by
    rw [Bool.eq_false_iff]
    intro hh
    simp only [Bool.and_eq_true, beq_iff_eq, decide_eq_true_eq] at hh
    exact h0 hh
  rw [this, Bool.false_and]
theorem item_any (g s k sz sl of gp lt ea : Int) (d : Bool) (ik : Int) (key : List UInt8) (t v src : Int) (w : World) (hc : wrongR g s k sz sl of gp lt ea = 0) :
  Calls Tryz.prog 61 #[.agg #[.int .i64 g, .int .i64 s, .int .i64 k, .int .i64 sz, .int .i64 sl, .int .i64 of, .int .i64 gp, .int .i64 lt, .int .i64 ea, .bool d], .agg #[.int .i64 ik, .string (mkB key), .int .i64 t, .int .i64 v, .int .i64 src]] w fun e w' => e = .returned (.int .i64 (bif itB s ik key t v src then 0 else 5)) ∧ Below w.heap.size w w' := by
 have h0 : wrongF g s k sz sl of gp lt ea = 0 := by rw [wrong_eq]; exact hc
 by_cases h1 : ik = 1
 ·subst h1
  have hk := item_1 g s k sz sl of gp lt ea d (mkB key) t v src w h0
  have he : it1 (mkB key) t src = itB s 1 key t v src := by
   unfold it1 itB
   rw [if_pos rfl, mkB_size]
   congr 1
   exact decide_eq_decide.2 (by omega)
  rw [he] at hk
  exact hk
 by_cases h2 : ik = 2
 ·subst h2
  have hk := item_2 g s k sz sl of gp lt ea d (mkB key) t v src w h0
  have he : it2 s (mkB key) t v src = itB s 2 key t v src := by
   unfold it2 itB
   rw [if_neg (by decide), if_pos rfl, key_nil]
  rw [he] at hk
  exact hk
 by_cases h3 : ik = 3
 ·subst h3
  have hk := item_3 g s k sz sl of gp lt ea d (mkB key) t v src w h0
  have he : it3 (mkB key) t v src = itB s 3 key t v src := by
   unfold it3 itB
   rw [if_neg (by decide), if_neg (by decide), if_pos rfl, key_nil]
  rw [he] at hk
  exact hk
 have hk := item_n g s k sz sl of gp lt ea d ik (mkB key) t v src w h0 (by simpa using h1) (by simpa using h2) (by simpa using h3)
 have he : itN = itB s ik key t v src := by
  unfold itN itB
  rw [if_neg h1, if_neg h2, if_neg h3]
 rw [he] at hk
 exact hk
noncomputable def B31 : Code := (Tryz.f31.body).getD .skip
set_option maxHeartbeats 20000000 in
set_option maxRecDepth 100000 in
theorem may_go (g s k sz sl of gp lt ea : Int) (d : Bool) (kd ik : Int) (key : List UInt8) (t v src wk wks bit mask : Int) (w : World) (hc : wrongR g s k sz sl of gp lt ea = 0) :
  Calls Tryz.prog 31 #[.agg #[.int .i64 g, .int .i64 s, .int .i64 k, .int .i64 sz, .int .i64 sl, .int .i64 of, .int .i64 gp, .int .i64 lt, .int .i64 ea, .bool d], .agg #[.int .i64 kd, .int .i64 ik, .string (mkB key), .int .i64 t, .int .i64 v, .int .i64 src, .int .i64 wk, .int .i64 wks, .int .i64 bit, .int .u32 mask]] w fun e w' => e = .returned (.bool (mayB ⟨g, s, k, sz, sl, of, gp, lt, ea, d⟩ ⟨kd, ik, key, t, v, src, wk, wks, bit, mask⟩)) ∧ Below w.heap.size w w' := by
 refine enter (fn := Tryz.f31) (c := B31) [.agg (cfAK g s k sz sl of gp lt ea d), .agg [.io .i64 kd, .io .i64 ik, .so (mkB key), .io .i64 t, .io .i64 v, .io .i64 src, .io .i64 wk, .io .i64 wks, .io .i64 bit, .io .u32 mask]] Tryz.func31 rfl rfl ?_
 refine zM [2, 3, 5, 10, 11] 3 ⟨.code (sub B31 [1, 1, 0, 1, 4, 1]), [.block 0, .seq (sub B31 pAK18)], [(2, .lp 0 0), (3, .lp 1 0), (5, .lp 2 0), (10, .io .i64 kd), (11, .bo (kd == 1))], [((cfAK g s k sz sl of gp lt ea d), 25), ([.io .i64 kd, .io .i64 ik, .so (mkB key), .io .i64 t, .io .i64 v, .io .i64 src, .io .i64 wk, .io .i64 wks, .io .i64 bit, .io IntKind.u32 mask], 41), ([.io .i64 kd, .v (.int .i64 0), .v (.string (ByteArray.mk #[])), .v (.int .i64 0), .v (.int .i64 0), .v (.int .i64 0), .v (.int .i64 0), .v (.int .i64 0), .v (.int .i64 0), .v (.int IntKind.u32 0)], 41)]⟩ ?_
 rcases Bool.eq_false_or_eq_true (kd == 1) with b0 | b0
 ·refine zR 11 b0 ?_
  refine zM [2, 3, 19] 2 ⟨pops B31 [1, 1, 0, 1, 4, 1, 2, 1, 0] 4, [.seq (sub B31 pAK16), .block 0, .seq (sub B31 pAK18)], [(2, .lp 0 0), (3, .lp 1 0), (19, .bo (kd == kd && (ik == ik && ((mkB key).toList == (mkB key).toList && (t == t && (v == v && (src == src && true)))) && (wk == 0 && (wks == 0 && (bit == 0 && (mask == 0 && true)))))))], [((cfAK g s k sz sl of gp lt ea d), 25), ([.io .i64 kd, .io .i64 ik, .so (mkB key), .io .i64 t, .io .i64 v, .io .i64 src, .io .i64 wk, .io .i64 wks, .io .i64 bit, .io IntKind.u32 mask], 41)]⟩ ?_
  rcases Bool.eq_false_or_eq_true (kd == kd && (ik == ik && ((mkB key).toList == (mkB key).toList && (t == t && (v == v && (src == src && true)))) && (wk == 0 && (wks == 0 && (bit == 0 && (mask == 0 && true)))))) with b1 | b1
  ·refine zR 19 b1 ?_
   refine zM [19, 20, 22] 0 ⟨pops B31 [1, 1, 0, 1, 4, 1, 2, 1, 0] 7, [.seq (sub B31 pAK16), .block 0, .seq (sub B31 pAK18)], [(19, .v (.bool true)), (20, .agg (cfAK g s k sz sl of gp lt ea d)), (22, .agg [.io .i64 ik, .so (mkB key), .io .i64 t, .io .i64 v, .io .i64 src])], []⟩ ?_
   refine zC noF_stable 61 [.agg (cfAK g s k sz sl of gp lt ea d), .agg [.io .i64 ik, .so (mkB key), .io .i64 t, .io .i64 v, .io .i64 src]] (.io .i64 (itE (itB s ik key t v src))) (fun _ _ w1 _ _ => item_any g s k sz sl of gp lt ea d ik key t v src w1 hc) ?_
   refine zM [4] 0 ⟨.exit .ret, [], [(4, .bo (itE (itB s ik key t v src) == 0))], []⟩ ?_
   refine zE (.bo (itE (itB s ik key t v src) == 0)) ?_
   intro ρ w9 hm' _
   refine ⟨?_, hm'.below⟩
   have hkd : kd = 1 := by simpa using b0
   rw [mayB_1 hkd]
   dsimp only
   simp only [BEq.rfl, Bool.true_and, Bool.and_true, key_nil, ← Bool.and_assoc] at b1
   simp only [← Bool.and_assoc]
   rw [b1, Bool.true_and]
   cases itB s ik key t v src <;> rfl
  refine zR 19 b1 ?_
  refine zM [4] 0 ⟨.exit .ret, [], [(4, .v (.bool false))], []⟩ ?_
  refine zE (.v (.bool false)) ?_
  intro ρ w9 hm' _
  refine ⟨?_, hm'.below⟩
  have hkd : kd = 1 := by simpa using b0
  show Ending.returned (.bool (false)) = _
  refine congrArg (fun q => Ending.returned (.bool q)) ?_
  rw [mayB_1 hkd]
  simp only [BEq.rfl, Bool.true_and, Bool.and_true, key_nil, ← Bool.and_assoc] at b1
  simp only [← Bool.and_assoc]
  rw [b1]
  rfl
 refine zR 11 b0 ?_
 refine zM [2, 3, 5, 10, 26] 3 ⟨.code (sub B31 [1, 1, 0, 1, 4, 1, 3, 1]), [.block 0, .seq (sub B31 pAK18)], [(2, .lp 0 0), (3, .lp 1 0), (5, .lp 2 0), (10, .io .i64 kd), (26, .bo (kd == 2))], [((cfAK g s k sz sl of gp lt ea d), 25), ([.io .i64 kd, .io .i64 ik, .so (mkB key), .io .i64 t, .io .i64 v, .io .i64 src, .io .i64 wk, .io .i64 wks, .io .i64 bit, .io IntKind.u32 mask], 41), ([.io .i64 kd, .v (.int .i64 0), .v (.string (ByteArray.mk #[])), .v (.int .i64 0), .v (.int .i64 0), .v (.int .i64 0), .v (.int .i64 0), .v (.int .i64 0), .v (.int .i64 0), .v (.int IntKind.u32 0)], 41)]⟩ ?_
 rcases Bool.eq_false_or_eq_true (kd == 2) with b2 | b2
 ·refine zR 26 b2 ?_
  refine zM [3, 34] 2 ⟨pops B31 [1, 1, 0, 1, 4, 1, 3, 1, 2, 1, 0] 4, [.seq (sub B31 pAK16), .block 0, .seq (sub B31 pAK18)], [(3, .lp 1 0), (34, .bo (kd == kd && (ik == 0 && ((mkB key).toList == (ByteArray.mk #[]).toList && (t == 0 && (v == 0 && (src == 0 && true)))) && (wk == wk && (wks == 0 && (bit == 0 && (mask == 0 && true)))))))], [((cfAK g s k sz sl of gp lt ea d), 25), ([.io .i64 kd, .io .i64 ik, .so (mkB key), .io .i64 t, .io .i64 v, .io .i64 src, .io .i64 wk, .io .i64 wks, .io .i64 bit, .io IntKind.u32 mask], 41)]⟩ ?_
  rcases Bool.eq_false_or_eq_true (kd == kd && (ik == 0 && ((mkB key).toList == (ByteArray.mk #[]).toList && (t == 0 && (v == 0 && (src == 0 && true)))) && (wk == wk && (wks == 0 && (bit == 0 && (mask == 0 && true)))))) with b3 | b3
  ·refine zR 34 b3 ?_
   refine zM [4] 0 ⟨.exit .ret, [], [(4, .bo (decide (wk ≥ 0)))], []⟩ ?_
   refine zE (.bo (decide (wk ≥ 0))) ?_
   intro ρ w9 hm' _
   refine ⟨?_, hm'.below⟩
   have hkd : kd = 2 := by simpa using b2
   show Ending.returned (.bool (decide (wk ≥ 0))) = _
   refine congrArg (fun q => Ending.returned (.bool q)) ?_
   rw [mayB_n (show kd ≠ 1 by omega)]
   dsimp only
   simp only [hkd, if_pos, if_neg, show ((2 : Int) = 2) = True from by simp, show ((2 : Int) = 3) = False from by simp, show ((2 : Int) = 4) = False from by simp, show ((2 : Int) = 5) = False from by simp, if_true, if_false]
   simp only [BEq.rfl, Bool.true_and, Bool.and_true, key_nil, ← Bool.and_assoc] at b3
   simp only [← Bool.and_assoc]
   rw [b3, Bool.true_and]
  refine zR 34 b3 ?_
  refine zM [4] 0 ⟨.exit .ret, [], [(4, .v (.bool false))], []⟩ ?_
  refine zE (.v (.bool false)) ?_
  intro ρ w9 hm' _
  refine ⟨?_, hm'.below⟩
  have hkd : kd = 2 := by simpa using b2
  show Ending.returned (.bool (false)) = _
  refine congrArg (fun q => Ending.returned (.bool q)) ?_
  rw [mayB_n (show kd ≠ 1 by omega)]
  dsimp only
  simp only [hkd, if_pos, if_neg, show ((2 : Int) = 2) = True from by simp, show ((2 : Int) = 3) = False from by simp, show ((2 : Int) = 4) = False from by simp, show ((2 : Int) = 5) = False from by simp, if_true, if_false]
  simp only [BEq.rfl, Bool.true_and, Bool.and_true, key_nil, ← Bool.and_assoc] at b3
  simp only [← Bool.and_assoc]
  rw [b3]
  rfl
 refine zR 26 b2 ?_
 refine zM [2, 3, 5, 10, 39] 3 ⟨.code (sub B31 [1, 1, 0, 1, 4, 1, 3, 1, 3, 1]), [.block 0, .seq (sub B31 pAK18)], [(2, .lp 0 0), (3, .lp 1 0), (5, .lp 2 0), (10, .io .i64 kd), (39, .bo (kd == 3))], [((cfAK g s k sz sl of gp lt ea d), 25), ([.io .i64 kd, .io .i64 ik, .so (mkB key), .io .i64 t, .io .i64 v, .io .i64 src, .io .i64 wk, .io .i64 wks, .io .i64 bit, .io IntKind.u32 mask], 41), ([.io .i64 kd, .v (.int .i64 0), .v (.string (ByteArray.mk #[])), .v (.int .i64 0), .v (.int .i64 0), .v (.int .i64 0), .v (.int .i64 0), .v (.int .i64 0), .v (.int .i64 0), .v (.int IntKind.u32 0)], 41)]⟩ ?_
 rcases Bool.eq_false_or_eq_true (kd == 3) with b4 | b4
 ·refine zR 39 b4 ?_
  refine zM [4] 0 ⟨.exit .ret, [], [(4, .bo (kd == kd && (ik == 0 && ((mkB key).toList == (ByteArray.mk #[]).toList && (t == 0 && (v == 0 && (src == 0 && true)))) && (wk == 0 && (wks == 0 && (bit == 0 && (mask == 0 && true)))))))], []⟩ ?_
  refine zE (.bo (kd == kd && (ik == 0 && ((mkB key).toList == (ByteArray.mk #[]).toList && (t == 0 && (v == 0 && (src == 0 && true)))) && (wk == 0 && (wks == 0 && (bit == 0 && (mask == 0 && true))))))) ?_
  intro ρ w9 hm' _
  refine ⟨?_, hm'.below⟩
  have hkd : kd = 3 := by simpa using b4
  show Ending.returned (.bool (kd == kd && (ik == 0 && ((mkB key).toList == (ByteArray.mk #[]).toList && (t == 0 && (v == 0 && (src == 0 && true)))) && (wk == 0 && (wks == 0 && (bit == 0 && (mask == 0 && true))))))) = _
  refine congrArg (fun q => Ending.returned (.bool q)) ?_
  rw [mayB_n (show kd ≠ 1 by omega)]
  dsimp only
  simp only [hkd, if_pos, if_neg, show ((3 : Int) = 2) = False from by simp, show ((3 : Int) = 3) = True from by simp, show ((3 : Int) = 4) = False from by simp, show ((3 : Int) = 5) = False from by simp, if_true, if_false]
  simp only [BEq.rfl, Bool.true_and, Bool.and_true, key_nil, ← Bool.and_assoc]
 refine zR 39 b4 ?_
 refine zM [2, 3, 5, 10, 44] 3 ⟨.code (sub B31 [1, 1, 0, 1, 4, 1, 3, 1, 3, 1, 3, 1]), [.block 0, .seq (sub B31 pAK18)], [(2, .lp 0 0), (3, .lp 1 0), (5, .lp 2 0), (10, .io .i64 kd), (44, .bo (kd == 4))], [((cfAK g s k sz sl of gp lt ea d), 25), ([.io .i64 kd, .io .i64 ik, .so (mkB key), .io .i64 t, .io .i64 v, .io .i64 src, .io .i64 wk, .io .i64 wks, .io .i64 bit, .io IntKind.u32 mask], 41), ([.io .i64 kd, .v (.int .i64 0), .v (.string (ByteArray.mk #[])), .v (.int .i64 0), .v (.int .i64 0), .v (.int .i64 0), .v (.int .i64 0), .v (.int .i64 0), .v (.int .i64 0), .v (.int IntKind.u32 0)], 41)]⟩ ?_
 rcases Bool.eq_false_or_eq_true (kd == 4) with b5 | b5
 ·refine zR 44 b5 ?_
  refine zM [2, 3, 52] 2 ⟨pops B31 pAK9 4, [.seq (sub B31 pAK16), .block 0, .seq (sub B31 pAK18)], [(2, .lp 0 0), (3, .lp 1 0), (52, .bo (kd == kd && (ik == 0 && ((mkB key).toList == (ByteArray.mk #[]).toList && (t == 0 && (v == 0 && (src == 0 && true)))) && (wk == 0 && (wks == wks && (bit == 0 && (mask == 0 && true)))))))], [((cfAK g s k sz sl of gp lt ea d), 25), ([.io .i64 kd, .io .i64 ik, .so (mkB key), .io .i64 t, .io .i64 v, .io .i64 src, .io .i64 wk, .io .i64 wks, .io .i64 bit, .io IntKind.u32 mask], 41)]⟩ ?_
  rcases Bool.eq_false_or_eq_true (kd == kd && (ik == 0 && ((mkB key).toList == (ByteArray.mk #[]).toList && (t == 0 && (v == 0 && (src == 0 && true)))) && (wk == 0 && (wks == wks && (bit == 0 && (mask == 0 && true)))))) with b6 | b6
  ·refine zR 52 b6 ?_
   refine zM [2, 3, 57] 2 ⟨pops B31 pAK9 9, [.seq (sub B31 pAK16), .block 0, .seq (sub B31 pAK18)], [(2, .lp 0 0), (3, .lp 1 0), (57, .bo (decide (wks ≥ 1)))], [((cfAK g s k sz sl of gp lt ea d), 25), ([.io .i64 kd, .io .i64 ik, .so (mkB key), .io .i64 t, .io .i64 v, .io .i64 src, .io .i64 wk, .io .i64 wks, .io .i64 bit, .io IntKind.u32 mask], 41)]⟩ ?_
   rcases Bool.eq_false_or_eq_true (decide (wks ≥ 1)) with b7 | b7
   ·refine zR 57 b7 ?_
    refine zM [4] 0 ⟨.exit .ret, [], [(4, .bo (decide (wks ≤ g)))], []⟩ ?_
    refine zE (.bo (decide (wks ≤ g))) ?_
    intro ρ w9 hm' _
    refine ⟨?_, hm'.below⟩
    have hkd : kd = 4 := by simpa using b5
    show Ending.returned (.bool (decide (wks ≤ g))) = _
    refine congrArg (fun q => Ending.returned (.bool q)) ?_
    rw [mayB_n (show kd ≠ 1 by omega)]
    dsimp only
    simp only [hkd, if_pos, if_neg, show ((4 : Int) = 2) = False from by simp, show ((4 : Int) = 3) = False from by simp, show ((4 : Int) = 4) = True from by simp, show ((4 : Int) = 5) = False from by simp, if_true, if_false]
    simp only [BEq.rfl, Bool.true_and, Bool.and_true, key_nil, ← Bool.and_assoc] at b6
    have b7' : decide (1 ≤ wks) = true := b7
    simp only [← Bool.and_assoc]
    rw [b6, b7']
    rfl
   refine zR 57 b7 ?_
   refine zM [4] 0 ⟨.exit .ret, [], [(4, .v (.bool false))], []⟩ ?_
   refine zE (.v (.bool false)) ?_
   intro ρ w9 hm' _
   refine ⟨?_, hm'.below⟩
   have hkd : kd = 4 := by simpa using b5
   show Ending.returned (.bool (false)) = _
   refine congrArg (fun q => Ending.returned (.bool q)) ?_
   rw [mayB_n (show kd ≠ 1 by omega)]
   dsimp only
   simp only [hkd, if_pos, if_neg, show ((4 : Int) = 2) = False from by simp, show ((4 : Int) = 3) = False from by simp, show ((4 : Int) = 4) = True from by simp, show ((4 : Int) = 5) = False from by simp, if_true, if_false]
   simp only [BEq.rfl, Bool.true_and, Bool.and_true, key_nil, ← Bool.and_assoc] at b6
   have b7' : decide (1 ≤ wks) = false := b7
   simp only [← Bool.and_assoc]
   rw [b6, b7']
   rfl
  refine zR 52 b6 ?_
  refine zM [4] 0 ⟨.exit .ret, [], [(4, .v (.bool false))], []⟩ ?_
  refine zE (.v (.bool false)) ?_
  intro ρ w9 hm' _
  refine ⟨?_, hm'.below⟩
  have hkd : kd = 4 := by simpa using b5
  show Ending.returned (.bool (false)) = _
  refine congrArg (fun q => Ending.returned (.bool q)) ?_
  rw [mayB_n (show kd ≠ 1 by omega)]
  dsimp only
  simp only [hkd, if_pos, if_neg, show ((4 : Int) = 2) = False from by simp, show ((4 : Int) = 3) = False from by simp, show ((4 : Int) = 4) = True from by simp, show ((4 : Int) = 5) = False from by simp, if_true, if_false]
  simp only [BEq.rfl, Bool.true_and, Bool.and_true, key_nil, ← Bool.and_assoc] at b6
  simp only [← Bool.and_assoc]
  rw [b6]
  rfl
 refine zR 44 b5 ?_
 refine zM [3, 5, 64] 3 ⟨.code (sub B31 [1, 1, 0, 1, 4, 1, 3, 1, 3, 1, 3, 1, 3, 1]), [.block 0, .seq (sub B31 pAK18)], [(3, .lp 1 0), (5, .lp 2 0), (64, .bo (kd == 5))], [((cfAK g s k sz sl of gp lt ea d), 25), ([.io .i64 kd, .io .i64 ik, .so (mkB key), .io .i64 t, .io .i64 v, .io .i64 src, .io .i64 wk, .io .i64 wks, .io .i64 bit, .io IntKind.u32 mask], 41), ([.io .i64 kd, .v (.int .i64 0), .v (.string (ByteArray.mk #[])), .v (.int .i64 0), .v (.int .i64 0), .v (.int .i64 0), .v (.int .i64 0), .v (.int .i64 0), .v (.int .i64 0), .v (.int IntKind.u32 0)], 41)]⟩ ?_
 rcases Bool.eq_false_or_eq_true (kd == 5) with b8 | b8
 ·refine zR 64 b8 ?_
  refine zM [3, 5] 3 ⟨.any (opsOf (sub B31 [1, 1, 0, 1, 4, 1, 3, 1, 3, 1, 3, 1, 3, 1, 2, 0])) 8 [], [.seq (sub B31 [1, 1, 0, 1, 4, 1, 3, 1, 3, 1, 3, 1, 3, 1, 2, 1]), .block 0, .seq (sub B31 pAK18)], [(3, .lp 1 0), (5, .lp 2 0)], [((cfAK g s k sz sl of gp lt ea d), 25), ([.io .i64 kd, .io .i64 ik, .so (mkB key), .io .i64 t, .io .i64 v, .io .i64 src, .io .i64 wk, .io .i64 wks, .io .i64 bit, .io IntKind.u32 mask], 41), ([.io .i64 kd, .v (.int .i64 0), .v (.string (ByteArray.mk #[])), .v (.int .i64 0), .v (.int .i64 0), .v (.int .i64 0), .v (.int .i64 0), .v (.int .i64 0), .v (.int .i64 0), .v (.int IntKind.u32 0)], 41)]⟩ ?_
  refine At.anyOrder noF_stable (j := 0) (fun _ _ _ _ _ => trivial) rfl 20 3 [3, 5] 3 [(3, .lp 1 0), (5, .lp 2 0)] [((cfAK g s k sz sl of gp lt ea d), 25), ([.io .i64 kd, .io .i64 ik, .so (mkB key), .io .i64 t, .io .i64 v, .io .i64 src, .io .i64 wk, .io .i64 wks, .io .i64 bit, .io .u32 mask], 41), ([.io .i64 kd, .v (.int .i64 0), .v (.string (ByteArray.mk #[])), .v (.int .i64 0), .v (.int .i64 0), .v (.int .i64 0), .v (.int .i64 0), .v (.int .i64 0), .io .i64 bit, .io .u32 mask], 41)] (by kernel_rfl) (by kernel_rfl) ?_
  refine zM [3, 75] 2 ⟨pops B31 [1, 1, 0, 1, 4, 1, 3, 1, 3, 1, 3, 1, 3, 1, 2, 1, 0] 4, [.seq (sub B31 pAK16), .block 0, .seq (sub B31 pAK18)], [(3, .lp 1 0), (75, .bo (kd == kd && (ik == 0 && ((mkB key).toList == (ByteArray.mk #[]).toList && (t == 0 && (v == 0 && (src == 0 && true)))) && (wk == 0 && (wks == 0 && (bit == bit && (mask == mask && true)))))))], [((cfAK g s k sz sl of gp lt ea d), 25), ([.io .i64 kd, .io .i64 ik, .so (mkB key), .io .i64 t, .io .i64 v, .io .i64 src, .io .i64 wk, .io .i64 wks, .io .i64 bit, .io IntKind.u32 mask], 41)]⟩ ?_
  rcases Bool.eq_false_or_eq_true (kd == kd && (ik == 0 && ((mkB key).toList == (ByteArray.mk #[]).toList && (t == 0 && (v == 0 && (src == 0 && true)))) && (wk == 0 && (wks == 0 && (bit == bit && (mask == mask && true)))))) with b0 | b0
  ·refine zR 75 b0 ?_
   refine zM [4] 0 ⟨.exit .ret, [], [(4, .bo (decide (bit ≥ 0)))], []⟩ ?_
   refine zE (.bo (decide (bit ≥ 0))) ?_
   intro ρ w9 hm' _
   refine ⟨?_, hm'.below⟩
   have hkd : kd = 5 := by simpa using b8
   show Ending.returned (.bool (decide (bit ≥ 0))) = _
   refine congrArg (fun q => Ending.returned (.bool q)) ?_
   rw [mayB_n (show kd ≠ 1 by omega)]
   dsimp only
   simp only [hkd, if_pos, if_neg, show ((5 : Int) = 2) = False from by simp, show ((5 : Int) = 3) = False from by simp, show ((5 : Int) = 4) = False from by simp, show ((5 : Int) = 5) = True from by simp, if_true, if_false]
   simp only [BEq.rfl, Bool.true_and, Bool.and_true, key_nil, ← Bool.and_assoc] at b0
   simp only [← Bool.and_assoc]
   rw [b0, Bool.true_and]
  refine zR 75 b0 ?_
  refine zM [4] 0 ⟨.exit .ret, [], [(4, .v (.bool false))], []⟩ ?_
  refine zE (.v (.bool false)) ?_
  intro ρ w9 hm' _
  refine ⟨?_, hm'.below⟩
  have hkd : kd = 5 := by simpa using b8
  show Ending.returned (.bool (false)) = _
  refine congrArg (fun q => Ending.returned (.bool q)) ?_
  rw [mayB_n (show kd ≠ 1 by omega)]
  dsimp only
  simp only [hkd, if_pos, if_neg, show ((5 : Int) = 2) = False from by simp, show ((5 : Int) = 3) = False from by simp, show ((5 : Int) = 4) = False from by simp, show ((5 : Int) = 5) = True from by simp, if_true, if_false]
  simp only [BEq.rfl, Bool.true_and, Bool.and_true, key_nil, ← Bool.and_assoc] at b0
  simp only [← Bool.and_assoc]
  rw [b0]
  rfl
 refine zR 64 b8 ?_
 refine zM [4] 0 ⟨.exit .ret, [], [(4, .v (.bool false))], []⟩ ?_
 refine zE (.v (.bool false)) ?_
 intro ρ w9 hm' _
 refine ⟨?_, hm'.below⟩
 have k1 : kd ≠ 1 := by simpa using b0
 have k2 : kd ≠ 2 := by simpa using b2
 have k3 : kd ≠ 3 := by simpa using b4
 have k4 : kd ≠ 4 := by simpa using b5
 have k5 : kd ≠ 5 := by simpa using b8
 show Ending.returned (.bool (false)) = _
 refine congrArg (fun q => Ending.returned (.bool q)) ?_
 rw [mayB_n k1]
 dsimp only
 simp only [if_neg k2, if_neg k3, if_neg k4, if_neg k5, Bool.and_false]
theorem may_any (c : Cf) (x : St) (hc : c.wr = 0) (w : World) :
  Calls Tryz.prog 31 #[.agg c.w.toArray, .agg x.w.toArray] w fun e w' => e = .returned (.bool (mayB c x)) ∧ Below w.heap.size w w' := by
 obtain ⟨g, s, k, sz, sl, of, gp, lt, ea, d⟩ := c
 obtain ⟨kd, ik, key, t, v, src, wk, wks, bit, mask⟩ := x
 exact may_go g s k sz sl of gp lt ea d kd ik key t v src wk wks bit mask w hc
end Go.Proofs.YthfpekhpeiebjaaGreatDoor
end
