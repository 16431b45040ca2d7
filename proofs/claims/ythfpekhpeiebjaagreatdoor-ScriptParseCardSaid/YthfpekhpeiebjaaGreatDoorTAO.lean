/- Joined texts: XD, RJ. -/
import Derived.Test.YthfpekhpeiebjaaGreatDoorTAN
set_option linter.unusedSimpArgs false
set_option linter.unusedVariables false
namespace Go.Sx
open Go
def cfAO (g s k sz sl of gp lt ea : Int) (d : Bool) : List SV := [.io .i64 g, .io .i64 s, .io .i64 k, .io .i64 sz, .io .i64 sl, .io .i64 of, .io .i64 gp, .io .i64 lt, .io .i64 ea, .bo d]
def zAO0 : List SV := [.agg [.v (.int .i64 0), .v (.int .i64 0), .v (.string (ByteArray.mk #[])), .v (.int .i64 0), .v (.int .i64 0), .v (.int .i64 0), .v (.int .i64 0), .v (.int .i64 0), .v (.int .i64 0), .v (.int IntKind.u32 0)], .v (.bool false)]
def zAO1 : List SV := [.v (.int .i64 0), .v (.int .i64 0), .v (.string (ByteArray.mk #[])), .v (.int .i64 0), .v (.int .i64 0), .v (.int .i64 0), .v (.int .i64 0), .v (.int .i64 0), .v (.int .i64 0), .v (.int IntKind.u32 0)]
def zAO2 : List SV := [.v (.int .i64 1), .v (.int .i64 3), .v (.string (ByteArray.mk #[])), .v (.int .i64 0), .v (.int .i64 0), .v (.int .i64 0), .v (.int .i64 0), .v (.int .i64 0), .v (.int .i64 0), .v (.int IntKind.u32 0)]
def zAO3 : List SV := [.v (.int .i64 3), .v (.int .i64 0), .v (.string (ByteArray.mk #[])), .v (.int .i64 0), .v (.int .i64 0), .v (.int .i64 0), .v (.int .i64 0), .v (.int .i64 0), .v (.int .i64 0), .v (.int IntKind.u32 0)]
def pAO4 : List Nat := [1, 1, 1, 1, 1, 1, 1, 1, 1, 1, 1, 1, 0, 1, 2, 1, 0, 0]
def pAO5 : List Nat := [1, 1, 1, 1, 1, 1, 1, 1, 1, 1, 1, 1, 0, 1, 2, 1, 0, 1]
def pAO6 : List Nat := [1, 1, 1, 1, 1, 1, 1, 1, 1, 1, 1, 1, 0, 1, 2, 1, 1, 0]
def pAO7 : List Nat := [1, 1, 1, 1, 1, 1, 1, 1, 1, 1, 1, 1, 0, 1, 2, 1, 1]
def pAO8 : List Nat := [1, 1, 1, 1, 1, 1, 1, 1, 1, 1, 0, 1, 2, 1, 1, 0]
def pAO9 : List Nat := [1, 1, 1, 1, 1, 1, 1, 1, 1, 1, 1, 1, 1]
def pAO10 : List Nat := [1, 1, 1, 1, 1, 1, 0, 1, 2, 1, 1, 0]
def pAO11 : List Nat := [1, 1, 1, 1, 0, 1, 2, 1, 1, 1, 1, 0]
def pAO12 : List Nat := [1, 1, 0, 1, 4, 1, 3, 1, 3, 1, 2, 0]
def pAO13 : List Nat := [1, 1, 1, 1, 1, 1, 1, 1, 1, 1, 1]
def pAO14 : List Nat := [1, 1, 1, 1, 0, 1, 2, 1, 0, 0]
def pAO15 : List Nat := [1, 1, 1, 1, 0, 1, 2, 1, 0, 1]
def pAO16 : List Nat := [1, 1, 0, 1, 4, 1, 3, 1, 2, 0]
def pAO17 : List Nat := [1, 1, 1, 1, 1, 1, 1, 1, 1]
def pAO18 : List Nat := [1, 1, 1, 1, 0, 1, 2, 1, 1]
def pAO19 : List Nat := [1, 1, 0, 1, 4, 1, 2, 0]
def pAO20 : List Nat := [1, 1, 1, 1, 1, 1, 1]
def pAO21 : List Nat := [1, 0, 1, 2, 1]
def pAO22 : List Nat := [1, 1, 1, 1, 1]
def pAO23 : List Nat := [1, 1, 1]
end Go.Sx
section
namespace Go.Proofs.YthfpekhpeiebjaaGreatDoor
open Go.RowKit Go.Sx
theorem xcutB_spec : ∀ s : List UInt8, (cutB s).2.2 = true → s = (cutB s).1 ++ 32 :: (cutB s).2.1
 | [], h => by cases h
 | c :: r, h => by
  unfold cutB at h ⊢
  split
  ·rename_i hc
   rw [hc]
   rfl
  rename_i hc
  rw [if_neg hc] at h
  have := xcutB_spec r h
  simp only [List.cons_append]
  rw [← this]
theorem xcutB_no : ∀ s : List UInt8, (cutB s).2.2 = false → (cutB s).1 = s
 | [], _ => rfl
 | c :: r, h => by
  unfold cutB at h ⊢
  split
  ·rename_i hc
   rw [if_pos hc] at h
   cases h
  rename_i hc
  rw [if_neg hc] at h
  rw [xcutB_no r h]
theorem xcutB_hit : ∀ (wd r : List UInt8), (∀ b ∈ wd, b ≠ 32) → cutB (wd ++ 32 :: r) = (wd, r, true)
 | [], r, _ => by simp [cutB]
 | c :: wd, r, h => by
  have ih := xcutB_hit wd r (fun b hb => h b (List.mem_cons_of_mem _ hb))
  rw [List.cons_append, cutB, if_neg (h c (List.mem_cons_self ..)), ih]
theorem beh_app (wd r : List UInt8) : behP (wd ++ 32 :: r) wd = some r := by
 have h : (wd ++ 32 :: r).take (wd.length + 1) = wd ++ [32] := by rw [show wd ++ 32 :: r = (wd ++ [32]) ++ r by simp, show wd.length + 1 = (wd ++ [32]).length by simp, List.take_left]
 rw [beh_yes h]
 simp [List.drop_append]
theorem beh_eq {s wd r : List UInt8} (h : behP s wd = some r) : s = wd ++ 32 :: r := by
 by_cases h1 : s.take (wd.length + 1) = wd ++ [32]
 ·rw [beh_yes h1] at h
  injection h with h
  rw [← h]
  conv => lhs; rw [← List.take_append_drop (wd.length + 1) s, h1]
  simp
 rw [beh_not h1] at h
 cases h
theorem beh_len {s wd r : List UInt8} (h : behP s wd = some r) : r.length ≤ s.length := by
 rw [beh_eq h]
 simp
 omega
theorem cut_beh {s wd r : List UInt8} (h : behP s wd = some r) (hw : ∀ b ∈ wd, b ≠ 32) : cutB s = (wd, r, true) := by rw [beh_eq h, xcutB_hit wd r hw]
theorem stp_none {s : List UInt8} (h1 : s ≠ [115, 97, 118, 101]) (h2 : s ≠ [100, 114, 97, 105, 110]) (e0 : behP s [101, 118, 101, 110, 116] = none) (e1 : behP s [109, 97, 114, 107] = none) (e2 : behP s [112, 105, 99, 107] = none) (e3 : behP s [114, 101, 115, 116, 111, 114, 101] = none) (e4 : behP s [115, 112, 111, 105, 108] = none) : stepP s = none := by
 generalize hc : cutB s = q
 obtain ⟨wd, r, more⟩ := q
 cases more with
 | false =>
  have h3 := xcutB_no s (by rw [hc])
  rw [hc] at h3
  simp only at h3
  subst h3
  simp [stepP, hc, h1, h2]
 | true =>
  have h3 := xcutB_spec s (by rw [hc])
  rw [hc] at h3
  simp only at h3
  have hb : behP s wd = some r := by rw [h3]; exact beh_app wd r
  have n0 : wd ≠ [101, 118, 101, 110, 116] := fun e => by subst e; rw [e0] at hb; cases hb
  have n1 : wd ≠ [109, 97, 114, 107] := fun e => by subst e; rw [e1] at hb; cases hb
  have n2 : wd ≠ [112, 105, 99, 107] := fun e => by subst e; rw [e2] at hb; cases hb
  have n3 : wd ≠ [114, 101, 115, 116, 111, 114, 101] := fun e => by subst e; rw [e3] at hb; cases hb
  have n4 : wd ≠ [115, 112, 111, 105, 108] := fun e => by subst e; rw [e4] at hb; cases hb
  simp [stepP, hc, n0, n1, n2, n3, n4]
theorem key_none {s : List UInt8} (h : keyR s = none) : keyK s = none := by
 cases hk : keyK s with
 | none => rfl
 | some kq =>
  obtain ⟨k, q⟩ := kq
  have := (keyR_iff s k (quoteB k).length).2 ⟨q, (keyK_iff s k q).1 hk, rfl⟩
  rw [h] at this
  cases this
theorem quote_pos (k : List UInt8) : 0 < (quoteB k).length := by
 unfold quoteB
 simp
def rsV : Option St → Value
 | some x => .tuple #[.agg x.w.toArray, .bool true]
 | none => .tuple #[zst, .bool false]
noncomputable def B66 : Code := (Tryz.f66.body).getD .skip
noncomputable def sq66 (p : List Nat) : Go.Sx.K := .seq (sub B66 p)
set_option maxHeartbeats 20000000 in
set_option maxRecDepth 100000 in
theorem rstepl_any (s : List UInt8) (hs : s.length ≤ 1048576) (w : World) :
  Calls Tryz.prog 66 #[.string (mkB s)] w fun e w' => e = .returned (rsV (stepP s)) ∧ Below w.heap.size w w' := by
 generalize hR : stepP s = R
 refine enterF (N := w.heap.size) (F := Rws w.heap.size []) (fn := Tryz.f66) (c := B66) [.so (mkB s)] Tryz.func66 rfl rfl (Nat.le_refl _) (Rws.none _ _ _) ?_
 refine zTq Rws.stable Rws.fewer [0, 2, 19] 1 ?_
 rcases zB ((mkB s).toList == (ByteArray.mk #[115, 97, 118, 101]).toList) with b0 | b0
 ·refine zR 19 b0 ?_
  refine zT Rws.stable Rws.fewer [2, 3] 1 ⟨.exit .ret, [], [(2, .lp 0 0), (3, .v (.bool true))], [(zAO2, 41)]⟩ ?_
  refine zE (.tup [.agg zAO2, .v (.bool true)]) ?_
  have hq : stepP s = some sv1 := by rw [w_yes (y := [115, 97, 118, 101]) b0]; rfl
  intro ρ w9 hm' hf
  exact ⟨by rw [← hR, hq]; rfl, hm'.below⟩
 refine zR 19 b0 ?_
 refine zT Rws.stable Rws.fewer [0, 2, 23] 1 ⟨.code (sub B66 [1, 1, 0, 1]), [(sq66 pAO23)], [(0, .so (mkB s)), (2, .lp 0 0), (23, .bo ((mkB s).toList == (ByteArray.mk #[100, 114, 97, 105, 110]).toList))], [(zAO1, 41)]⟩ ?_
 rcases zB ((mkB s).toList == (ByteArray.mk #[100, 114, 97, 105, 110]).toList) with b1 | b1
 ·refine zR 23 b1 ?_
  refine zT Rws.stable Rws.fewer [2, 3] 1 ⟨.exit .ret, [], [(2, .lp 0 0), (3, .v (.bool true))], [(zAO3, 41)]⟩ ?_
  refine zE (.tup [.agg zAO3, .v (.bool true)]) ?_
  have hq : stepP s = some dr := by rw [w_yes (y := [100, 114, 97, 105, 110]) b1]; rfl
  intro ρ w9 hm' hf
  exact ⟨by rw [← hR, hq]; rfl, hm'.below⟩
 refine zR 23 b1 ?_
 refine zT Rws.stable Rws.fewer [0, 2, 26] 1 ⟨pops B66 [1, 1, 1, 0] 1, [(sq66 [1, 1, 1, 1])], [(0, .so (mkB s)), (2, .lp 0 0), (26, .so (mkB s))], [(zAO1, 41)]⟩ ?_
 cases hb0 : behP s [101, 118, 101, 110, 116] with
 | none =>
  refine zC Rws.stable 32 [.so (mkB s), .v (.string ⟨#[101, 118, 101, 110, 116]⟩)] (.tup [.v (.string ⟨#[]⟩), .v (.bool false)]) (fun _ _ w1 _ _ => (behind_any s [101, 118, 101, 110, 116] hs (by decide) w1).mono fun e w2 h => by rw [hb0] at h; exact h) ?_
  refine zT Rws.stable Rws.fewer [0, 2, 72] 1 ⟨pops B66 [1, 1, 1, 1, 1, 0] 1, [(sq66 [1, 1, 1, 1, 1, 1])], [(0, .so (mkB s)), (2, .lp 0 0), (72, .so (mkB s))], [(zAO1, 41)]⟩ ?_
  cases hb1 : behP s [109, 97, 114, 107] with
  | none =>
   refine zC Rws.stable 32 [.so (mkB s), .v (.string ⟨#[109, 97, 114, 107]⟩)] (.tup [.v (.string ⟨#[]⟩), .v (.bool false)]) (fun _ _ w1 _ _ => (behind_any s [109, 97, 114, 107] hs (by decide) w1).mono fun e w2 h => by rw [hb1] at h; exact h) ?_
   refine zT Rws.stable Rws.fewer [0, 2, 94] 1 ⟨pops B66 [1, 1, 1, 1, 1, 1, 1, 0] 1, [(sq66 [1, 1, 1, 1, 1, 1, 1, 1])], [(0, .so (mkB s)), (2, .lp 0 0), (94, .so (mkB s))], [(zAO1, 41)]⟩ ?_
   cases hb2 : behP s [112, 105, 99, 107] with
   | none =>
    refine zC Rws.stable 32 [.so (mkB s), .v (.string ⟨#[112, 105, 99, 107]⟩)] (.tup [.v (.string ⟨#[]⟩), .v (.bool false)]) (fun _ _ w1 _ _ => (behind_any s [112, 105, 99, 107] hs (by decide) w1).mono fun e w2 h => by rw [hb2] at h; exact h) ?_
    refine zT Rws.stable Rws.fewer [0, 2, 112] 1 ⟨pops B66 [1, 1, 1, 1, 1, 1, 1, 1, 1, 0] 1, [(sq66 [1, 1, 1, 1, 1, 1, 1, 1, 1, 1])], [(0, .so (mkB s)), (2, .lp 0 0), (112, .so (mkB s))], [(zAO1, 41)]⟩ ?_
    cases hb3 : behP s [114, 101, 115, 116, 111, 114, 101] with
    | none =>
     refine zC Rws.stable 32 [.so (mkB s), .v (.string ⟨#[114, 101, 115, 116, 111, 114, 101]⟩)] (.tup [.v (.string ⟨#[]⟩), .v (.bool false)]) (fun _ _ w1 _ _ => (behind_any s [114, 101, 115, 116, 111, 114, 101] hs (by decide) w1).mono fun e w2 h => by rw [hb3] at h; exact h) ?_
     refine zT Rws.stable Rws.fewer [2, 130] 1 ⟨pops B66 [1, 1, 1, 1, 1, 1, 1, 1, 1, 1, 1, 0] 1, [(sq66 [1, 1, 1, 1, 1, 1, 1, 1, 1, 1, 1, 1])], [(2, .lp 0 0), (130, .so (mkB s))], [(zAO1, 41)]⟩ ?_
     cases hb4 : behP s [115, 112, 111, 105, 108] with
     | none =>
      refine zC Rws.stable 32 [.so (mkB s), .v (.string ⟨#[115, 112, 111, 105, 108]⟩)] (.tup [.v (.string ⟨#[]⟩), .v (.bool false)]) (fun _ _ w1 _ _ => (behind_any s [115, 112, 111, 105, 108] hs (by decide) w1).mono fun e w2 h => by rw [hb4] at h; exact h) ?_
      refine zT Rws.stable Rws.fewer [2, 3] 1 ⟨.exit .ret, [], [(2, .lp 0 0), (3, .v (.bool false))], [(zAO1, 41)]⟩ ?_
      refine zE (.tup zAO0) ?_
      have hq : stepP s = none := by exact stp_none (w_no (y := [115, 97, 118, 101]) b0) (w_no (y := [100, 114, 97, 105, 110]) b1) hb0 hb1 hb2 hb3 hb4
      intro ρ w9 hm' hf
      exact ⟨by rw [← hR, hq]; rfl, hm'.below⟩
     | some rst =>
      refine zC Rws.stable 32 [.so (mkB s), .v (.string ⟨#[115, 112, 111, 105, 108]⟩)] (.tup [.so (mkB rst), .v (.bool true)]) (fun _ _ w1 _ _ => (behind_any s [115, 112, 111, 105, 108] hs (by decide) w1).mono fun e w2 h => by rw [hb4] at h; exact h) ?_
      have hc := cut_beh hb4 (by decide)
      have hrl := beh_len hb4
      refine zT Rws.stable Rws.fewer [2, 136] 1 ⟨pops B66 [1, 1, 1, 1, 1, 1, 1, 1, 1, 1, 1, 1, 0, 1, 2, 0] 1, [(sq66 [1, 1, 1, 1, 1, 1, 1, 1, 1, 1, 1, 1, 0, 1, 2, 1]), (sq66 pAO9)], [(2, .lp 0 0), (136, .so (mkB rst))], [(zAO1, 41)]⟩ ?_
      cases hnp : numsP rst 2 with
      | none =>
       refine zC Rws.stable 34 [.so (mkB rst), .v (.int .i64 2)] (.tup [.v (.slice none 0 0), .v (.bool false)]) (fun _ _ w1 hi _ => (rnumbers_any rst 2 (by omega) (by decide) w1).mono fun e w2 h => by rw [hnp] at h; exact h) ?_
       refine zT Rws.stable Rws.fewer [2, 3] 1 ⟨.exit .ret, [], [(2, .lp 0 0), (3, .v (.bool false))], [(zAO1, 41)]⟩ ?_
       refine zE (.tup zAO0) ?_
       have hq : stepP s = none := by simp [stepP, hc, hnp]
       intro ρ w9 hm' hf
       exact ⟨by rw [← hR, hq]; rfl, hm'.below⟩
      | some l1 =>
       obtain ⟨x0, x1, rfl⟩ := nums_two hnp
       refine At.rowCall (e := 2) (size := 1) 34 [.so (mkB rst), .v (.int .i64 2)] (iw [x0, x1]) (fun A' n' c' => .tup [.sl A' n' c', .v (.bool true)]) (by kernel_rfl) (by kernel_rfl) (by kernel_rfl) rfl (fun ρ w1 hm hf => (rnumbers_any rst 2 (by omega) (by decide) w1).mono fun e w2 h => by rw [hnp] at h; obtain ⟨A', c', h1, h2⟩ := h; exact ⟨A', 2, c', h1, h2⟩) (fun A1 n1 c1 hl1 => ?_)
       obtain rfl : n1 = 2 := by simpa [iw] using hl1.symm
       clear hl1
       refine At.know (p := ∃ b, A1 = some b) (fun ρ w1 h => h.some (.head _) (show 0 < 2 by decide)) fun ⟨b1, hb1⟩ => ?_
       subst hb1
       refine zT Rws.stable Rws.fewer [2, 16, 142, 143] 1 ⟨pops B66 pAO4 4, [(sq66 pAO5), (sq66 pAO7), (sq66 pAO9)], [(2, .lp 0 0), (16, .sl (some b1) 2 c1), (142, .v (.bool false)), (143, .sl (some b1) 2 c1)], [(zAO1, 41)]⟩ ?_
       refine At.idx b1 2 1 1 (by kernel_rfl) (by omega) (by omega) Rws.stable ?_
       refine zT Rws.stable Rws.fewer [2, 16, 142, 144] 1 ⟨pops B66 pAO4 5, [(sq66 pAO5), (sq66 pAO7), (sq66 pAO9)], [(2, .lp 0 0), (16, .sl (some b1) 2 c1), (142, .v (.bool false)), (144, .v (.pointer (some (Addr.mk b1.block (b1.off + Int.toNat 1 * 1) none))))], [(zAO1, 41)]⟩ ?_
       refine At.ldx (b1.add ((1 : Int).toNat * 1)) (.io .i64 x1) (by kernel_rfl) Rws.stable (fun ρ w1 hm' hf => hf.src (.head _) rfl 1 _ rfl) ?_
       refine zTq Rws.stable Rws.fewer [2, 16, 148] 1 ?_
       rcases zB (decide (x1 < 0)) with b0 | b0
       ·refine zR 148 b0 ?_
        refine zT Rws.stable Rws.fewer [2, 3] 1 ⟨.exit .ret, [], [(2, .lp 0 0), (3, .v (.bool false))], [(zAO1, 41)]⟩ ?_
        refine zE (.tup zAO0) ?_
        have hno : ¬ (0 ≤ x1 ∧ x1 < 4294967296) := fun ⟨h0, h1⟩ => by
         first
          | exact absurd (of_decide_eq_true ‹decide (x1 < 0) = true›) (by omega)
          | exact absurd (of_decide_eq_true ‹decide (x1 > 4294967295) = true›) (by omega)
        have hq : stepP s = none := by simp only [stepP, hc, hnp]; simp; omega
        intro ρ w9 hm' hf
        exact ⟨by rw [← hR, hq]; rfl, hm'.below⟩
       refine zR 148 b0 ?_
       refine zT Rws.stable Rws.fewer [2, 16, 148, 149] 1 ⟨pops B66 pAO4 10, [(sq66 pAO5), (sq66 pAO7), (sq66 pAO9)], [(2, .lp 0 0), (16, .sl (some b1) 2 c1), (148, .v (.bool false)), (149, .sl (some b1) 2 c1)], [(zAO1, 41)]⟩ ?_
       refine At.idx b1 2 1 1 (by kernel_rfl) (by omega) (by omega) Rws.stable ?_
       refine zT Rws.stable Rws.fewer [2, 16, 148, 150] 1 ⟨pops B66 pAO4 11, [(sq66 pAO5), (sq66 pAO7), (sq66 pAO9)], [(2, .lp 0 0), (16, .sl (some b1) 2 c1), (148, .v (.bool false)), (150, .v (.pointer (some (Addr.mk b1.block (b1.off + Int.toNat 1 * 1) none))))], [(zAO1, 41)]⟩ ?_
       refine At.ldx (b1.add ((1 : Int).toNat * 1)) (.io .i64 x1) (by kernel_rfl) Rws.stable (fun ρ w1 hm' hf => hf.src (.head _) rfl 1 _ rfl) ?_
       refine zTq Rws.stable Rws.fewer [2, 16, 153] 1 ?_
       rcases zB (decide (x1 > 4294967295)) with b0 | b0
       ·refine zR 153 b0 ?_
        refine zT Rws.stable Rws.fewer [2, 3] 1 ⟨.exit .ret, [], [(2, .lp 0 0), (3, .v (.bool false))], [(zAO1, 41)]⟩ ?_
        refine zE (.tup zAO0) ?_
        have hno : ¬ (0 ≤ x1 ∧ x1 < 4294967296) := fun ⟨h0, h1⟩ => by
         first
          | exact absurd (of_decide_eq_true ‹decide (x1 < 0) = true›) (by omega)
          | exact absurd (of_decide_eq_true ‹decide (x1 > 4294967295) = true›) (by omega)
        have hq : stepP s = none := by simp only [stepP, hc, hnp]; simp; omega
        intro ρ w9 hm' hf
        exact ⟨by rw [← hR, hq]; rfl, hm'.below⟩
       refine zR 153 b0 ?_
       refine zT Rws.stable Rws.fewer [2, 16, 155] 1 ⟨.qops (opsOf (sub B66 pAO6)) (((opsOf (sub B66 pAO6)).toList.take 8).drop 1), [.tail (opsOf (sub B66 pAO6)) ((opsOf (sub B66 pAO6)).toList.drop 8), (sq66 pAO21), (sq66 pAO9)], [(2, .lp 0 0), (16, .sl (some b1) 2 c1), (155, .sl (some b1) 2 c1)], [(zAO1, 41)]⟩ ?_
       refine At.idx b1 2 1 0 (by kernel_rfl) (by omega) (by omega) Rws.stable ?_
       refine zT Rws.stable Rws.fewer [2, 16, 156] 1 ⟨.qops (opsOf (sub B66 pAO6)) (((opsOf (sub B66 pAO6)).toList.take 8).drop 2), [.tail (opsOf (sub B66 pAO6)) ((opsOf (sub B66 pAO6)).toList.drop 8), (sq66 pAO21), (sq66 pAO9)], [(2, .lp 0 0), (16, .sl (some b1) 2 c1), (156, .v (.pointer (some (b1.add (Int.toNat 0 * 1)))))], [(zAO1, 41)]⟩ ?_
       refine At.ldx (b1.add ((0 : Int).toNat * 1)) (.io .i64 x0) (by kernel_rfl) Rws.stable (fun ρ w1 hm' hf => hf.src (.head _) rfl 0 _ rfl) ?_
       refine zT Rws.stable Rws.fewer [2, 157, 158] 1 ⟨.qops (opsOf (sub B66 pAO6)) (((opsOf (sub B66 pAO6)).toList.take 8).drop 4), [.tail (opsOf (sub B66 pAO6)) ((opsOf (sub B66 pAO6)).toList.drop 8), (sq66 pAO21), (sq66 pAO9)], [(2, .lp 0 0), (157, .io .i64 x0), (158, .sl (some b1) 2 c1)], [(zAO1, 41)]⟩ ?_
       refine At.idx b1 2 1 1 (by kernel_rfl) (by omega) (by omega) Rws.stable ?_
       refine zT Rws.stable Rws.fewer [2, 157, 159] 1 ⟨.qops (opsOf (sub B66 pAO6)) (((opsOf (sub B66 pAO6)).toList.take 8).drop 5), [.tail (opsOf (sub B66 pAO6)) ((opsOf (sub B66 pAO6)).toList.drop 8), (sq66 pAO21), (sq66 pAO9)], [(2, .lp 0 0), (157, .io .i64 x0), (159, .v (.pointer (some (Addr.mk b1.block (b1.off + Int.toNat 1 * 1) none))))], [(zAO1, 41)]⟩ ?_
       refine At.ldx (b1.add ((1 : Int).toNat * 1)) (.io .i64 x1) (by kernel_rfl) Rws.stable (fun ρ w1 hm' hf => hf.src (.head _) rfl 1 _ rfl) ?_
       refine zT Rws.stable Rws.fewer [2, 3] 1 ⟨.exit .ret, [], [(2, .lp 0 0), (3, .v (.bool true))], [([.v (.int .i64 5), .v (.int .i64 0), .v (.string (ByteArray.mk #[])), .v (.int .i64 0), .v (.int .i64 0), .v (.int .i64 0), .v (.int .i64 0), .v (.int .i64 0), .io .i64 x0, .io IntKind.u32 (IntKind.u32.wrap x1)], 41)]⟩ ?_
       refine zE (.tup [.agg [.v (.int .i64 5), .v (.int .i64 0), .v (.string (ByteArray.mk #[])), .v (.int .i64 0), .v (.int .i64 0), .v (.int .i64 0), .v (.int .i64 0), .v (.int .i64 0), .io .i64 x0, .io IntKind.u32 (IntKind.u32.wrap x1)], .v (.bool true)]) ?_
       have h0 : ¬ x1 < 0 := of_decide_eq_false ‹decide (x1 < 0) = false›
       have h1 : ¬ x1 > 4294967295 := of_decide_eq_false ‹decide (x1 > 4294967295) = false›
       have hwr : IntKind.u32.wrap x1 = x1 := by simp only [IntKind.wrap, IntKind.signed, IntKind.bits]; simp; omega
       rw [hwr]
       have hq : stepP s = some (sp x0 x1) := by simp [stepP, hc, hnp]; omega
       intro ρ w9 hm' hf
       exact ⟨by rw [← hR, hq]; rfl, hm'.below⟩
    | some rst =>
     refine zC Rws.stable 32 [.so (mkB s), .v (.string ⟨#[114, 101, 115, 116, 111, 114, 101]⟩)] (.tup [.so (mkB rst), .v (.bool true)]) (fun _ _ w1 _ _ => (behind_any s [114, 101, 115, 116, 111, 114, 101] hs (by decide) w1).mono fun e w2 h => by rw [hb3] at h; exact h) ?_
     have hc := cut_beh hb3 (by decide)
     have hrl := beh_len hb3
     refine zT Rws.stable Rws.fewer [2, 118] 1 ⟨pops B66 [1, 1, 1, 1, 1, 1, 1, 1, 1, 1, 0, 1, 2, 0] 1, [(sq66 [1, 1, 1, 1, 1, 1, 1, 1, 1, 1, 0, 1, 2, 1]), (sq66 pAO13)], [(2, .lp 0 0), (118, .so (mkB rst))], [(zAO1, 41)]⟩ ?_
     cases hnp : numsP rst 1 with
     | none =>
      refine zC Rws.stable 34 [.so (mkB rst), .v (.int .i64 1)] (.tup [.v (.slice none 0 0), .v (.bool false)]) (fun _ _ w1 hi _ => (rnumbers_any rst 1 (by omega) (by decide) w1).mono fun e w2 h => by rw [hnp] at h; exact h) ?_
      refine zT Rws.stable Rws.fewer [2, 3] 1 ⟨.exit .ret, [], [(2, .lp 0 0), (3, .v (.bool false))], [(zAO1, 41)]⟩ ?_
      refine zE (.tup zAO0) ?_
      have hq : stepP s = none := by simp [stepP, hc, hnp]
      intro ρ w9 hm' hf
      exact ⟨by rw [← hR, hq]; rfl, hm'.below⟩
     | some l1 =>
      obtain ⟨x0, rfl⟩ := nums_one hnp
      refine At.rowCall (e := 2) (size := 1) 34 [.so (mkB rst), .v (.int .i64 1)] (iw [x0]) (fun A' n' c' => .tup [.sl A' n' c', .v (.bool true)]) (by kernel_rfl) (by kernel_rfl) (by kernel_rfl) rfl (fun ρ w1 hm hf => (rnumbers_any rst 1 (by omega) (by decide) w1).mono fun e w2 h => by rw [hnp] at h; obtain ⟨A', c', h1, h2⟩ := h; exact ⟨A', 1, c', h1, h2⟩) (fun A1 n1 c1 hl1 => ?_)
      obtain rfl : n1 = 1 := by simpa [iw] using hl1.symm
      clear hl1
      refine At.know (p := ∃ b, A1 = some b) (fun ρ w1 h => h.some (.head _) (show 0 < 1 by decide)) fun ⟨b1, hb1⟩ => ?_
      subst hb1
      refine zT Rws.stable Rws.fewer [2, 125] 1 ⟨pops B66 pAO8 1, [(sq66 pAO21), (sq66 pAO13)], [(2, .lp 0 0), (125, .sl (some b1) 1 c1)], [(zAO1, 41)]⟩ ?_
      refine At.idx b1 1 1 0 (by kernel_rfl) (by omega) (by omega) Rws.stable ?_
      refine zT Rws.stable Rws.fewer [2, 126] 1 ⟨pops B66 pAO8 2, [(sq66 pAO21), (sq66 pAO13)], [(2, .lp 0 0), (126, .v (.pointer (some (b1.add (Int.toNat 0 * 1)))))], [(zAO1, 41)]⟩ ?_
      refine At.ldx (b1.add ((0 : Int).toNat * 1)) (.io .i64 x0) (by kernel_rfl) Rws.stable (fun ρ w1 hm' hf => hf.src (.head _) rfl 0 _ rfl) ?_
      refine zT Rws.stable Rws.fewer [2, 3] 1 ⟨.exit .ret, [], [(2, .lp 0 0), (3, .v (.bool true))], [([.v (.int .i64 4), .v (.int .i64 0), .v (.string (ByteArray.mk #[])), .v (.int .i64 0), .v (.int .i64 0), .v (.int .i64 0), .v (.int .i64 0), .io .i64 x0, .v (.int .i64 0), .v (.int IntKind.u32 0)], 41)]⟩ ?_
      refine zE (.tup [.agg [.v (.int .i64 4), .v (.int .i64 0), .v (.string (ByteArray.mk #[])), .v (.int .i64 0), .v (.int .i64 0), .v (.int .i64 0), .v (.int .i64 0), .io .i64 x0, .v (.int .i64 0), .v (.int IntKind.u32 0)], .v (.bool true)]) ?_
      have hq : stepP s = some (rs x0) := by simp [stepP, hc, hnp]
      intro ρ w9 hm' hf
      exact ⟨by rw [← hR, hq]; rfl, hm'.below⟩
   | some rst =>
    refine zC Rws.stable 32 [.so (mkB s), .v (.string ⟨#[112, 105, 99, 107]⟩)] (.tup [.so (mkB rst), .v (.bool true)]) (fun _ _ w1 _ _ => (behind_any s [112, 105, 99, 107] hs (by decide) w1).mono fun e w2 h => by rw [hb2] at h; exact h) ?_
    have hc := cut_beh hb2 (by decide)
    have hrl := beh_len hb2
    refine zT Rws.stable Rws.fewer [2, 100] 1 ⟨pops B66 [1, 1, 1, 1, 1, 1, 1, 1, 0, 1, 2, 0] 1, [(sq66 [1, 1, 1, 1, 1, 1, 1, 1, 0, 1, 2, 1]), (sq66 pAO17)], [(2, .lp 0 0), (100, .so (mkB rst))], [(zAO1, 41)]⟩ ?_
    cases hnp : numsP rst 1 with
    | none =>
     refine zC Rws.stable 34 [.so (mkB rst), .v (.int .i64 1)] (.tup [.v (.slice none 0 0), .v (.bool false)]) (fun _ _ w1 hi _ => (rnumbers_any rst 1 (by omega) (by decide) w1).mono fun e w2 h => by rw [hnp] at h; exact h) ?_
     refine zT Rws.stable Rws.fewer [2, 3] 1 ⟨.exit .ret, [], [(2, .lp 0 0), (3, .v (.bool false))], [(zAO1, 41)]⟩ ?_
     refine zE (.tup zAO0) ?_
     have hq : stepP s = none := by simp [stepP, hc, hnp]
     intro ρ w9 hm' hf
     exact ⟨by rw [← hR, hq]; rfl, hm'.below⟩
    | some l1 =>
     obtain ⟨x0, rfl⟩ := nums_one hnp
     refine At.rowCall (e := 2) (size := 1) 34 [.so (mkB rst), .v (.int .i64 1)] (iw [x0]) (fun A' n' c' => .tup [.sl A' n' c', .v (.bool true)]) (by kernel_rfl) (by kernel_rfl) (by kernel_rfl) rfl (fun ρ w1 hm hf => (rnumbers_any rst 1 (by omega) (by decide) w1).mono fun e w2 h => by rw [hnp] at h; obtain ⟨A', c', h1, h2⟩ := h; exact ⟨A', 1, c', h1, h2⟩) (fun A1 n1 c1 hl1 => ?_)
     obtain rfl : n1 = 1 := by simpa [iw] using hl1.symm
     clear hl1
     refine At.know (p := ∃ b, A1 = some b) (fun ρ w1 h => h.some (.head _) (show 0 < 1 by decide)) fun ⟨b1, hb1⟩ => ?_
     subst hb1
     refine zT Rws.stable Rws.fewer [2, 107] 1 ⟨pops B66 [1, 1, 1, 1, 1, 1, 1, 1, 0, 1, 2, 1, 1, 0] 1, [(sq66 pAO21), (sq66 pAO17)], [(2, .lp 0 0), (107, .sl (some b1) 1 c1)], [(zAO1, 41)]⟩ ?_
     refine At.idx b1 1 1 0 (by kernel_rfl) (by omega) (by omega) Rws.stable ?_
     refine zT Rws.stable Rws.fewer [2, 108] 1 ⟨pops B66 [1, 1, 1, 1, 1, 1, 1, 1, 0, 1, 2, 1, 1, 0] 2, [(sq66 pAO21), (sq66 pAO17)], [(2, .lp 0 0), (108, .v (.pointer (some (b1.add (Int.toNat 0 * 1)))))], [(zAO1, 41)]⟩ ?_
     refine At.ldx (b1.add ((0 : Int).toNat * 1)) (.io .i64 x0) (by kernel_rfl) Rws.stable (fun ρ w1 hm' hf => hf.src (.head _) rfl 0 _ rfl) ?_
     refine zT Rws.stable Rws.fewer [2, 3] 1 ⟨.exit .ret, [], [(2, .lp 0 0), (3, .v (.bool true))], [([.v (.int .i64 2), .v (.int .i64 0), .v (.string (ByteArray.mk #[])), .v (.int .i64 0), .v (.int .i64 0), .v (.int .i64 0), .io .i64 x0, .v (.int .i64 0), .v (.int .i64 0), .v (.int IntKind.u32 0)], 41)]⟩ ?_
     refine zE (.tup [.agg [.v (.int .i64 2), .v (.int .i64 0), .v (.string (ByteArray.mk #[])), .v (.int .i64 0), .v (.int .i64 0), .v (.int .i64 0), .io .i64 x0, .v (.int .i64 0), .v (.int .i64 0), .v (.int IntKind.u32 0)], .v (.bool true)]) ?_
     have hq : stepP s = some (pk x0) := by simp [stepP, hc, hnp]
     intro ρ w9 hm' hf
     exact ⟨by rw [← hR, hq]; rfl, hm'.below⟩
  | some rst =>
   refine zC Rws.stable 32 [.so (mkB s), .v (.string ⟨#[109, 97, 114, 107]⟩)] (.tup [.so (mkB rst), .v (.bool true)]) (fun _ _ w1 _ _ => (behind_any s [109, 97, 114, 107] hs (by decide) w1).mono fun e w2 h => by rw [hb1] at h; exact h) ?_
   have hc := cut_beh hb1 (by decide)
   have hrl := beh_len hb1
   refine zT Rws.stable Rws.fewer [2, 78] 1 ⟨pops B66 [1, 1, 1, 1, 1, 1, 0, 1, 2, 0] 1, [(sq66 [1, 1, 1, 1, 1, 1, 0, 1, 2, 1]), (sq66 pAO20)], [(2, .lp 0 0), (78, .so (mkB rst))], [(zAO1, 41)]⟩ ?_
   cases hnp : numsP rst 2 with
   | none =>
    refine zC Rws.stable 34 [.so (mkB rst), .v (.int .i64 2)] (.tup [.v (.slice none 0 0), .v (.bool false)]) (fun _ _ w1 hi _ => (rnumbers_any rst 2 (by omega) (by decide) w1).mono fun e w2 h => by rw [hnp] at h; exact h) ?_
    refine zT Rws.stable Rws.fewer [2, 3] 1 ⟨.exit .ret, [], [(2, .lp 0 0), (3, .v (.bool false))], [(zAO1, 41)]⟩ ?_
    refine zE (.tup zAO0) ?_
    have hq : stepP s = none := by simp [stepP, hc, hnp]
    intro ρ w9 hm' hf
    exact ⟨by rw [← hR, hq]; rfl, hm'.below⟩
   | some l1 =>
    obtain ⟨x0, x1, rfl⟩ := nums_two hnp
    refine At.rowCall (e := 2) (size := 1) 34 [.so (mkB rst), .v (.int .i64 2)] (iw [x0, x1]) (fun A' n' c' => .tup [.sl A' n' c', .v (.bool true)]) (by kernel_rfl) (by kernel_rfl) (by kernel_rfl) rfl (fun ρ w1 hm hf => (rnumbers_any rst 2 (by omega) (by decide) w1).mono fun e w2 h => by rw [hnp] at h; obtain ⟨A', c', h1, h2⟩ := h; exact ⟨A', 2, c', h1, h2⟩) (fun A1 n1 c1 hl1 => ?_)
    obtain rfl : n1 = 2 := by simpa [iw] using hl1.symm
    clear hl1
    refine At.know (p := ∃ b, A1 = some b) (fun ρ w1 h => h.some (.head _) (show 0 < 2 by decide)) fun ⟨b1, hb1⟩ => ?_
    subst hb1
    refine zT Rws.stable Rws.fewer [2, 10, 85] 1 ⟨.qops (opsOf (sub B66 pAO10)) (((opsOf (sub B66 pAO10)).toList.take 8).drop 1), [.tail (opsOf (sub B66 pAO10)) ((opsOf (sub B66 pAO10)).toList.drop 8), (sq66 pAO21), (sq66 pAO20)], [(2, .lp 0 0), (10, .sl (some b1) 2 c1), (85, .sl (some b1) 2 c1)], [(zAO1, 41)]⟩ ?_
    refine At.idx b1 2 1 0 (by kernel_rfl) (by omega) (by omega) Rws.stable ?_
    refine zT Rws.stable Rws.fewer [2, 10, 86] 1 ⟨.qops (opsOf (sub B66 pAO10)) (((opsOf (sub B66 pAO10)).toList.take 8).drop 2), [.tail (opsOf (sub B66 pAO10)) ((opsOf (sub B66 pAO10)).toList.drop 8), (sq66 pAO21), (sq66 pAO20)], [(2, .lp 0 0), (10, .sl (some b1) 2 c1), (86, .v (.pointer (some (b1.add (Int.toNat 0 * 1)))))], [(zAO1, 41)]⟩ ?_
    refine At.ldx (b1.add ((0 : Int).toNat * 1)) (.io .i64 x0) (by kernel_rfl) Rws.stable (fun ρ w1 hm' hf => hf.src (.head _) rfl 0 _ rfl) ?_
    refine zT Rws.stable Rws.fewer [2, 87, 88] 1 ⟨.qops (opsOf (sub B66 pAO10)) (((opsOf (sub B66 pAO10)).toList.take 8).drop 4), [.tail (opsOf (sub B66 pAO10)) ((opsOf (sub B66 pAO10)).toList.drop 8), (sq66 pAO21), (sq66 pAO20)], [(2, .lp 0 0), (87, .io .i64 x0), (88, .sl (some b1) 2 c1)], [(zAO1, 41)]⟩ ?_
    refine At.idx b1 2 1 1 (by kernel_rfl) (by omega) (by omega) Rws.stable ?_
    refine zT Rws.stable Rws.fewer [2, 87, 89] 1 ⟨.qops (opsOf (sub B66 pAO10)) (((opsOf (sub B66 pAO10)).toList.take 8).drop 5), [.tail (opsOf (sub B66 pAO10)) ((opsOf (sub B66 pAO10)).toList.drop 8), (sq66 pAO21), (sq66 pAO20)], [(2, .lp 0 0), (87, .io .i64 x0), (89, .v (.pointer (some (Addr.mk b1.block (b1.off + Int.toNat 1 * 1) none))))], [(zAO1, 41)]⟩ ?_
    refine At.ldx (b1.add ((1 : Int).toNat * 1)) (.io .i64 x1) (by kernel_rfl) Rws.stable (fun ρ w1 hm' hf => hf.src (.head _) rfl 1 _ rfl) ?_
    refine zT Rws.stable Rws.fewer [2, 3] 1 ⟨.exit .ret, [], [(2, .lp 0 0), (3, .v (.bool true))], [([.v (.int .i64 1), .v (.int .i64 2), .v (.string (ByteArray.mk #[])), .io .i64 x1, .v (.int .i64 0), .io .i64 x0, .v (.int .i64 0), .v (.int .i64 0), .v (.int .i64 0), .v (.int IntKind.u32 0)], 41)]⟩ ?_
    refine zE (.tup [.agg [.v (.int .i64 1), .v (.int .i64 2), .v (.string (ByteArray.mk #[])), .io .i64 x1, .v (.int .i64 0), .io .i64 x0, .v (.int .i64 0), .v (.int .i64 0), .v (.int .i64 0), .v (.int IntKind.u32 0)], .v (.bool true)]) ?_
    have hq : stepP s = some (mk x0 x1) := by simp [stepP, hc, hnp]
    intro ρ w9 hm' hf
    exact ⟨by rw [← hR, hq]; rfl, hm'.below⟩
 | some rst =>
  refine zC Rws.stable 32 [.so (mkB s), .v (.string ⟨#[101, 118, 101, 110, 116]⟩)] (.tup [.so (mkB rst), .v (.bool true)]) (fun _ _ w1 _ _ => (behind_any s [101, 118, 101, 110, 116] hs (by decide) w1).mono fun e w2 h => by rw [hb0] at h; exact h) ?_
  have hc := cut_beh hb0 (by decide)
  have hrl := beh_len hb0
  refine zT Rws.stable Rws.fewer [2, 4, 32] 1 ⟨pops B66 [1, 1, 1, 1, 0, 1, 2, 0] 1, [(sq66 [1, 1, 1, 1, 0, 1, 2, 1]), (sq66 pAO22)], [(2, .lp 0 0), (4, .so (mkB rst)), (32, .so (mkB rst))], [(zAO1, 41)]⟩ ?_
  cases hk : keyR rst with
  | none =>
   refine zC Rws.stable 86 [.so (mkB rst)] (.tup [.v (.string ⟨#[]⟩), .v (.int .i64 0)]) (fun _ _ w1 _ _ => (rkey_any rst (by omega) w1).mono fun e w2 h => by rw [hk] at h; exact h) ?_
   have hkk := key_none hk
   refine zT Rws.stable Rws.fewer [2, 3] 1 ⟨.exit .ret, [], [(2, .lp 0 0), (3, .v (.bool false))], [(zAO1, 41)]⟩ ?_
   refine zE (.tup zAO0) ?_
   have hq : stepP s = none := by simp [stepP, hc, hkk]
   intro ρ w9 hm' hf
   exact ⟨by rw [← hR, hq]; rfl, hm'.below⟩
  | some kn =>
   obtain ⟨k, m⟩ := kn
   refine zC Rws.stable 86 [.so (mkB rst)] (.tup [.so (mkB k), .io .i64 (m : Int)]) (fun _ _ w1 _ _ => (rkey_any rst (by omega) w1).mono fun e w2 h => by rw [hk] at h; exact h) ?_
   obtain ⟨q, hq0, hm0⟩ := (keyR_iff rst k m).1 hk
   have hkk : keyK rst = some (k, q) := (keyK_iff rst k q).2 hq0
   have hm1 : 0 < m := hm0 ▸ quote_pos k
   have hml : rst.length = m + q.length := by rw [hq0, List.length_append, hm0]
   refine zTq Rws.stable Rws.fewer [2, 4, 6, 7, 38] 1 ?_
   rcases zB ((↑m : Int) == 0) with b0 | b0
   ·refine zR 38 b0 ?_
    refine zT Rws.stable Rws.fewer [2, 3] 1 ⟨.exit .ret, [], [(2, .lp 0 0), (3, .v (.bool false))], [(zAO1, 41)]⟩ ?_
    refine zE (.tup zAO0) ?_
    have hq1 : (rst.length : Int) ≤ (m : Int) ∨ m = 0 := by
     first
      | (right; have h9 := b0; simp at h9; omega)
      | (left; have h9 := of_decide_eq_true b1; rw [mkB_size] at h9; omega)
    have hqn : q = [] := List.eq_nil_of_length_eq_zero (by omega)
    subst hqn
    have hq : stepP s = none := by simp [stepP, hc, hkk]
    intro ρ w9 hm' hf
    exact ⟨by rw [← hR, hq]; rfl, hm'.below⟩
   refine zR 38 b0 ?_
   refine zT Rws.stable Rws.fewer [2, 4, 6, 7, 44] 1 ⟨pops B66 pAO14 9, [(sq66 pAO15), (sq66 pAO18), (sq66 pAO22)], [(2, .lp 0 0), (4, .so (mkB rst)), (6, .so (mkB k)), (7, .io .i64 (↑m : Int)), (44, .bo (decide ((↑m : Int) ≥ (↑(mkB rst).size : Int))))], [(zAO1, 41)]⟩ ?_
   rcases zB (decide ((↑m : Int) ≥ (↑(mkB rst).size : Int))) with b1 | b1
   ·refine zR 44 b1 ?_
    refine zT Rws.stable Rws.fewer [2, 3] 1 ⟨.exit .ret, [], [(2, .lp 0 0), (3, .v (.bool false))], [(zAO1, 41)]⟩ ?_
    refine zE (.tup zAO0) ?_
    have hq1 : (rst.length : Int) ≤ (m : Int) ∨ m = 0 := by
     first
      | (right; have h9 := b0; simp at h9; omega)
      | (left; have h9 := of_decide_eq_true b1; rw [mkB_size] at h9; omega)
    have hqn : q = [] := List.eq_nil_of_length_eq_zero (by omega)
    subst hqn
    have hq : stepP s = none := by simp [stepP, hc, hkk]
    intro ρ w9 hm' hf
    exact ⟨by rw [← hR, hq]; rfl, hm'.below⟩
   refine zR 44 b1 ?_
   refine zT Rws.stable Rws.fewer [2, 4, 6, 7, 44, 45, 46] 1 ⟨pops B66 pAO14 11, [(sq66 pAO15), (sq66 pAO18), (sq66 pAO22)], [(2, .lp 0 0), (4, .so (mkB rst)), (6, .so (mkB k)), (7, .io .i64 (↑m : Int)), (44, .v (.bool false)), (45, .so (mkB rst)), (46, .io .i64 (↑m : Int))], [(zAO1, 41)]⟩ ?_
   have hq1 := of_decide_eq_false b1
   rw [mkB_size] at hq1
   obtain ⟨c, q, rfl⟩ : ∃ c q', q = c :: q' := by
    cases q with
    | nil => simp only [List.length_nil] at hml; omega
    | cons c q' => exact ⟨c, q', rfl⟩
   have hcl := c.toNat_lt
   have hat : rst[m]? = some c := by rw [hq0, List.getElem?_append_right (by omega), hm0, Nat.sub_self]; rfl
   refine At.six (mkB rst) (m : Int) c (by kernel_rfl) (by omega) (by rw [Int.toNat_natCast]; exact hat) Rws.stable ?_
   refine zTq Rws.stable Rws.fewer [2, 4, 6, 7, 49] 1 ?_
   rcases zB ((↑c.toNat : Int) != 32) with b0 | b0
   ·refine zR 49 b0 ?_
    refine zT Rws.stable Rws.fewer [2, 3] 1 ⟨.exit .ret, [], [(2, .lp 0 0), (3, .v (.bool false))], [(zAO1, 41)]⟩ ?_
    refine zE (.tup zAO0) ?_
    have hc32 : c ≠ 32 := fun e => by subst e; exact absurd b0 (by decide)
    have hq : stepP s = none := by simp [stepP, hc, hkk, hc32]
    intro ρ w9 hm' hf
    exact ⟨by rw [← hR, hq]; rfl, hm'.below⟩
   refine zR 49 b0 ?_
   refine zT Rws.stable Rws.fewer [2, 6, 52, 54] 1 ⟨pops B66 [1, 1, 1, 1, 0, 1, 2, 1, 1, 0] 3, [(sq66 [1, 1, 1, 1, 0, 1, 2, 1, 1, 1]), (sq66 pAO22)], [(2, .lp 0 0), (6, .so (mkB k)), (52, .so (mkB rst)), (54, .io .i64 (IntKind.i64.wrap ((↑m : Int) + 1)))], [(zAO1, 41)]⟩ ?_
   have hc32 : c = 32 := UInt8.toNat_inj.1 (by simp at b0; show c.toNat = 32; omega)
   subst hc32
   have hw3 : IntKind.i64.wrap ((m : Int) + 1) = ((m + 1 : Nat) : Int) := by
    rw [wrap63 (by omega) (by omega)]
    omega
   rw [hw3]
   refine sslW rst (m + 1) q (by rw [hq0, hm0, List.drop_append, List.drop_eq_nil_of_le (by omega), Nat.add_sub_cancel_left]; rfl) (by kernel_rfl) (by rw [hml, List.length_cons]; omega) Rws.stable ?_
   refine zT Rws.stable Rws.fewer [2, 6, 55] 1 ⟨pops B66 [1, 1, 1, 1, 0, 1, 2, 1, 1, 0] 4, [(sq66 [1, 1, 1, 1, 0, 1, 2, 1, 1, 1]), (sq66 pAO22)], [(2, .lp 0 0), (6, .so (mkB k)), (55, .so (mkB q))], [(zAO1, 41)]⟩ ?_
   cases hnp : numsP q 2 with
   | none =>
    refine zC Rws.stable 34 [.so (mkB q), .v (.int .i64 2)] (.tup [.v (.slice none 0 0), .v (.bool false)]) (fun _ _ w1 hi _ => (rnumbers_any q 2 (by simp only [List.length_cons] at hml; omega) (by decide) w1).mono fun e w2 h => by rw [hnp] at h; exact h) ?_
    refine zT Rws.stable Rws.fewer [2, 3] 1 ⟨.exit .ret, [], [(2, .lp 0 0), (3, .v (.bool false))], [(zAO1, 41)]⟩ ?_
    refine zE (.tup zAO0) ?_
    have hq : stepP s = none := by simp [stepP, hc, hkk, hnp]
    intro ρ w9 hm' hf
    exact ⟨by rw [← hR, hq]; rfl, hm'.below⟩
   | some l1 =>
    obtain ⟨x0, x1, rfl⟩ := nums_two hnp
    refine At.rowCall (e := 2) (size := 1) 34 [.so (mkB q), .v (.int .i64 2)] (iw [x0, x1]) (fun A' n' c' => .tup [.sl A' n' c', .v (.bool true)]) (by kernel_rfl) (by kernel_rfl) (by kernel_rfl) rfl (fun ρ w1 hm hf => (rnumbers_any q 2 (by simp only [List.length_cons] at hml; omega) (by decide) w1).mono fun e w2 h => by rw [hnp] at h; obtain ⟨A', c', h1, h2⟩ := h; exact ⟨A', 2, c', h1, h2⟩) (fun A1 n1 c1 hl1 => ?_)
    obtain rfl : n1 = 2 := by simpa [iw] using hl1.symm
    clear hl1
    refine At.know (p := ∃ b, A1 = some b) (fun ρ w1 h => h.some (.head _) (show 0 < 2 by decide)) fun ⟨b1, hb1⟩ => ?_
    subst hb1
    refine zT Rws.stable Rws.fewer [2, 8, 62, 63] 1 ⟨.qops (opsOf (sub B66 pAO11)) (((opsOf (sub B66 pAO11)).toList.take 9).drop 2), [.tail (opsOf (sub B66 pAO11)) ((opsOf (sub B66 pAO11)).toList.drop 9), (sq66 pAO21), (sq66 pAO22)], [(2, .lp 0 0), (8, .sl (some b1) 2 c1), (62, .so (mkB k)), (63, .sl (some b1) 2 c1)], [(zAO1, 41)]⟩ ?_
    refine At.idx b1 2 1 0 (by kernel_rfl) (by omega) (by omega) Rws.stable ?_
    refine zT Rws.stable Rws.fewer [2, 8, 62, 64] 1 ⟨.qops (opsOf (sub B66 pAO11)) (((opsOf (sub B66 pAO11)).toList.take 9).drop 3), [.tail (opsOf (sub B66 pAO11)) ((opsOf (sub B66 pAO11)).toList.drop 9), (sq66 pAO21), (sq66 pAO22)], [(2, .lp 0 0), (8, .sl (some b1) 2 c1), (62, .so (mkB k)), (64, .v (.pointer (some (b1.add (Int.toNat 0 * 1)))))], [(zAO1, 41)]⟩ ?_
    refine At.ldx (b1.add ((0 : Int).toNat * 1)) (.io .i64 x0) (by kernel_rfl) Rws.stable (fun ρ w1 hm' hf => hf.src (.head _) rfl 0 _ rfl) ?_
    refine zT Rws.stable Rws.fewer [2, 62, 65, 66] 1 ⟨.qops (opsOf (sub B66 pAO11)) (((opsOf (sub B66 pAO11)).toList.take 9).drop 5), [.tail (opsOf (sub B66 pAO11)) ((opsOf (sub B66 pAO11)).toList.drop 9), (sq66 pAO21), (sq66 pAO22)], [(2, .lp 0 0), (62, .so (mkB k)), (65, .io .i64 x0), (66, .sl (some b1) 2 c1)], [(zAO1, 41)]⟩ ?_
    refine At.idx b1 2 1 1 (by kernel_rfl) (by omega) (by omega) Rws.stable ?_
    refine zT Rws.stable Rws.fewer [2, 62, 65, 67] 1 ⟨.qops (opsOf (sub B66 pAO11)) (((opsOf (sub B66 pAO11)).toList.take 9).drop 6), [.tail (opsOf (sub B66 pAO11)) ((opsOf (sub B66 pAO11)).toList.drop 9), (sq66 pAO21), (sq66 pAO22)], [(2, .lp 0 0), (62, .so (mkB k)), (65, .io .i64 x0), (67, .v (.pointer (some (Addr.mk b1.block (b1.off + Int.toNat 1 * 1) none))))], [(zAO1, 41)]⟩ ?_
    refine At.ldx (b1.add ((1 : Int).toNat * 1)) (.io .i64 x1) (by kernel_rfl) Rws.stable (fun ρ w1 hm' hf => hf.src (.head _) rfl 1 _ rfl) ?_
    refine zT Rws.stable Rws.fewer [2, 3] 1 ⟨.exit .ret, [], [(2, .lp 0 0), (3, .v (.bool true))], [([.v (.int .i64 1), .v (.int .i64 1), .so (mkB k), .io .i64 x0, .io .i64 x1, .v (.int .i64 0), .v (.int .i64 0), .v (.int .i64 0), .v (.int .i64 0), .v (.int IntKind.u32 0)], 41)]⟩ ?_
    refine zE (.tup [.agg [.v (.int .i64 1), .v (.int .i64 1), .so (mkB k), .io .i64 x0, .io .i64 x1, .v (.int .i64 0), .v (.int .i64 0), .v (.int .i64 0), .v (.int .i64 0), .v (.int IntKind.u32 0)], .v (.bool true)]) ?_
    have hq : stepP s = some (ev k x0 x1) := by simp [stepP, hc, hkk, hnp]
    intro ρ w9 hm' hf
    exact ⟨by rw [← hR, hq]; rfl, hm'.below⟩
end Go.Proofs.YthfpekhpeiebjaaGreatDoor
end
section
namespace Go.Proofs.YthfpekhpeiebjaaGreatDoor
open Go.RowKit Go.Sx
theorem bool_of {a : Bool} {p : Prop} [Decidable p] (h : a = true ↔ p) : a = decide p := by
 cases a
 ·exact (decide_eq_false (fun hp => by have := h.2 hp; cases this)).symm
 exact (decide_eq_true (h.1 rfl)).symm
section
variable {P : Program} {Q : Exit → Act → World → Prop} {N : Nat} {w0 : World} {ntm : Nat} {F : List Nat → World → Prop} [Md]
theorem At.bix2 {s : S} (op : BinOp) (k : IntKind) (a b m : Int) (hq : bixQ Tryz.prog ntm s = some (op, k, a, k, b)) (hm : binInt2 op k a b = some (.int k m)) (hF : Stable F)
  (h : At Tryz.prog Q N w0 ntm F (s.tail ntm (.io k m))) : At Tryz.prog Q N w0 ntm F s := by
 unfold bixQ at hq
 split at hq
 ·rename_i o ho hd
  split at hq
  ·rename_i op' t x y t2 hop
   split at hq
   ·rename_i sx sy hx hy
    split at hq
    ·rename_i k' a' l1 k2 b' l2 h1 h2 hcalm
     simp only [Option.some.injEq, Prod.mk.injEq] at hq
     obtain ⟨rfl, rfl, rfl, rfl, rfl⟩ := hq
     refine At.op hF o (.io k2 m) ho hd (fun ρ act w hi _ => ?_) h
     obtain ⟨dst, opp, ty, pos, after, guard⟩ := o
     simp only at hop
     subst hop
     have hr := run_binInt2 (P := Tryz.prog) hm t w
     have hg := run_eqGuard_calm (P := Tryz.prog) (ρ := ρ) hcalm op' t x y (sy.den ρ) w
     rw [litOf_den h1, litOf_den h2] at hg
     simp [execOp, evalS_sound hi.act hx, evalS_sound hi.act hy, litOf_den h1, litOf_den h2, SV.den, hg, hr]
    cases hq
   cases hq
  cases hq
 cases hq
end
def jobK (g s k sz sl of gp lt ea : Int) : Prop := (1 ≤ g ∧ g ≤ 32768) ∧ (1 ≤ s ∧ s ≤ 64) ∧ (0 ≤ lt ∧ lt ≤ 1099511627776) ∧ (0 ≤ ea ∧ ea ≤ 2147483647) ∧
 ((k = 1 ∧ 1 ≤ sz ∧ sz ≤ 1099511627776 ∧ 0 ≤ of ∧ of < sz ∧ sl = 0 ∧ gp = 0) ∨ (k = 2 ∧ 1 ≤ sz ∧ sz ≤ 1099511627776 ∧ 1 ≤ sl ∧ sl ≤ sz ∧ IntKind.i64.wrap ((IntKind.i64.wrap (IntKind.i64.wrap (sz + sl) - 1)).tdiv sl) ≤ 64 ∧ 0 ≤ of ∧ of < sl ∧ gp = 0) ∨
  (k = 3 ∧ 1 ≤ gp ∧ gp ≤ 1099511627776 ∧ sz = 0 ∧ sl = 0 ∧ of = 0))
instance (g s k sz sl of gp lt ea : Int) : Decidable (jobK g s k sz sl of gp lt ea) := by unfold jobK; infer_instance
noncomputable def B44 : Code := (Tryz.f44.body).getD .skip
noncomputable def sq44 (p : List Nat) : Go.Sx.K := .seq (sub B44 p)
set_option maxHeartbeats 8000000 in
set_option maxRecDepth 100000 in
theorem rjob_any (g s k sz sl of gp lt ea : Int) (d : Bool) (w : World) :
  Calls Tryz.prog 44 #[.agg #[.int .i64 g, .int .i64 s, .int .i64 k, .int .i64 sz, .int .i64 sl, .int .i64 of, .int .i64 gp, .int .i64 lt, .int .i64 ea, .bool d]] w fun e w' => e = .returned (.bool (decide (jobK g s k sz sl of gp lt ea))) ∧ Below w.heap.size w w' := by
 refine enter (fn := Tryz.f44) (c := B44) [.agg (cfAO g s k sz sl of gp lt ea d)] Tryz.func44 rfl rfl ?_
 refine zN [1, 6] 1 ⟨pops B44 [1, 0, 0] 4, [(sq44 [1, 0, 1]), (sq44 [1, 1])], [(1, .lp 0 0), (6, .bo (decide (g < 1)))], [((cfAO g s k sz sl of gp lt ea d), 25)]⟩ ?_
 rcases zB (decide (g < 1)) with b0 | b0
 ·refine zR 6 b0 ?_
  refine zN [2] 0 ⟨.exit .ret, [], [(2, .v (.bool false))], []⟩ ?_
  refine zE (.v (.bool false)) ?_
  intro ρ w9 hm' hf
  refine ⟨congrArg (fun b => Ending.returned (Value.bool b)) ?_, hm'.below⟩
  exact bool_of (by
   simp only [decide_eq_true_eq, decide_eq_false_iff_not, beq_iff_eq, beq_eq_false_iff_ne, Bool.false_eq_true, true_iff, false_iff, gt_iff_lt, ge_iff_le] at *
   unfold jobK
   omega)
 refine zR 6 b0 ?_
 refine zN [1, 11] 1 ⟨pops B44 [1, 0, 0] 9, [(sq44 [1, 0, 1]), (sq44 [1, 1])], [(1, .lp 0 0), (11, .bo (decide (g > 32768)))], [((cfAO g s k sz sl of gp lt ea d), 25)]⟩ ?_
 rcases zB (decide (g > 32768)) with b1 | b1
 ·refine zR 11 b1 ?_
  refine zN [2] 0 ⟨.exit .ret, [], [(2, .v (.bool false))], []⟩ ?_
  refine zE (.v (.bool false)) ?_
  intro ρ w9 hm' hf
  refine ⟨congrArg (fun b => Ending.returned (Value.bool b)) ?_, hm'.below⟩
  exact bool_of (by
   simp only [decide_eq_true_eq, decide_eq_false_iff_not, beq_iff_eq, beq_eq_false_iff_ne, Bool.false_eq_true, true_iff, false_iff, gt_iff_lt, ge_iff_le] at *
   unfold jobK
   omega)
 refine zR 11 b1 ?_
 refine zN [1, 16] 1 ⟨pops B44 [1, 0, 0] 14, [(sq44 [1, 0, 1]), (sq44 [1, 1])], [(1, .lp 0 0), (16, .bo (decide (s < 1)))], [((cfAO g s k sz sl of gp lt ea d), 25)]⟩ ?_
 rcases zB (decide (s < 1)) with b2 | b2
 ·refine zR 16 b2 ?_
  refine zN [2] 0 ⟨.exit .ret, [], [(2, .v (.bool false))], []⟩ ?_
  refine zE (.v (.bool false)) ?_
  intro ρ w9 hm' hf
  refine ⟨congrArg (fun b => Ending.returned (Value.bool b)) ?_, hm'.below⟩
  exact bool_of (by
   simp only [decide_eq_true_eq, decide_eq_false_iff_not, beq_iff_eq, beq_eq_false_iff_ne, Bool.false_eq_true, true_iff, false_iff, gt_iff_lt, ge_iff_le] at *
   unfold jobK
   omega)
 refine zR 16 b2 ?_
 refine zN [1, 21] 1 ⟨pops B44 [1, 0, 0] 19, [(sq44 [1, 0, 1]), (sq44 [1, 1])], [(1, .lp 0 0), (21, .bo (decide (s > 64)))], [((cfAO g s k sz sl of gp lt ea d), 25)]⟩ ?_
 rcases zB (decide (s > 64)) with b3 | b3
 ·refine zR 21 b3 ?_
  refine zN [2] 0 ⟨.exit .ret, [], [(2, .v (.bool false))], []⟩ ?_
  refine zE (.v (.bool false)) ?_
  intro ρ w9 hm' hf
  refine ⟨congrArg (fun b => Ending.returned (Value.bool b)) ?_, hm'.below⟩
  exact bool_of (by
   simp only [decide_eq_true_eq, decide_eq_false_iff_not, beq_iff_eq, beq_eq_false_iff_ne, Bool.false_eq_true, true_iff, false_iff, gt_iff_lt, ge_iff_le] at *
   unfold jobK
   omega)
 refine zR 21 b3 ?_
 refine zN [1, 26] 1 ⟨pops B44 [1, 0, 0] 24, [(sq44 [1, 0, 1]), (sq44 [1, 1])], [(1, .lp 0 0), (26, .bo (decide (lt < 0)))], [((cfAO g s k sz sl of gp lt ea d), 25)]⟩ ?_
 rcases zB (decide (lt < 0)) with b4 | b4
 ·refine zR 26 b4 ?_
  refine zN [2] 0 ⟨.exit .ret, [], [(2, .v (.bool false))], []⟩ ?_
  refine zE (.v (.bool false)) ?_
  intro ρ w9 hm' hf
  refine ⟨congrArg (fun b => Ending.returned (Value.bool b)) ?_, hm'.below⟩
  exact bool_of (by
   simp only [decide_eq_true_eq, decide_eq_false_iff_not, beq_iff_eq, beq_eq_false_iff_ne, Bool.false_eq_true, true_iff, false_iff, gt_iff_lt, ge_iff_le] at *
   unfold jobK
   omega)
 refine zR 26 b4 ?_
 refine zN [1, 31] 1 ⟨pops B44 [1, 0, 0] 29, [(sq44 [1, 0, 1]), (sq44 [1, 1])], [(1, .lp 0 0), (31, .bo (decide (lt > 1099511627776)))], [((cfAO g s k sz sl of gp lt ea d), 25)]⟩ ?_
 rcases zB (decide (lt > 1099511627776)) with b5 | b5
 ·refine zR 31 b5 ?_
  refine zN [2] 0 ⟨.exit .ret, [], [(2, .v (.bool false))], []⟩ ?_
  refine zE (.v (.bool false)) ?_
  intro ρ w9 hm' hf
  refine ⟨congrArg (fun b => Ending.returned (Value.bool b)) ?_, hm'.below⟩
  exact bool_of (by
   simp only [decide_eq_true_eq, decide_eq_false_iff_not, beq_iff_eq, beq_eq_false_iff_ne, Bool.false_eq_true, true_iff, false_iff, gt_iff_lt, ge_iff_le] at *
   unfold jobK
   omega)
 refine zR 31 b5 ?_
 refine zN [1, 36] 1 ⟨pops B44 [1, 0, 0] 34, [(sq44 [1, 0, 1]), (sq44 [1, 1])], [(1, .lp 0 0), (36, .bo (decide (ea < 0)))], [((cfAO g s k sz sl of gp lt ea d), 25)]⟩ ?_
 rcases zB (decide (ea < 0)) with b6 | b6
 ·refine zR 36 b6 ?_
  refine zN [2] 0 ⟨.exit .ret, [], [(2, .v (.bool false))], []⟩ ?_
  refine zE (.v (.bool false)) ?_
  intro ρ w9 hm' hf
  refine ⟨congrArg (fun b => Ending.returned (Value.bool b)) ?_, hm'.below⟩
  exact bool_of (by
   simp only [decide_eq_true_eq, decide_eq_false_iff_not, beq_iff_eq, beq_eq_false_iff_ne, Bool.false_eq_true, true_iff, false_iff, gt_iff_lt, ge_iff_le] at *
   unfold jobK
   omega)
 refine zR 36 b6 ?_
 refine zN [1, 40] 1 ⟨.code (sub B44 [1, 0, 1]), [(sq44 [1, 1])], [(1, .lp 0 0), (40, .bo (decide (ea > 2147483647)))], [((cfAO g s k sz sl of gp lt ea d), 25)]⟩ ?_
 rcases zB (decide (ea > 2147483647)) with b7 | b7
 ·refine zR 40 b7 ?_
  refine zN [2] 0 ⟨.exit .ret, [], [(2, .v (.bool false))], []⟩ ?_
  refine zE (.v (.bool false)) ?_
  intro ρ w9 hm' hf
  refine ⟨congrArg (fun b => Ending.returned (Value.bool b)) ?_, hm'.below⟩
  exact bool_of (by
   simp only [decide_eq_true_eq, decide_eq_false_iff_not, beq_iff_eq, beq_eq_false_iff_ne, Bool.false_eq_true, true_iff, false_iff, gt_iff_lt, ge_iff_le] at *
   unfold jobK
   omega)
 refine zR 40 b7 ?_
 refine zN [1, 42, 43] 1 ⟨.code (sub B44 [1, 1, 0, 1, 4, 1]), [.block 0, (sq44 pAO23)], [(1, .lp 0 0), (42, .io .i64 k), (43, .bo (k == 1))], [((cfAO g s k sz sl of gp lt ea d), 25)]⟩ ?_
 rcases zB (k == 1) with b8 | b8
 ·refine zR 43 b8 ?_
  refine zN [1, 48] 1 ⟨pops B44 pAO19 4, [(sq44 pAO21), .block 0, (sq44 pAO23)], [(1, .lp 0 0), (48, .bo (decide (sz ≥ 1)))], [((cfAO g s k sz sl of gp lt ea d), 25)]⟩ ?_
  rcases zB (decide (sz ≥ 1)) with b9 | b9
  ·refine zR 48 b9 ?_
   refine zN [1, 53] 1 ⟨pops B44 pAO19 9, [(sq44 pAO21), .block 0, (sq44 pAO23)], [(1, .lp 0 0), (53, .bo (decide (sz ≤ 1099511627776)))], [((cfAO g s k sz sl of gp lt ea d), 25)]⟩ ?_
   rcases zB (decide (sz ≤ 1099511627776)) with b10 | b10
   ·refine zR 53 b10 ?_
    refine zN [1, 58] 1 ⟨pops B44 pAO19 14, [(sq44 pAO21), .block 0, (sq44 pAO23)], [(1, .lp 0 0), (58, .bo (decide (of ≥ 0)))], [((cfAO g s k sz sl of gp lt ea d), 25)]⟩ ?_
    rcases zB (decide (of ≥ 0)) with b11 | b11
    ·refine zR 58 b11 ?_
     refine zN [1, 65] 1 ⟨pops B44 pAO19 21, [(sq44 pAO21), .block 0, (sq44 pAO23)], [(1, .lp 0 0), (65, .bo (decide (of < sz)))], [((cfAO g s k sz sl of gp lt ea d), 25)]⟩ ?_
     rcases zB (decide (of < sz)) with b12 | b12
     ·refine zR 65 b12 ?_
      refine zN [1, 70] 1 ⟨pops B44 pAO19 26, [(sq44 pAO21), .block 0, (sq44 pAO23)], [(1, .lp 0 0), (70, .bo (sl == 0))], [((cfAO g s k sz sl of gp lt ea d), 25)]⟩ ?_
      rcases zB (sl == 0) with b13 | b13
      ·refine zR 70 b13 ?_
       refine zN [2] 0 ⟨.exit .ret, [], [(2, .bo (gp == 0))], []⟩ ?_
       refine zE (.bo (gp == 0)) ?_
       intro ρ w9 hm' hf
       refine ⟨congrArg (fun b => Ending.returned (Value.bool b)) ?_, hm'.below⟩
       exact bool_of (by
        simp only [decide_eq_true_eq, decide_eq_false_iff_not, beq_iff_eq, beq_eq_false_iff_ne, Bool.false_eq_true, true_iff, false_iff, gt_iff_lt, ge_iff_le] at *
        unfold jobK
        omega)
      refine zR 70 b13 ?_
      refine zN [2] 0 ⟨.exit .ret, [], [(2, .v (.bool false))], []⟩ ?_
      refine zE (.v (.bool false)) ?_
      intro ρ w9 hm' hf
      refine ⟨congrArg (fun b => Ending.returned (Value.bool b)) ?_, hm'.below⟩
      exact bool_of (by
       simp only [decide_eq_true_eq, decide_eq_false_iff_not, beq_iff_eq, beq_eq_false_iff_ne, Bool.false_eq_true, true_iff, false_iff, gt_iff_lt, ge_iff_le] at *
       unfold jobK
       omega)
     refine zR 65 b12 ?_
     refine zN [2] 0 ⟨.exit .ret, [], [(2, .v (.bool false))], []⟩ ?_
     refine zE (.v (.bool false)) ?_
     intro ρ w9 hm' hf
     refine ⟨congrArg (fun b => Ending.returned (Value.bool b)) ?_, hm'.below⟩
     exact bool_of (by
      simp only [decide_eq_true_eq, decide_eq_false_iff_not, beq_iff_eq, beq_eq_false_iff_ne, Bool.false_eq_true, true_iff, false_iff, gt_iff_lt, ge_iff_le] at *
      unfold jobK
      omega)
    refine zR 58 b11 ?_
    refine zN [2] 0 ⟨.exit .ret, [], [(2, .v (.bool false))], []⟩ ?_
    refine zE (.v (.bool false)) ?_
    intro ρ w9 hm' hf
    refine ⟨congrArg (fun b => Ending.returned (Value.bool b)) ?_, hm'.below⟩
    exact bool_of (by
     simp only [decide_eq_true_eq, decide_eq_false_iff_not, beq_iff_eq, beq_eq_false_iff_ne, Bool.false_eq_true, true_iff, false_iff, gt_iff_lt, ge_iff_le] at *
     unfold jobK
     omega)
   refine zR 53 b10 ?_
   refine zN [2] 0 ⟨.exit .ret, [], [(2, .v (.bool false))], []⟩ ?_
   refine zE (.v (.bool false)) ?_
   intro ρ w9 hm' hf
   refine ⟨congrArg (fun b => Ending.returned (Value.bool b)) ?_, hm'.below⟩
   exact bool_of (by
    simp only [decide_eq_true_eq, decide_eq_false_iff_not, beq_iff_eq, beq_eq_false_iff_ne, Bool.false_eq_true, true_iff, false_iff, gt_iff_lt, ge_iff_le] at *
    unfold jobK
    omega)
  refine zR 48 b9 ?_
  refine zN [2] 0 ⟨.exit .ret, [], [(2, .v (.bool false))], []⟩ ?_
  refine zE (.v (.bool false)) ?_
  intro ρ w9 hm' hf
  refine ⟨congrArg (fun b => Ending.returned (Value.bool b)) ?_, hm'.below⟩
  exact bool_of (by
   simp only [decide_eq_true_eq, decide_eq_false_iff_not, beq_iff_eq, beq_eq_false_iff_ne, Bool.false_eq_true, true_iff, false_iff, gt_iff_lt, ge_iff_le] at *
   unfold jobK
   omega)
 refine zR 43 b8 ?_
 refine zN [1, 42, 75] 1 ⟨.code (sub B44 [1, 1, 0, 1, 4, 1, 3, 1]), [.block 0, (sq44 pAO23)], [(1, .lp 0 0), (42, .io .i64 k), (75, .bo (k == 2))], [((cfAO g s k sz sl of gp lt ea d), 25)]⟩ ?_
 rcases zB (k == 2) with b14 | b14
 ·refine zR 75 b14 ?_
  refine zN [1, 80] 1 ⟨pops B44 pAO16 4, [(sq44 pAO21), .block 0, (sq44 pAO23)], [(1, .lp 0 0), (80, .bo (decide (sz ≥ 1)))], [((cfAO g s k sz sl of gp lt ea d), 25)]⟩ ?_
  rcases zB (decide (sz ≥ 1)) with b15 | b15
  ·refine zR 80 b15 ?_
   refine zN [1, 85] 1 ⟨pops B44 pAO16 9, [(sq44 pAO21), .block 0, (sq44 pAO23)], [(1, .lp 0 0), (85, .bo (decide (sz ≤ 1099511627776)))], [((cfAO g s k sz sl of gp lt ea d), 25)]⟩ ?_
   rcases zB (decide (sz ≤ 1099511627776)) with b16 | b16
   ·refine zR 85 b16 ?_
    refine zN [1, 90] 1 ⟨pops B44 pAO16 14, [(sq44 pAO21), .block 0, (sq44 pAO23)], [(1, .lp 0 0), (90, .bo (decide (sl ≥ 1)))], [((cfAO g s k sz sl of gp lt ea d), 25)]⟩ ?_
    rcases zB (decide (sl ≥ 1)) with b17 | b17
    ·refine zR 90 b17 ?_
     refine zN [1, 97] 1 ⟨pops B44 pAO16 21, [(sq44 pAO21), .block 0, (sq44 pAO23)], [(1, .lp 0 0), (97, .bo (decide (sl ≤ sz)))], [((cfAO g s k sz sl of gp lt ea d), 25)]⟩ ?_
     rcases zB (decide (sl ≤ sz)) with b18 | b18
     ·refine zR 97 b18 ?_
      refine zN [1, 97, 103, 105] 1 ⟨pops B44 pAO16 29, [(sq44 pAO21), .block 0, (sq44 pAO23)], [(1, .lp 0 0), (97, .v (.bool true)), (103, .io .i64 (IntKind.i64.wrap (IntKind.i64.wrap (sz + sl) - 1))), (105, .io .i64 sl)], [((cfAO g s k sz sl of gp lt ea d), 25)]⟩ ?_
      have hsl : sl ≠ 0 := by
       simp only [decide_eq_true_eq, ge_iff_le] at *
       omega
      refine At.bix2 .quo .i64 (IntKind.i64.wrap (IntKind.i64.wrap (sz + sl) - 1)) sl (IntKind.i64.wrap ((IntKind.i64.wrap (IntKind.i64.wrap (sz + sl) - 1)).tdiv sl)) (by kernel_rfl) (by simp [binInt2, hsl]) noF_stable ?_
      refine zN [1, 109] 1 ⟨pops B44 pAO16 33, [(sq44 pAO21), .block 0, (sq44 pAO23)], [(1, .lp 0 0), (109, .bo (decide (IntKind.i64.wrap ((IntKind.i64.wrap (IntKind.i64.wrap (sz + sl) - 1)).tdiv sl) ≤ 64)))], [((cfAO g s k sz sl of gp lt ea d), 25)]⟩ ?_
      rcases zB (decide (IntKind.i64.wrap ((IntKind.i64.wrap (IntKind.i64.wrap (sz + sl) - 1)).tdiv sl) ≤ 64)) with b0 | b0
      ·refine zR 109 b0 ?_
       refine zN [1, 114] 1 ⟨pops B44 pAO16 38, [(sq44 pAO21), .block 0, (sq44 pAO23)], [(1, .lp 0 0), (114, .bo (decide (of ≥ 0)))], [((cfAO g s k sz sl of gp lt ea d), 25)]⟩ ?_
       rcases zB (decide (of ≥ 0)) with b1 | b1
       ·refine zR 114 b1 ?_
        refine zN [1, 121] 1 ⟨pops B44 pAO16 45, [(sq44 pAO21), .block 0, (sq44 pAO23)], [(1, .lp 0 0), (121, .bo (decide (of < sl)))], [((cfAO g s k sz sl of gp lt ea d), 25)]⟩ ?_
        rcases zB (decide (of < sl)) with b2 | b2
        ·refine zR 121 b2 ?_
         refine zN [2] 0 ⟨.exit .ret, [], [(2, .bo (gp == 0))], []⟩ ?_
         refine zE (.bo (gp == 0)) ?_
         intro ρ w9 hm' hf
         refine ⟨congrArg (fun b => Ending.returned (Value.bool b)) ?_, hm'.below⟩
         exact bool_of (by
          simp only [decide_eq_true_eq, decide_eq_false_iff_not, beq_iff_eq, beq_eq_false_iff_ne, Bool.false_eq_true, true_iff, false_iff, gt_iff_lt, ge_iff_le] at *
          unfold jobK
          omega)
        refine zR 121 b2 ?_
        refine zN [2] 0 ⟨.exit .ret, [], [(2, .v (.bool false))], []⟩ ?_
        refine zE (.v (.bool false)) ?_
        intro ρ w9 hm' hf
        refine ⟨congrArg (fun b => Ending.returned (Value.bool b)) ?_, hm'.below⟩
        exact bool_of (by
         simp only [decide_eq_true_eq, decide_eq_false_iff_not, beq_iff_eq, beq_eq_false_iff_ne, Bool.false_eq_true, true_iff, false_iff, gt_iff_lt, ge_iff_le] at *
         unfold jobK
         omega)
       refine zR 114 b1 ?_
       refine zN [2] 0 ⟨.exit .ret, [], [(2, .v (.bool false))], []⟩ ?_
       refine zE (.v (.bool false)) ?_
       intro ρ w9 hm' hf
       refine ⟨congrArg (fun b => Ending.returned (Value.bool b)) ?_, hm'.below⟩
       exact bool_of (by
        simp only [decide_eq_true_eq, decide_eq_false_iff_not, beq_iff_eq, beq_eq_false_iff_ne, Bool.false_eq_true, true_iff, false_iff, gt_iff_lt, ge_iff_le] at *
        unfold jobK
        omega)
      refine zR 109 b0 ?_
      refine zN [2] 0 ⟨.exit .ret, [], [(2, .v (.bool false))], []⟩ ?_
      refine zE (.v (.bool false)) ?_
      intro ρ w9 hm' hf
      refine ⟨congrArg (fun b => Ending.returned (Value.bool b)) ?_, hm'.below⟩
      exact bool_of (by
       simp only [decide_eq_true_eq, decide_eq_false_iff_not, beq_iff_eq, beq_eq_false_iff_ne, Bool.false_eq_true, true_iff, false_iff, gt_iff_lt, ge_iff_le] at *
       unfold jobK
       omega)
     refine zR 97 b18 ?_
     refine zN [2] 0 ⟨.exit .ret, [], [(2, .v (.bool false))], []⟩ ?_
     refine zE (.v (.bool false)) ?_
     intro ρ w9 hm' hf
     refine ⟨congrArg (fun b => Ending.returned (Value.bool b)) ?_, hm'.below⟩
     exact bool_of (by
      simp only [decide_eq_true_eq, decide_eq_false_iff_not, beq_iff_eq, beq_eq_false_iff_ne, Bool.false_eq_true, true_iff, false_iff, gt_iff_lt, ge_iff_le] at *
      unfold jobK
      omega)
    refine zR 90 b17 ?_
    refine zN [2] 0 ⟨.exit .ret, [], [(2, .v (.bool false))], []⟩ ?_
    refine zE (.v (.bool false)) ?_
    intro ρ w9 hm' hf
    refine ⟨congrArg (fun b => Ending.returned (Value.bool b)) ?_, hm'.below⟩
    exact bool_of (by
     simp only [decide_eq_true_eq, decide_eq_false_iff_not, beq_iff_eq, beq_eq_false_iff_ne, Bool.false_eq_true, true_iff, false_iff, gt_iff_lt, ge_iff_le] at *
     unfold jobK
     omega)
   refine zR 85 b16 ?_
   refine zN [2] 0 ⟨.exit .ret, [], [(2, .v (.bool false))], []⟩ ?_
   refine zE (.v (.bool false)) ?_
   intro ρ w9 hm' hf
   refine ⟨congrArg (fun b => Ending.returned (Value.bool b)) ?_, hm'.below⟩
   exact bool_of (by
    simp only [decide_eq_true_eq, decide_eq_false_iff_not, beq_iff_eq, beq_eq_false_iff_ne, Bool.false_eq_true, true_iff, false_iff, gt_iff_lt, ge_iff_le] at *
    unfold jobK
    omega)
  refine zR 80 b15 ?_
  refine zN [2] 0 ⟨.exit .ret, [], [(2, .v (.bool false))], []⟩ ?_
  refine zE (.v (.bool false)) ?_
  intro ρ w9 hm' hf
  refine ⟨congrArg (fun b => Ending.returned (Value.bool b)) ?_, hm'.below⟩
  exact bool_of (by
   simp only [decide_eq_true_eq, decide_eq_false_iff_not, beq_iff_eq, beq_eq_false_iff_ne, Bool.false_eq_true, true_iff, false_iff, gt_iff_lt, ge_iff_le] at *
   unfold jobK
   omega)
 refine zR 75 b14 ?_
 refine zN [1, 126] 1 ⟨.code (sub B44 [1, 1, 0, 1, 4, 1, 3, 1, 3, 1]), [.block 0, (sq44 pAO23)], [(1, .lp 0 0), (126, .bo (k == 3))], [((cfAO g s k sz sl of gp lt ea d), 25)]⟩ ?_
 rcases zB (k == 3) with b19 | b19
 ·refine zR 126 b19 ?_
  refine zN [1, 131] 1 ⟨pops B44 pAO12 4, [(sq44 pAO21), .block 0, (sq44 pAO23)], [(1, .lp 0 0), (131, .bo (decide (gp ≥ 1)))], [((cfAO g s k sz sl of gp lt ea d), 25)]⟩ ?_
  rcases zB (decide (gp ≥ 1)) with b20 | b20
  ·refine zR 131 b20 ?_
   refine zN [1, 136] 1 ⟨pops B44 pAO12 9, [(sq44 pAO21), .block 0, (sq44 pAO23)], [(1, .lp 0 0), (136, .bo (decide (gp ≤ 1099511627776)))], [((cfAO g s k sz sl of gp lt ea d), 25)]⟩ ?_
   rcases zB (decide (gp ≤ 1099511627776)) with b21 | b21
   ·refine zR 136 b21 ?_
    refine zN [1, 141] 1 ⟨pops B44 pAO12 14, [(sq44 pAO21), .block 0, (sq44 pAO23)], [(1, .lp 0 0), (141, .bo (sz == 0))], [((cfAO g s k sz sl of gp lt ea d), 25)]⟩ ?_
    rcases zB (sz == 0) with b22 | b22
    ·refine zR 141 b22 ?_
     refine zN [1, 146] 1 ⟨pops B44 pAO12 19, [(sq44 pAO21), .block 0, (sq44 pAO23)], [(1, .lp 0 0), (146, .bo (sl == 0))], [((cfAO g s k sz sl of gp lt ea d), 25)]⟩ ?_
     rcases zB (sl == 0) with b23 | b23
     ·refine zR 146 b23 ?_
      refine zN [2] 0 ⟨.exit .ret, [], [(2, .bo (of == 0))], []⟩ ?_
      refine zE (.bo (of == 0)) ?_
      intro ρ w9 hm' hf
      refine ⟨congrArg (fun b => Ending.returned (Value.bool b)) ?_, hm'.below⟩
      exact bool_of (by
       simp only [decide_eq_true_eq, decide_eq_false_iff_not, beq_iff_eq, beq_eq_false_iff_ne, Bool.false_eq_true, true_iff, false_iff, gt_iff_lt, ge_iff_le] at *
       unfold jobK
       omega)
     refine zR 146 b23 ?_
     refine zN [2] 0 ⟨.exit .ret, [], [(2, .v (.bool false))], []⟩ ?_
     refine zE (.v (.bool false)) ?_
     intro ρ w9 hm' hf
     refine ⟨congrArg (fun b => Ending.returned (Value.bool b)) ?_, hm'.below⟩
     exact bool_of (by
      simp only [decide_eq_true_eq, decide_eq_false_iff_not, beq_iff_eq, beq_eq_false_iff_ne, Bool.false_eq_true, true_iff, false_iff, gt_iff_lt, ge_iff_le] at *
      unfold jobK
      omega)
    refine zR 141 b22 ?_
    refine zN [2] 0 ⟨.exit .ret, [], [(2, .v (.bool false))], []⟩ ?_
    refine zE (.v (.bool false)) ?_
    intro ρ w9 hm' hf
    refine ⟨congrArg (fun b => Ending.returned (Value.bool b)) ?_, hm'.below⟩
    exact bool_of (by
     simp only [decide_eq_true_eq, decide_eq_false_iff_not, beq_iff_eq, beq_eq_false_iff_ne, Bool.false_eq_true, true_iff, false_iff, gt_iff_lt, ge_iff_le] at *
     unfold jobK
     omega)
   refine zR 136 b21 ?_
   refine zN [2] 0 ⟨.exit .ret, [], [(2, .v (.bool false))], []⟩ ?_
   refine zE (.v (.bool false)) ?_
   intro ρ w9 hm' hf
   refine ⟨congrArg (fun b => Ending.returned (Value.bool b)) ?_, hm'.below⟩
   exact bool_of (by
    simp only [decide_eq_true_eq, decide_eq_false_iff_not, beq_iff_eq, beq_eq_false_iff_ne, Bool.false_eq_true, true_iff, false_iff, gt_iff_lt, ge_iff_le] at *
    unfold jobK
    omega)
  refine zR 131 b20 ?_
  refine zN [2] 0 ⟨.exit .ret, [], [(2, .v (.bool false))], []⟩ ?_
  refine zE (.v (.bool false)) ?_
  intro ρ w9 hm' hf
  refine ⟨congrArg (fun b => Ending.returned (Value.bool b)) ?_, hm'.below⟩
  exact bool_of (by
   simp only [decide_eq_true_eq, decide_eq_false_iff_not, beq_iff_eq, beq_eq_false_iff_ne, Bool.false_eq_true, true_iff, false_iff, gt_iff_lt, ge_iff_le] at *
   unfold jobK
   omega)
 refine zR 126 b19 ?_
 refine zN [2] 0 ⟨.exit .ret, [], [(2, .v (.bool false))], []⟩ ?_
 refine zE (.v (.bool false)) ?_
 intro ρ w9 hm' hf
 refine ⟨congrArg (fun b => Ending.returned (Value.bool b)) ?_, hm'.below⟩
 exact bool_of (by
  simp only [decide_eq_true_eq, decide_eq_false_iff_not, beq_iff_eq, beq_eq_false_iff_ne, Bool.false_eq_true, true_iff, false_iff, gt_iff_lt, ge_iff_le] at *
  unfold jobK
  omega)
theorem job_iff (g s k sz sl of gp lt ea : Int) : jobK g s k sz sl of gp lt ea ↔ wrongR g s k sz sl of gp lt ea = 0 := by
 have key : wrongR g s k sz sl of gp lt ea = 0 ↔ fldB g s k sz sl of gp lt ea 1 = true ∧ fldB g s k sz sl of gp lt ea 2 = true ∧ fldB g s k sz sl of gp lt ea 3 = true ∧ fldB g s k sz sl of gp lt ea 4 = true ∧ fldB g s k sz sl of gp lt ea 5 = true ∧ fldB g s k sz sl of gp lt ea 6 = true ∧ fldB g s k sz sl of gp lt ea 7 = true ∧ fldB g s k sz sl of gp lt ea 8 = true ∧ fldB g s k sz sl of gp lt ea 9 = true := by
  unfold wrongR
  cases fldB g s k sz sl of gp lt ea 1 <;> cases fldB g s k sz sl of gp lt ea 2 <;> cases fldB g s k sz sl of gp lt ea 3 <;> cases fldB g s k sz sl of gp lt ea 4 <;> cases fldB g s k sz sl of gp lt ea 5 <;> cases fldB g s k sz sl of gp lt ea 6 <;> cases fldB g s k sz sl of gp lt ea 7 <;> cases fldB g s k sz sl of gp lt ea 8 <;> cases fldB g s k sz sl of gp lt ea 9 <;> decide
 rw [key]
 have hdiv : 1 ≤ sz → sz ≤ 1099511627776 → 1 ≤ sl → sl ≤ sz → (IntKind.i64.wrap ((IntKind.i64.wrap (IntKind.i64.wrap (sz + sl) - 1)).tdiv sl) ≤ 64 ↔ sz ≤ IntKind.i64.wrap (64 * sl)) := by
  intro h1 h2 h3 h4
  have e1 : IntKind.i64.wrap (sz + sl) = sz + sl := wrap63 (by omega) (by omega)
  have e2 : IntKind.i64.wrap (sz + sl - 1) = sz + sl - 1 := wrap63 (by omega) (by omega)
  have e3 : (sz + sl - 1).tdiv sl = (sz + sl - 1) / sl := Int.tdiv_eq_ediv_of_nonneg (by omega)
  have e4 : 0 ≤ (sz + sl - 1) / sl := Int.ediv_nonneg (by omega) (by omega)
  have e5 : (sz + sl - 1) / sl ≤ sz + sl - 1 := Int.ediv_le_self _ (by omega)
  have e6 : IntKind.i64.wrap ((sz + sl - 1) / sl) = (sz + sl - 1) / sl := wrap63 e4 (by omega)
  have e7 : IntKind.i64.wrap (64 * sl) = 64 * sl := wrap63 (by omega) (by omega)
  rw [e1, e2, e3, e6, e7]
  have e8 : (sz + sl - 1) / sl < 65 ↔ sz + sl - 1 < 65 * sl := Int.ediv_lt_iff_lt_mul (by omega)
  constructor
  ·intro h
   have := e8.1 (by omega)
   omega
  intro h
  have := e8.2 (by omega)
  omega
 have hz : 1 ≤ sz → sz ≤ 1099511627776 → IntKind.i64.wrap (sz - 1) = sz - 1 := fun h1 h2 => wrap_id ⟨by omega, by omega⟩
 have hs : 1 ≤ sl → sl ≤ 1099511627776 → IntKind.i64.wrap (sl - 1) = sl - 1 := fun h1 h2 => wrap_id ⟨by omega, by omega⟩
 unfold jobK
 generalize IntKind.i64.wrap ((IntKind.i64.wrap (IntKind.i64.wrap (sz + sl) - 1)).tdiv sl) = q at *
 by_cases h1 : k = 1
 ·subst h1
  simp only [fldB, Bool.and_eq_true, Bool.or_eq_true, decide_eq_true_eq, beq_iff_eq, bne_iff_ne, ne_eq, Bool.false_eq_true, true_or, or_true, or_false, false_or, true_and, show ((1 : Int) == 3) = false from rfl, show ((1 : Int) != 2) = true from rfl, show ((1 : Int) == 1) = true from rfl, show ((1 : Int) != 3) = true from rfl, show ((1 : Int) == 2) = false from rfl, cond_true, cond_false]
  constructor
  ·intro h
   rcases h with ⟨a1, a2, a3, a4, h | h | h⟩
   ·have := hz (by omega) (by omega)
    omega
   ·omega
   omega
  intro h
  have := hz (by omega) (by omega)
  refine ⟨?_, ?_, ?_, ?_, .inl ?_⟩ <;> omega
 by_cases h2 : k = 2
 ·subst h2
  simp only [fldB, Bool.and_eq_true, Bool.or_eq_true, decide_eq_true_eq, beq_iff_eq, bne_iff_ne, ne_eq, Bool.false_eq_true, true_or, or_true, or_false, false_or, true_and, show ((2 : Int) == 3) = false from rfl, show ((2 : Int) != 2) = false from rfl, show ((2 : Int) == 1) = false from rfl, show ((2 : Int) != 3) = true from rfl, show ((2 : Int) == 2) = true from rfl, cond_true, cond_false]
  constructor
  ·intro h
   rcases h with ⟨a1, a2, a3, a4, h | h | h⟩
   ·omega
   ·have := hz (by omega) (by omega)
    have := hs (by omega) (by omega)
    have := hdiv (by omega) (by omega) (by omega) (by omega)
    omega
   omega
  intro h
  have := hz (by omega) (by omega)
  have := hs (by omega) (by omega)
  have := hdiv (by omega) (by omega) (by omega) (by omega)
  refine ⟨?_, ?_, ?_, ?_, .inr (.inl ?_)⟩ <;> omega
 by_cases h3 : k = 3
 ·subst h3
  simp only [fldB, Bool.and_eq_true, Bool.or_eq_true, decide_eq_true_eq, beq_iff_eq, bne_iff_ne, ne_eq, Bool.false_eq_true, true_or, or_true, or_false, false_or, true_and, show ((3 : Int) == 3) = true from rfl, show ((3 : Int) != 2) = true from rfl, show ((3 : Int) == 1) = false from rfl, show ((3 : Int) != 3) = false from rfl, show ((3 : Int) == 2) = false from rfl, cond_true, cond_false]
  constructor
  ·intro h
   rcases h with ⟨a1, a2, a3, a4, h | h | h⟩
   ·omega
   ·omega
   omega
  intro h
  refine ⟨?_, ?_, ?_, ?_, .inr (.inr ?_)⟩ <;> omega
 simp only [fldB, Bool.and_eq_true, Bool.or_eq_true, beq_iff_eq]
 constructor
 ·rintro ⟨_, _, _, _, h | h | h⟩ <;> omega
 rintro ⟨_, _, (h | h) | h, _⟩ <;> omega
end Go.Proofs.YthfpekhpeiebjaaGreatDoor
end
