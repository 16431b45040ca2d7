import Derived.Test.YtiehnigbcfkcdaaGreatDoorPF
set_option linter.unusedSimpArgs false
set_option linter.unusedVariables false
namespace Go.Proofs.YtiehnigbcfkcdaaGreatDoor
open Go.RowKit Go.Sx
theorem kindW_plain (k : Int) : ∀ b ∈ kindW k, b ≠ 32 := by
  unfold kindW
  split
  · decide
  · split <;> decide
theorem saysW_plain (d : Bool) : ∀ b ∈ saysW d, b ≠ 32 := by cases d <;> decide
theorem pcs_text {g s k sz sl of gp lt ea : Int} (hw : wrongR g s k sz sl of gp lt ea = 0) (d : Bool) : pcs [] (textW g s k sz sl of gp lt ea d) = weaveL wordsW (valsL g s k sz sl of gp lt ea d) := by
  obtain ⟨hv0, hv1, hv2, hv3, hv4, hv5, hv6, hv7, hv8⟩ := valid_of hw
  have e : weaveL wordsW (valsL g s k sz sl of gp lt ea d) = [103, 114, 111, 117, 112, 115] :: (weaveL wordsW (valsL g s k sz sl of gp lt ea d)).tail := rfl
  unfold textW
  rw [e]
  refine pcs_join _ _ ?_
  rw [← e]
  simp only [wordsW, weaveL, valsL, List.forall_mem_cons]
  refine ⟨by decide, itoa_plain (by omega), by decide, itoa_plain (by omega), by decide, kindW_plain k, by decide, itoa_plain (by omega), by decide, itoa_plain (by omega), by decide, itoa_plain (by omega), by decide, itoa_plain (by omega), by decide, itoa_plain (by omega), by decide, itoa_plain (by omega), by decide, saysW_plain d, by simp⟩
theorem kitN_itoa {n : Int} (h0 : 0 ≤ n) (h1 : n < 1000000000000000000) : kitN (Lib.itoa n) = n := by
  unfold kitN
  rw [parse_itoa h0 h1]
theorem rN_itoa {n : Int} (h0 : 0 ≤ n) (h1 : n < 1000000000000000000) : rN (Lib.itoa n) = n := dig_itoa h0 h1
theorem kitK_kind {k : Int} (h : k = 1 ∨ k = 2 ∨ k = 3) : kitK (kindW k) = k := by
  rcases h with rfl | rfl | rfl <;> decide +kernel
theorem rK_kind {k : Int} (h : k = 1 ∨ k = 2 ∨ k = 3) : rK (kindW k) = k := by
  unfold rK
  simp only [ByteArray.toList_eq]
  rcases h with rfl | rfl | rfl <;> decide +kernel
theorem kitS_says (d : Bool) : (kitS (saysW d) == 1) = d := by cases d <;> decide +kernel
theorem rS_says (d : Bool) : (rS (saysW d) == 1) = d := by
  unfold rS
  simp only [ByteArray.toList_eq]
  cases d <;> decide +kernel
section
variable {l p0 p1 p2 p3 p4 p5 p6 p7 p8 p9 p10 p11 p12 p13 p14 p15 p16 p17 p18 p19 : List UInt8}
theorem both_fix {g s k sz sl of gp lt ea : Int} {d : Bool} (hps : pcs [] l = [p0, p1, p2, p3, p4, p5, p6, p7, p8, p9, p10, p11, p12, p13, p14, p15, p16, p17, p18, p19])
    (hw : wrongR g s k sz sl of gp lt ea = 0) (ht : textW g s k sz sl of gp lt ea d = l) :
    (kitN p1 = g ∧ kitN p3 = s ∧ kitK p5 = k ∧ kitN p7 = sz ∧ kitN p9 = sl ∧ kitN p11 = of ∧ kitN p13 = gp ∧ kitN p15 = lt ∧ kitN p17 = ea ∧ (kitS p19 == 1) = d) ∧
    (rN p1 = g ∧ rN p3 = s ∧ rK p5 = k ∧ rN p7 = sz ∧ rN p9 = sl ∧ rN p11 = of ∧ rN p13 = gp ∧ rN p15 = lt ∧ rN p17 = ea ∧ (rS p19 == 1) = d) := by
  have h := pcs_text hw d
  rw [ht, hps] at h
  obtain ⟨hv0, hv1, hv2, hv3, hv4, hv5, hv6, hv7, hv8⟩ := valid_of hw
  simp only [wordsW, weaveL, valsL, List.cons.injEq] at h
  obtain ⟨-, rfl, -, rfl, -, rfl, -, rfl, -, rfl, -, rfl, -, rfl, -, rfl, -, rfl, -, rfl, -⟩ := h
  exact ⟨⟨kitN_itoa (by omega) (by omega), kitN_itoa (by omega) (by omega), kitK_kind hv2, kitN_itoa (by omega) (by omega), kitN_itoa (by omega) (by omega), kitN_itoa (by omega) (by omega), kitN_itoa (by omega) (by omega), kitN_itoa (by omega) (by omega), kitN_itoa (by omega) (by omega), kitS_says d⟩,
    rN_itoa (by omega) (by omega), rN_itoa (by omega) (by omega), rK_kind hv2, rN_itoa (by omega) (by omega), rN_itoa (by omega) (by omega), rN_itoa (by omega) (by omega), rN_itoa (by omega) (by omega), rN_itoa (by omega) (by omega), rN_itoa (by omega) (by omega), rS_says d⟩
end
theorem bytes_beq (x : List UInt8) (t : ByteArray) : ((mkB x).toList == t.toList) = decide (x = t.data.toList) := by
  rw [ByteArray.toList_eq, ByteArray.toList_eq, Bool.eq_iff_iff, beq_iff_eq, decide_eq_true_eq]
  exact Iff.rfl
theorem jobE_zero (n : Int) : (jobE n != 0) = (n != 0) := by
  unfold jobE
  split
  · rename_i h
    subst h
    rfl
  · rename_i h
    rw [show (n != 0) = true from by simpa using h]
    rfl
theorem kitA_ok {t : ByteArray} {g s k sz sl of gp lt ea d : Int} (hw : wrongR g s k sz sl of gp lt ea = 0) (ht : textW g s k sz sl of gp lt ea (d == 1) = t.data.toList) :
    kitA t g s k sz sl of gp lt ea d = .tuple #[.agg #[.int .i64 g, .int .i64 s, .int .i64 k, .int .i64 sz, .int .i64 sl, .int .i64 of, .int .i64 gp, .int .i64 lt, .int .i64 ea, .bool (d == 1)], .int .i64 0] := by
  unfold kitA
  rw [jobE_zero, wrong_eq, hw, bytes_beq, decide_eq_true ht]
  rfl
theorem refA_ok {t : ByteArray} {g s k sz sl of gp lt ea d : Int} (hw : wrongR g s k sz sl of gp lt ea = 0) (ht : textW g s k sz sl of gp lt ea (d == 1) = t.data.toList) :
    refA t g s k sz sl of gp lt ea d = .tuple #[.agg #[.int .i64 g, .int .i64 s, .int .i64 k, .int .i64 sz, .int .i64 sl, .int .i64 of, .int .i64 gp, .int .i64 lt, .int .i64 ea, .bool (d == 1)], .bool true] := by
  unfold refA
  rw [hw, bytes_beq, decide_eq_true ht]
  rfl
theorem kitA_bad {t : ByteArray} {g s k sz sl of gp lt ea d : Int} (h : ¬ (wrongR g s k sz sl of gp lt ea = 0 ∧ textW g s k sz sl of gp lt ea (d == 1) = t.data.toList)) : kitA t g s k sz sl of gp lt ea d = badP := by
  unfold kitA
  rw [jobE_zero, wrong_eq, bytes_beq]
  by_cases hw : wrongR g s k sz sl of gp lt ea = 0
  · rw [hw, decide_eq_false (fun ht => h ⟨hw, ht⟩)]
    rfl
  · rw [show (wrongR g s k sz sl of gp lt ea != 0) = true from by simpa using hw]
    rfl
theorem refA_bad {t : ByteArray} {g s k sz sl of gp lt ea d : Int} (h : ¬ (wrongR g s k sz sl of gp lt ea = 0 ∧ textW g s k sz sl of gp lt ea (d == 1) = t.data.toList)) : refA t g s k sz sl of gp lt ea d = badR := by
  unfold refA
  rw [bytes_beq]
  by_cases hw : wrongR g s k sz sl of gp lt ea = 0
  · rw [hw, decide_eq_false (fun ht => h ⟨hw, ht⟩)]
    rfl
  · rw [show (wrongR g s k sz sl of gp lt ea != 0) = true from by simpa using hw]
    rfl
/-- What both say of a text. -/
theorem parses_alike (t : ByteArray) : (∃ g s k sz sl of gp lt ea d, kitP t (pcs [] t.data.toList) = .tuple #[.agg #[.int .i64 g, .int .i64 s, .int .i64 k, .int .i64 sz, .int .i64 sl, .int .i64 of, .int .i64 gp, .int .i64 lt, .int .i64 ea, .bool d], .int .i64 0] ∧
      refP t (pcs [] t.data.toList) = .tuple #[.agg #[.int .i64 g, .int .i64 s, .int .i64 k, .int .i64 sz, .int .i64 sl, .int .i64 of, .int .i64 gp, .int .i64 lt, .int .i64 ea, .bool d], .bool true]) ∨
    (kitP t (pcs [] t.data.toList) = badP ∧ refP t (pcs [] t.data.toList) = badR) := by
  generalize hps : pcs [] t.data.toList = ps
  by_cases h20 : ps.length = 20
  · obtain ⟨p0, p1, p2, p3, p4, p5, p6, p7, p8, p9, p10, p11, p12, p13, p14, p15, p16, p17, p18, p19, rfl⟩ := len20 h20
    simp only [kitP, refP]
    by_cases hk : wrongR (kitN p1) (kitN p3) (kitK p5) (kitN p7) (kitN p9) (kitN p11) (kitN p13) (kitN p15) (kitN p17) = 0 ∧ textW (kitN p1) (kitN p3) (kitK p5) (kitN p7) (kitN p9) (kitN p11) (kitN p13) (kitN p15) (kitN p17) (kitS p19 == 1) = t.data.toList
    · obtain ⟨-, h1, h2, h3, h4, h5, h6, h7, h8, h9, h10⟩ := both_fix hps hk.1 hk.2
      refine .inl ⟨_, _, _, _, _, _, _, _, _, _, kitA_ok hk.1 hk.2, ?_⟩
      have hk' := hk
      rw [← h1, ← h2, ← h3, ← h4, ← h5, ← h6, ← h7, ← h8, ← h9, ← h10] at hk' ⊢
      exact refA_ok hk'.1 hk'.2
    · refine .inr ⟨kitA_bad hk, refA_bad fun hr => hk ?_⟩
      obtain ⟨⟨h1, h2, h3, h4, h5, h6, h7, h8, h9, h10⟩, -⟩ := both_fix hps hr.1 hr.2
      rw [h1, h2, h3, h4, h5, h6, h7, h8, h9, h10]
      exact hr
  · exact .inr ⟨bad_len h20, rbad_len h20⟩
end Go.Proofs.YtiehnigbcfkcdaaGreatDoor
