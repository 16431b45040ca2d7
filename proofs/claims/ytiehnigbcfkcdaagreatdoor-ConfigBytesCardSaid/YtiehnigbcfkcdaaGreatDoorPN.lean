import Derived.Test.YtiehnigbcfkcdaaGreatDoorPE
set_option linter.unusedSimpArgs false
set_option linter.unusedVariables false
namespace Go.Proofs.YtiehnigbcfkcdaaGreatDoor
open Go.RowKit Go.Sx
theorem kindW_plain (k : Int) : ∀ b ∈ kindW k, b ≠ 32 := by
  unfold kindW
  split
  · decide
  · split <;> decide
theorem saysW_plain (d : Bool) : ∀ b ∈ saysW d, b ≠ 32 := by cases d <;> decide
theorem pcs_text {g s k sz sl of gp lt ea : Int} (hw : wrongR g s k sz sl of gp lt ea = 0) (d : Bool) : pcs [] (textW g s k sz sl of gp lt ea d) = weaveL wordsW (valsL g s k sz sl of gp lt ea d) := by
  obtain ⟨hv0, hv1, hv2, hv3, hv4, hv5, hv6, hv7, hv8⟩ := valid_of hw
  have e : weaveL wordsW (valsL g s k sz sl of gp lt ea d) = [103, 114, 111, 117, 112, 115] :: (weaveL wordsW (valsL g s k sz sl of gp lt ea d)).tail := rfl
  unfold textW
  rw [e]
  refine pcs_join _ _ ?_
  rw [← e]
  simp only [wordsW, weaveL, valsL, List.forall_mem_cons]
  refine ⟨by decide, itoa_plain (by omega), by decide, itoa_plain (by omega), by decide, kindW_plain k, by decide, itoa_plain (by omega), by decide, itoa_plain (by omega), by decide, itoa_plain (by omega), by decide, itoa_plain (by omega), by decide, itoa_plain (by omega), by decide, itoa_plain (by omega), by decide, saysW_plain d, by simp⟩
theorem kitN_itoa {n : Int} (h0 : 0 ≤ n) (h1 : n < 1000000000000000000) : kitN (Lib.itoa n) = n := by
  unfold kitN
  rw [parse_itoa h0 h1]
theorem kitK_kind {k : Int} (h : k = 1 ∨ k = 2 ∨ k = 3) : kitK (kindW k) = k := by
  rcases h with rfl | rfl | rfl <;> decide +kernel
theorem kitS_says (d : Bool) : (kitS (saysW d) == 1) = d := by cases d <;> decide +kernel
theorem kit_fix {l p0 p1 p2 p3 p4 p5 p6 p7 p8 p9 p10 p11 p12 p13 p14 p15 p16 p17 p18 p19 : List UInt8} {g s k sz sl of gp lt ea : Int} {d : Bool} (hps : pcs [] l = [p0, p1, p2, p3, p4, p5, p6, p7, p8, p9, p10, p11, p12, p13, p14, p15, p16, p17, p18, p19])
    (hw : wrongR g s k sz sl of gp lt ea = 0) (ht : textW g s k sz sl of gp lt ea d = l) :
    kitN p1 = g ∧ kitN p3 = s ∧ kitK p5 = k ∧ kitN p7 = sz ∧ kitN p9 = sl ∧ kitN p11 = of ∧ kitN p13 = gp ∧ kitN p15 = lt ∧ kitN p17 = ea ∧ (kitS p19 == 1) = d := by
  have h := pcs_text hw d
  rw [ht, hps] at h
  obtain ⟨hv0, hv1, hv2, hv3, hv4, hv5, hv6, hv7, hv8⟩ := valid_of hw
  simp only [wordsW, weaveL, valsL, List.cons.injEq] at h
  obtain ⟨-, rfl, -, rfl, -, rfl, -, rfl, -, rfl, -, rfl, -, rfl, -, rfl, -, rfl, -, rfl, -⟩ := h
  exact ⟨kitN_itoa (by omega) (by omega), kitN_itoa (by omega) (by omega), kitK_kind hv2, kitN_itoa (by omega) (by omega), kitN_itoa (by omega) (by omega), kitN_itoa (by omega) (by omega), kitN_itoa (by omega) (by omega), kitN_itoa (by omega) (by omega), kitN_itoa (by omega) (by omega), kitS_says d⟩
theorem bytes_beq (x : List UInt8) (t : ByteArray) : ((mkB x).toList == t.toList) = decide (x = t.data.toList) := by
  rw [ByteArray.toList_eq, ByteArray.toList_eq, Bool.eq_iff_iff, beq_iff_eq, decide_eq_true_eq]
  exact Iff.rfl
theorem jobE_zero (n : Int) : (jobE n != 0) = (n != 0) := by
  unfold jobE
  split
  · rename_i h
    subst h
    rfl
  · rename_i h
    rw [show (n != 0) = true from by simpa using h]
    rfl
theorem kitA_ok {t : ByteArray} {g s k sz sl of gp lt ea d : Int} (hw : wrongR g s k sz sl of gp lt ea = 0) (ht : textW g s k sz sl of gp lt ea (d == 1) = t.data.toList) :
    kitA t g s k sz sl of gp lt ea d = .tuple #[.agg #[.int .i64 g, .int .i64 s, .int .i64 k, .int .i64 sz, .int .i64 sl, .int .i64 of, .int .i64 gp, .int .i64 lt, .int .i64 ea, .bool (d == 1)], .int .i64 0] := by
  unfold kitA
  rw [jobE_zero, wrong_eq, hw, bytes_beq, decide_eq_true ht]
  rfl
end Go.Proofs.YtiehnigbcfkcdaaGreatDoor
