import Derived.Test.YtkjnbafdmjakgaaDoorRF
set_option linter.unusedSimpArgs false
set_option linter.unusedVariables false
/-! Panes: the reference reads a line as the kit does; a text cut at its lines' ends. -/
namespace Go.Proofs.YtkjnbafdmjakgaaDoor
open Go.RowKit Go.Sx
theorem mayP_zero (k : ByteArray) : mayP k 0 = false := by
  unfold mayP
  simp
theorem paneOf_emp (k : List UInt8) (o : Option (List Int)) : paneOf k [] o = none := by
  unfold paneOf
  split
  · rw [show kindOf [] = 0 from rfl, mayP_zero]
    rfl
  · rfl
theorem parsePR_eq (k : List UInt8) (l : List (List UInt8)) : parsePR k l = parseP k l := by
  by_cases h9 : l.length = 9
  · obtain ⟨p0, p1, p2, p3, p4, p5, p6, p7, p8, rfl⟩ := len9 h9
    simp only [parsePR, parseP]
    by_cases h0 : p0 = []
    · by_cases h1 : p1 = []
      · subst h1
        rw [if_neg (by simp [h0]), if_pos (.inr rfl), paneOf_emp]
      · rw [if_neg (by simp [h0]), if_neg (by simp [h0, h1])]
    · rw [if_pos h0, if_pos (.inl h0)]
  · rw [parsePR_len h9, parseP_len h9]
theorem parse_alike (s : List UInt8) : parseR s = parseK s := by
  unfold parseR parseK
  cases hr : keyR s with
  | none =>
    cases hk : keyK s with
    | none => rfl
    | some kr =>
      obtain ⟨k, r⟩ := kr
      have := (keyK_iff s k r).1 hk
      have h2 := (keyR_iff s k (quoteB k).length).2 ⟨r, this, rfl⟩
      rw [hr] at h2
      cases h2
  | some kn =>
    obtain ⟨k, n⟩ := kn
    obtain ⟨r, h1, h2⟩ := (keyR_iff s k n).1 hr
    have hk := (keyK_iff s k r).2 h1
    rw [hk]
    have hd : s.drop n = r := by rw [h1, h2, List.drop_left]
    simp only
    by_cases hl : s.length ≤ n
    · rw [if_pos hl]
      have : r = [] := by
        have hl2 : s.length = (quoteB k).length + r.length := by rw [h1, List.length_append]
        exact List.length_eq_zero_iff.1 (by omega)
      subst this
      rfl
    · rw [if_neg hl, hd, parsePR_eq]
theorem cutN_app : ∀ (p r : List UInt8), (∀ b ∈ p, b ≠ 10) → cutN (p ++ r) = (p ++ (cutN r).1, (cutN r).2.1, (cutN r).2.2)
  | [], r, _ => rfl
  | b :: p, r, h => by
    rw [List.cons_append, cutN, if_neg (h b (by simp)), cutN_app p r (fun c hc => h c (by simp [hc]))]
    rfl
theorem cutN_no (p : List UInt8) (h : ∀ b ∈ p, b ≠ 10) : cutN p = (p, [], false) := by
  have := cutN_app p [] h
  rw [List.append_nil] at this
  rw [this]
  simp [cutN]
theorem cutN_hit (p r : List UInt8) (h : ∀ b ∈ p, b ≠ 10) : cutN (p ++ 10 :: r) = (p, r, true) := by
  rw [cutN_app p _ h]
  simp [cutN]
/-- The bytes from one place to another. -/
def mid (s : List UInt8) (i j : Nat) : List UInt8 := (s.drop i).take (j - i)
theorem mid_split {s : List UInt8} {i j : Nat} (h : i ≤ j) : s.drop i = mid s i j ++ s.drop j := by
  have : s.drop j = (s.drop i).drop (j - i) := by rw [List.drop_drop]; congr 1; omega
  rw [this, mid, List.take_append_drop]
theorem mid_len {s : List UInt8} {i j : Nat} (h : i ≤ j) (hj : j ≤ s.length) : (mid s i j).length = j - i := by
  unfold mid
  rw [List.length_take, List.length_drop]
  omega
theorem mid_nil (s : List UInt8) (i : Nat) : mid s i i = [] := by simp [mid]
theorem mid_succ {s : List UInt8} {i j : Nat} {y : UInt8} (h : i ≤ j) (hy : s[j]? = some y) : mid s i (j + 1) = mid s i j ++ [y] := by
  unfold mid
  rw [show j + 1 - i = (j - i) + 1 by omega, List.take_add_one, List.getElem?_drop, show i + (j - i) = j by omega, hy]
  rfl
theorem cut_end {s : List UInt8} {i : Nat} (hi : i ≤ s.length) (h : ∀ b ∈ mid s i s.length, b ≠ 10) : cutN (s.drop i) = (mid s i s.length, [], false) := by
  rw [mid_split hi, List.drop_length, List.append_nil]
  exact cutN_no _ h
theorem cut_hit {s : List UInt8} {i j : Nat} (hi : i ≤ j) (hy : s[j]? = some 10) (h : ∀ b ∈ mid s i j, b ≠ 10) : cutN (s.drop i) = (mid s i j, s.drop (j + 1), true) := by
  rw [mid_split hi, drop_at hy]
  exact cutN_hit _ _ h
end Go.Proofs.YtkjnbafdmjakgaaDoor
