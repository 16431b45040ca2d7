import Derived.Test.YtkjnbafdmjakgaaDoorBP
import Derived.Test.YtkjnbafdmjakgaaDoorNP
import Derived.Lib.ItoaMem
set_option linter.unusedSimpArgs false
set_option linter.unusedVariables false
/-! Panes: what is written is read, line by line and whole; what is cut off within the last line is refused there. -/
namespace Go.Proofs.YtkjnbafdmjakgaaDoor
open Go.RowKit Go.Sx
theorem dec_in : ∀ (u : Nat) (b : UInt8), b ∈ Lib.decDigits u → 48 ≤ b.toNat ∧ b.toNat ≤ 57 := by
  intro u
  induction u using Nat.strongRecOn with
  | _ u ih =>
    intro b hb
    by_cases h : u < 10
    · rw [Lib.decDigits_one h, List.mem_singleton] at hb
      rw [hb, chr u h]
      omega
    · rw [Lib.decDigits, dif_neg h] at hb
      rcases List.mem_append.1 hb with hb | hb
      · exact ih (u / 10) (by omega) b hb
      · rw [List.mem_singleton.1 hb, chr (u % 10) (by omega)]
        omega
theorem itoa_in (n : Int) (b : UInt8) (hb : b ∈ Lib.itoa n) : 45 ≤ b.toNat ∧ b.toNat ≤ 57 := by
  unfold Lib.itoa at hb
  split at hb
  · rcases List.mem_cons.1 hb with rfl | hb
    · decide
    · have := dec_in _ b hb
      omega
  · have := dec_in _ b hb
    omega
theorem itoa_no (n : Int) (x : UInt8) (hx : x.toNat < 45) : ∀ b ∈ Lib.itoa n, b ≠ x := fun b hb e => by
  have := itoa_in n b hb
  rw [e] at this
  omega
theorem q1_no10 (c : UInt8) : ∀ b ∈ q1 c, b ≠ 10 := by
  intro b hb e
  subst e
  unfold q1 at hb
  split at hb
  · rename_i h
    rw [List.mem_singleton] at hb
    subst hb
    exact absurd h (by decide)
  · have hx : ∀ n, n < 16 → hexB n ≠ 10 := by decide
    simp only [List.mem_cons, List.not_mem_nil, or_false] at hb
    rcases hb with hb | hb | hb | hb
    · exact absurd hb (by decide)
    · exact absurd hb (by decide)
    · exact hx (c.toNat / 16) (by have := c.toNat_lt; omega) hb.symm
    · exact hx (c.toNat % 16) (by omega) hb.symm
theorem quote_no10 (k : List UInt8) : ∀ b ∈ quoteB k, b ≠ 10 := by
  intro b hb e
  subst e
  simp only [quoteB, List.mem_cons, List.mem_append, List.mem_flatMap, List.not_mem_nil, or_false] at hb
  rcases hb with hb | ⟨c, _, hc⟩ | hb
  · exact absurd hb (by decide)
  · exact q1_no10 c 10 hc rfl
  · exact absurd hb (by decide)
theorem kindN_no {kd : Int} (h : kd = 1 ∨ kd = 2 ∨ kd = 3) (x : UInt8) (hx : x = 10 ∨ x = 32) : ∀ b ∈ kindN kd, b ≠ x := by
  rcases h with rfl | rfl | rfl <;> rcases hx with rfl | rfl <;> decide
theorem line_no10 {p : Pn} (h : p.may = true) : ∀ b ∈ p.line, b ≠ 10 := by
  intro b hb
  obtain ⟨_, hkd⟩ := may_spec h
  simp only [Pn.line, lineB, List.mem_append, List.mem_cons, List.mem_flatMap, List.not_mem_nil, or_false] at hb
  rcases hb with hb | hb | hb | ⟨n, _, hb⟩
  · exact quote_no10 _ b hb
  · subst hb; decide
  · exact kindN_no hkd 10 (.inl rfl) b hb
  · rcases hb with hb | hb
    · subst hb; decide
    · exact itoa_no n 10 (by decide) b hb
theorem kindOf_N {kd : Int} (h : kd = 1 ∨ kd = 2 ∨ kd = 3) : kindOf (kindN kd) = kd := by
  rcases h with rfl | rfl | rfl <;> decide
theorem pcs_line {kd : Int} (hkd : kd = 1 ∨ kd = 2 ∨ kd = 3) (a b c d e f g : Int) : pcs [] (32 :: (kindN kd ++ [a, b, c, d, e, f, g].flatMap fun n => 32 :: Lib.itoa n)) = [[], kindN kd, Lib.itoa a, Lib.itoa b, Lib.itoa c, Lib.itoa d, Lib.itoa e, Lib.itoa f, Lib.itoa g] := by
  have hi := fun n => itoa_no n 32 (by decide)
  rw [show (32 : UInt8) :: (kindN kd ++ [a, b, c, d, e, f, g].flatMap fun n => 32 :: Lib.itoa n) = [] ++ 32 :: (kindN kd ++ 32 :: (Lib.itoa a ++ 32 :: (Lib.itoa b ++ 32 :: (Lib.itoa c ++ 32 :: (Lib.itoa d ++ 32 :: (Lib.itoa e ++ 32 :: (Lib.itoa f ++ 32 :: Lib.itoa g))))))) by simp]
  rw [pcs_hit [] _ (by simp), pcs_hit _ _ (kindN_no hkd 32 (.inr rfl)), pcs_hit _ _ (hi a), pcs_hit _ _ (hi b), pcs_hit _ _ (hi c), pcs_hit _ _ (hi d), pcs_hit _ _ (hi e), pcs_hit _ _ (hi f), pcs_none _ (hi g)]
/-- A line is read. -/
theorem parse_line {p : Pn} (h : p.may = true) (hi : p.in64) : parseK p.line = some p := by
  obtain ⟨hk, hkd⟩ := may_spec h
  obtain ⟨i1, i2, i3, i4, i5, i6, i7⟩ := hi
  have n : ∀ x, in64 x → numK (Lib.itoa x) = some x := fun x hx => (numK_iff _ _).2 ⟨rfl, hx⟩
  have hkk : keyK p.line = some (p.key, 32 :: (kindN p.kd ++ [p.st, p.en, p.nt, p.ct, p.sm, p.mn, p.mx].flatMap fun n => 32 :: Lib.itoa n)) := (keyK_iff _ _ _).2 rfl
  have hne : kindN p.kd ≠ [] := by rcases hkd with h | h | h <;> rw [h] <;> decide
  unfold parseK
  rw [hkk]
  simp only
  rw [pcs_line hkd]
  simp only [parseP]
  rw [if_neg (by simp [hne])]
  simp only [List.mapM_cons, List.mapM_nil, n _ i1, n _ i2, n _ i3, n _ i4, n _ i5, n _ i6, n _ i7]
  show paneOf p.key (kindN p.kd) (some [p.st, p.en, p.nt, p.ct, p.sm, p.mn, p.mx]) = some p
  simp only [paneOf, kindOf_N hkd]
  rw [if_pos (show mayP (mkB p.key) p.kd = true from h)]
theorem line_inj {p q : Pn} (hp : p.may = true) (ip : p.in64) (hq : q.may = true) (iq : q.in64) : p.line = q.line ↔ p = q := by
  constructor
  · intro h
    have h1 := parse_line hp ip
    rw [h, parse_line hq iq] at h1
    exact (Option.some.inj h1).symm
  · rintro rfl; rfl
/-- The text of panes that may all be. -/
def textB (ps : List Pn) : List UInt8 := ps.flatMap fun p => p.line ++ [10]
theorem text_some : ∀ (ps : List Pn) (acc : List UInt8), (∀ p ∈ ps, p.may = true) → textP ps acc = some (acc ++ textB ps)
  | [], acc, _ => by simp [textP, textB]
  | p :: ps, acc, h => by
    simp only [textP]
    rw [if_pos (h p (by simp)), text_some ps _ (fun q hq => h q (by simp [hq]))]
    simp [textB]
theorem readG_ne {f : Nat} {ps : List Pn} {t : List UInt8} (h : t ≠ []) : readG (f + 1) ps t = (match parseK (cutN t).1 with
    | some p => if (cutN t).2.2 then readG f (ps ++ [p]) (cutN t).2.1 else ([], ps.length, false)
    | none => ([], ps.length, false)) := by
  cases t with
  | nil => exact absurd rfl h
  | cons c r => rfl
theorem read_text : ∀ (ps : List Pn) (acc : List Pn) (r : List UInt8) (f : Nat), (∀ p ∈ ps, p.may = true ∧ p.in64) → (textB ps ++ r).length < f → readG f acc (textB ps ++ r) = readG f (acc ++ ps) r
  | [], acc, r, f, _, _ => by simp [textB]
  | p :: ps, acc, r, 0, _, hf => by omega
  | p :: ps, acc, r, f + 1, h, hf => by
    obtain ⟨h1, h2⟩ := h p (by simp)
    have e : textB (p :: ps) ++ r = p.line ++ 10 :: (textB ps ++ r) := by simp [textB]
    have hl : (textB (p :: ps) ++ r).length = p.line.length + 1 + (textB ps ++ r).length := by rw [e]; simp; omega
    rw [e, readG_ne (by simp), cutN_hit _ _ (line_no10 h1)]
    simp only
    rw [parse_line h1 h2]
    simp only [if_true]
    rw [readG_fuel f (f + 1) (acc ++ [p]) (textB ps ++ r) (by omega) (by omega), read_text ps (acc ++ [p]) r (f + 1) (fun q hq => h q (by simp [hq])) (by omega)]
    simp
theorem read_whole (ps : List Pn) (h : ∀ p ∈ ps, p.may = true ∧ p.in64) : readG ((textB ps).length + 1) [] (textB ps) = (ps, ps.length, true) := by
  have := read_text ps [] [] ((textB ps).length + 1) h (by simp)
  rw [List.append_nil, List.nil_append] at this
  rw [this]
  rfl
theorem line_pos (p : Pn) : 1 ≤ p.line.length := by simp [Pn.line, lineB, quoteB]
theorem read_cut (qs : List Pn) (p : Pn) (k : Nat) (h : ∀ q ∈ qs ++ [p], q.may = true ∧ q.in64) (h1 : 1 ≤ k) (h2 : k ≤ p.line.length) :
    readG (((textB (qs ++ [p])).take ((textB (qs ++ [p])).length - k)).length + 1) [] ((textB (qs ++ [p])).take ((textB (qs ++ [p])).length - k)) = ([], qs.length, false) := by
  have e : textB (qs ++ [p]) = textB qs ++ (p.line ++ [10]) := by simp [textB]
  have hl : (textB (qs ++ [p])).length = (textB qs).length + (p.line.length + 1) := by rw [e]; simp
  have ht : (textB (qs ++ [p])).take ((textB (qs ++ [p])).length - k) = textB qs ++ p.line.take (p.line.length + 1 - k) := by
    rw [hl, e, show (textB qs).length + (p.line.length + 1) - k = (textB qs).length + (p.line.length + 1 - k) by omega, List.take_length_add_append, List.take_append_of_le_length (by omega)]
  have hno : ∀ b ∈ p.line.take (p.line.length + 1 - k), b ≠ 10 := fun b hb => line_no10 (h p (by simp)).1 b (List.mem_of_mem_take hb)
  have hne : p.line.take (p.line.length + 1 - k) ≠ [] := by
    intro e0
    have := congrArg List.length e0
    rw [List.length_take, List.length_nil] at this
    have := line_pos p
    omega
  rw [ht]
  rw [read_text qs [] (p.line.take (p.line.length + 1 - k)) _ (fun q hq => h q (by simp [hq])) (Nat.lt_succ_self _), List.nil_append, readG_ne hne, cutN_no _ hno]
  simp only
  cases parseK (List.take (p.line.length + 1 - k) p.line) <;> rfl
/-! ### the pane that may be, out of any -/
def rightK (kd : Int) : Int := IntKind.i64.wrap (1 + (IntKind.i64.wrap (kd.tmod 3 + 3)).tmod 3)
theorem rightK_in (kd : Int) : rightK kd = 1 ∨ rightK kd = 2 ∨ rightK kd = 3 := by
  have h1 : -3 < kd.tmod 3 ∧ kd.tmod 3 < 3 := ⟨by have := Int.lt_tmod_of_pos kd (show (0 : Int) < 3 by decide); omega, Int.tmod_lt_of_pos kd (by decide)⟩
  have e2 : IntKind.i64.wrap (kd.tmod 3 + 3) = kd.tmod 3 + 3 := wrap_id ⟨by omega, by omega⟩
  have h2 : 0 ≤ (kd.tmod 3 + 3).tmod 3 ∧ (kd.tmod 3 + 3).tmod 3 < 3 := ⟨Int.tmod_nonneg 3 (by omega), Int.tmod_lt_of_pos _ (by decide)⟩
  unfold rightK
  rw [e2, wrap_id ⟨by omega, by omega⟩]
  omega
def Pn.right (p : Pn) : Pn := { p with key := p.key.take 256, kd := rightK p.kd }
theorem right_may (p : Pn) : p.right.may = true := by
  have h1 : (p.key.take 256).length ≤ 256 := by rw [List.length_take]; omega
  show mayP (mkB (p.key.take 256)) (rightK p.kd) = true
  have h2 : (((p.key.take 256).length : Nat) : Int) ≤ 256 := by omega
  unfold mayP
  rcases rightK_in p.kd with h | h | h <;> rw [h, mkB_size, decide_eq_true h2] <;> decide
theorem right_in {p : Pn} (h : p.in64) : p.right.in64 := h
end Go.Proofs.YtkjnbafdmjakgaaDoor
