import Derived.Test.YtiehnigbcfkcdaaDoorN
set_option linter.unusedSimpArgs false
set_option linter.unusedVariables false
namespace Go.Proofs.YtiehnigbcfkcdaaDoor
open Go.RowKit Go.Sx
theorem rdB_all : ∀ z : Fin 256, rdB z.val = ((z.val % 128 : Nat) : Int) := by decide +kernel
theorem rdB_eq {b : Nat} (h : b < 256) : rdB b = ((b % 128 : Nat) : Int) := rdB_all ⟨b, h⟩
theorem ofInt_nat (n : Nat) (h : n < 18446744073709551616) : (BitVec.ofInt IntKind.u64.bits (n : Int)).toNat = n := by
  show (BitVec.ofInt 64 (n : Int)).toNat = n
  rw [BitVec.ofInt_natCast, BitVec.toNat_ofNat]
  exact Nat.mod_eq_of_lt h
theorem rdS_eq {b k : Nat} (hb : b < 256) (hk : k ≤ 8) : rdS b ((7 * k : Nat) : Int) = ((b % 128 * 2 ^ (7 * k) : Nat) : Int) := by
  unfold rdS
  rw [rdB_eq hb]
  have h1 : min ((7 * k : Nat) : Int).toNat IntKind.u64.bits = 7 * k := by
    show min ((7 * k : Nat) : Int).toNat 64 = 7 * k
    rw [Int.toNat_natCast]
    omega
  rw [h1]
  have h2 : (2 : Nat) ^ (7 * k) ≤ 2 ^ 56 := Nat.pow_le_pow_right (by omega) (by omega)
  have h3 : b % 128 * 2 ^ (7 * k) ≤ 127 * 2 ^ 56 := Nat.mul_le_mul (by omega) h2
  have h4 : (((b % 128 : Nat) : Int) * 2 ^ (7 * k)) = ((b % 128 * 2 ^ (7 * k) : Nat) : Int) := by push_cast; rfl
  rw [h4]
  exact wrapu (by omega) (by omega)
theorem rdX_eq {n b k : Nat} (hb : b < 256) (hk : k ≤ 8) (hn : n < 2 ^ (7 * k)) : rdX (n : Int) b ((7 * k : Nat) : Int) = ((n + b % 128 * 2 ^ (7 * k) : Nat) : Int) := by
  have h2 : (2 : Nat) ^ (7 * k) ≤ 2 ^ 56 := Nat.pow_le_pow_right (by omega) (by omega)
  have h3 : b % 128 * 2 ^ (7 * k) ≤ 127 * 2 ^ 56 := Nat.mul_le_mul (by omega) h2
  unfold rdX
  rw [rdS_eq hb hk, BitVec.toNat_or, ofInt_nat n (by omega), ofInt_nat _ (by omega)]
  have h4 := Nat.two_pow_add_eq_or_of_lt hn (b % 128)
  have h5 : n ||| b % 128 * 2 ^ (7 * k) = n + b % 128 * 2 ^ (7 * k) := by
    rw [Nat.or_comm, Nat.mul_comm (b % 128), ← h4, Nat.add_comm]
  rw [h5]
  exact wrapu (by omega) (by omega)
/-- Past eight bytes the number is too great. -/
theorem rd_big {l : List Nat} {at' X q : Int} {n : Nat} (hl : ∀ b ∈ l, b < 256) (hn : n < 2 ^ 56) (h : rd l at' (n : Int) 56 = (0, X, q)) : 1099511627776 < X := by
  cases l with
  | nil => simp [rd] at h
  | cons b l =>
    have hb := hl b (by simp)
    have hx := rdX_eq (n := n) (b := b) (k := 8) hb (by omega) hn
    simp only [rd] at h
    rw [show ((56 : Int) == 63) = false from rfl, Bool.false_and, cond_false] at h
    rw [show (56 : Int) = ((7 * 8 : Nat) : Int) from rfl, hx] at h
    by_cases h1 : (b : Int) > 127
    · rw [decide_eq_true h1, cond_true] at h
      cases l with
      | nil => simp [rd] at h
      | cons b2 l =>
        simp only [rd] at h
        rw [show (((7 * 8 : Nat) : Int) + 7 == 63) = true from rfl, Bool.true_and] at h
        by_cases h2 : (b2 : Int) = 1
        · have hb2 : b2 = 1 := by omega
          subst hb2
          have e1 : (((1 : Nat) : Int) != 1) = false := rfl
          rw [e1, cond_false] at h
          have e2 : decide (((1 : Nat) : Int) > 127) = false := rfl
          rw [e2, cond_false] at h
          have e3 : ((((1 : Nat) : Int) == 0) && decide (((7 * 8 : Nat) : Int) + 7 > 0)) = false := rfl
          rw [e3, cond_false] at h
          simp only [Prod.mk.injEq] at h
          rw [← h.2.1]
          have h3 : b % 128 * 2 ^ (7 * 8) ≤ 127 * 2 ^ 56 := Nat.mul_le_mul (by omega) (Nat.le_refl _)
          unfold rdX
          have e4 : rdS 1 (((7 * 8 : Nat) : Int) + 7) = ((9223372036854775808 : Nat) : Int) := by decide +kernel
          rw [e4, BitVec.toNat_or, ofInt_nat _ (by omega), ofInt_nat _ (by omega)]
          have h5 := Nat.right_le_or (n := n + b % 128 * 2 ^ (7 * 8)) (m := 9223372036854775808)
          have h6 : (n + b % 128 * 2 ^ (7 * 8)) ||| 9223372036854775808 < 2 ^ 64 := Nat.or_lt_two_pow (by omega) (by omega)
          rw [wrapu (by omega) (by omega)]
          omega
        · have e1 : ((b2 : Int) != 1) = true := by simp [h2]
          rw [e1, cond_true] at h
          simp at h
    · rw [decide_eq_false h1, cond_false] at h
      by_cases h2 : (b : Int) = 0
      · rw [h2] at h
        simp at h
      · have e1 : ((b : Int) == 0) = false := beq_eq_false_iff_ne.2 h2
        rw [e1, Bool.false_and, cond_false] at h
        simp only [Prod.mk.injEq] at h
        rw [← h.2.1]
        have h3 : b % 128 = b := by omega
        have h4 : 1 * 2 ^ (7 * 8) ≤ b % 128 * 2 ^ (7 * 8) := Nat.mul_le_mul (by omega) (Nat.le_refl _)
        omega
theorem leb_lt : ∀ (m x : Nat), x ≤ m → ∀ b ∈ leb x, b < 256 := by
  intro m
  induction m with
  | zero =>
    intro x hx b hb
    have : x = 0 := by omega
    subst this
    rw [leb_small (by omega)] at hb
    simp at hb
    omega
  | succ m ih =>
    intro x hx b hb
    by_cases h : x < 128
    · rw [leb_small h] at hb
      simp at hb
      omega
    · rw [leb_big h] at hb
      rcases List.mem_cons.1 hb with rfl | hb
      · omega
      · exact ih (x / 128) (by omega) b hb
theorem pow7 (k : Nat) : 2 ^ (7 * (k + 1)) = 2 ^ (7 * k) * 128 := by
  rw [Nat.mul_succ, Nat.pow_add]
theorem pow7c (k : Nat) : ((2 ^ (7 * k) : Nat) : Int) * 128 = ((2 ^ (7 * (k + 1)) : Nat) : Int) := by
  rw [pow7]
  push_cast
  rfl
theorem pow7d (k : Nat) : 128 ^ k = 2 ^ (7 * k) := by
  rw [Nat.pow_mul]
theorem rf_nil (f : Nat) (i x wt : Int) (seen : List Nat) : rf f [] i x wt seen = (0, 0, false) := by cases f <;> rfl
theorem rf_cons' (f b : Nat) (l : List Nat) (i x wt : Int) (seen : List Nat) : rf (f + 1) (b :: l) i x wt seen = bif decide ((b : Int) < 128) then (x + ((b % 128 : Nat) : Int) * wt, i + 1, ((strOf (leb (x + ((b % 128 : Nat) : Int) * wt).toNat)).toList == (strOf (seen ++ [b])).toList)) else rf f l (i + 1) (x + ((b % 128 : Nat) : Int) * wt) (wt * 128) (seen ++ [b]) := rfl
/-- The Reader's number and the reference's, compared. -/
theorem rd_rf : ∀ (l : List Nat) (k : Nat) (seen : List Nat) (n : Nat) (at' : Int), (∀ b ∈ l, b < 256) → (∀ b ∈ seen, b < 256) → k ≤ 8 → seen.length = k → n < 2 ^ (7 * k) → (∀ y : Nat, (k = 0 ∨ 0 < y) → leb (n + y * 2 ^ (7 * k)) = seen ++ leb y) →
    ((rf (8 - k) l at' (n : Int) ((2 ^ (7 * k) : Nat) : Int) seen).2.2 = true → rd l at' (n : Int) ((7 * k : Nat) : Int) = (0, (rf (8 - k) l at' (n : Int) ((2 ^ (7 * k) : Nat) : Int) seen).1, (rf (8 - k) l at' (n : Int) ((2 ^ (7 * k) : Nat) : Int) seen).2.1)) ∧
    (∀ X q, rd l at' (n : Int) ((7 * k : Nat) : Int) = (0, X, q) → X ≤ 1099511627776 → rf (8 - k) l at' (n : Int) ((2 ^ (7 * k) : Nat) : Int) seen = (X, q, true)) := by
  intro l
  induction l with
  | nil =>
    intro k seen n at' _ _ _ _ _ _
    rw [rf_nil]
    refine ⟨fun h => (by cases h), fun X q h => ?_⟩
    simp [rd] at h
  | cons b l ih =>
    intro k seen n at' hl hs hk hsl hn hC
    have hb := hl b (by simp)
    by_cases hk8 : k = 8
    · subst hk8
      refine ⟨fun h => (by cases h), fun X q h hX => ?_⟩
      have := rd_big hl hn h
      omega
    have e8 : 8 - k = (7 - k) + 1 := by omega
    have hx := rdX_eq (n := n) (b := b) (k := k) hb hk hn
    have hm : ((n : Int) + ((b % 128 : Nat) : Int) * ((2 ^ (7 * k) : Nat) : Int)) = ((n + b % 128 * 2 ^ (7 * k) : Nat) : Int) := by push_cast; rfl
    have h63 : (((7 * k : Nat) : Int) == 63) = false := beq_eq_false_iff_ne.2 (by omega)
    rw [e8, rf_cons', hm, Int.toNat_natCast]
    simp only [rd]
    rw [h63, Bool.false_and, cond_false, hx]
    have h2p : (2 : Nat) ^ (7 * k) ≤ 2 ^ 49 := Nat.pow_le_pow_right (by omega) (by omega)
    by_cases h1 : b < 128
    · have d1 : decide ((b : Int) < 128) = true := decide_eq_true (by omega)
      have d2 : decide ((b : Int) > 127) = false := decide_eq_false (by omega)
      have hbm : b % 128 = b := Nat.mod_eq_of_lt h1
      rw [d1, d2, cond_true, cond_false]
      by_cases h0 : k = 0 ∨ 0 < b
      · have hc := hC b h0
        rw [leb_small h1] at hc
        have hz : (((b : Int) == 0) && decide (((7 * k : Nat) : Int) > 0)) = false := by
          rcases h0 with h0 | h0
          · subst h0
            rw [decide_eq_false (by omega), Bool.and_false]
          · rw [beq_eq_false_iff_ne.2 (by omega), Bool.false_and]
        rw [hz, cond_false, hbm, hc]
        refine ⟨fun _ => rfl, fun X q h _ => ?_⟩
        simp only [Prod.mk.injEq, true_and] at h
        rw [← h.1, ← h.2, BEq.rfl]
      · have hb0 : b = 0 := by omega
        have hk0 : 0 < k := by omega
        subst hb0
        have hz : ((((0 : Nat) : Int) == 0) && decide (((7 * k : Nat) : Int) > 0)) = true := by
          rw [decide_eq_true (by omega)]
          rfl
        rw [hz, cond_true]
        refine ⟨fun h => ?_, fun X q h => ?_⟩
        · simp only at h
          have he := strOf_inj (leb_lt _ _ (Nat.le_refl _)) (fun c hc => by
            rcases List.mem_append.1 hc with hc | hc
            · exact hs c hc
            · simp at hc; omega) h
          have hlen := congrArg List.length he
          have h5 := leb_len (x := n + 0 % 128 * 2 ^ (7 * k)) (k - 1) (by rw [show k - 1 + 1 = k by omega, pow7d]; simpa using hn)
          simp only [List.length_append, List.length_singleton] at hlen
          omega
        · simp only [Prod.mk.injEq] at h
          omega
    · have d1 : decide ((b : Int) < 128) = false := decide_eq_false (by omega)
      have d2 : decide ((b : Int) > 127) = true := decide_eq_true (by omega)
      rw [d1, d2, cond_true, cond_false, pow7c]
      have e7 : (((7 * k : Nat) : Int) + 7) = ((7 * (k + 1) : Nat) : Int) := by omega
      rw [e7, show 7 - k = 8 - (k + 1) by omega]
      have hd : b % 128 ≤ 127 := by omega
      have h3 : b % 128 * 2 ^ (7 * k) ≤ 127 * 2 ^ (7 * k) := Nat.mul_le_mul hd (Nat.le_refl _)
      refine ih (k + 1) (seen ++ [b]) (n + b % 128 * 2 ^ (7 * k)) (at' + 1) (fun c hc => hl c (by simp [hc])) (fun c hc => by
        rcases List.mem_append.1 hc with hc | hc
        · exact hs c hc
        · simp at hc; omega) (by omega) (by simp [hsl]) (by rw [pow7]; omega) (fun y hy => ?_)
      have hy0 : 0 < y := by omega
      have h6 := hC (b % 128 + 128 * y) (.inr (by omega))
      rw [leb_big (x := b % 128 + 128 * y) (by omega)] at h6
      rw [show (b % 128 + 128 * y) % 128 + 128 = b by omega, show (b % 128 + 128 * y) / 128 = y by omega] at h6
      rw [pow7, show n + b % 128 * 2 ^ (7 * k) + y * (2 ^ (7 * k) * 128) = n + (b % 128 + 128 * y) * 2 ^ (7 * k) by rw [Nat.add_mul, Nat.add_assoc, Nat.mul_comm 128 y, Nat.mul_assoc, Nat.mul_comm 128], h6]
      simp

/-- Ten numbers as the reference reads them. -/
def rreadL : Nat → List Nat → Int → Option (List Int × Int)
  | 0, _, at' => some ([], at')
  | k + 1, bs, at' => match rf 8 (bs.drop at'.toNat) at' 0 1 [] with
    | (x, q, ok) => bif ok then (rreadL k bs q).map fun p => (IntKind.i64.wrap x :: p.1, p.2) else none
theorem rf_pos : ∀ (l : List Nat) (f j : Nat) (i x wt : Int) (seen : List Nat), 0 ≤ x → x < wt → wt = 128 ^ j → f + j ≤ 8 → 0 ≤ (rf f l i x wt seen).1 ∧ (rf f l i x wt seen).1 < 72057594037927936 := by
  intro l
  induction l with
  | nil =>
    intro f j i x wt seen _ _ _ _
    rw [rf_nil]
    exact ⟨Int.le_refl 0, by decide⟩
  | cons b l ih =>
    intro f j i x wt seen h0 h1 h2 h3
    cases f with
    | zero =>
      rw [show rf 0 (b :: l) i x wt seen = (0, 0, false) from rfl]
      exact ⟨Int.le_refl 0, by decide⟩
    | succ f =>
      have hj := pow128 j (by omega)
      obtain ⟨m1, m2⟩ := r_mul (v := b) (wt := wt) (by omega)
      rw [rf_cons]
      cases decide ((b : Int) < 128) with
      | true =>
        simp only [cond_true]
        omega
      | false =>
        simp only [cond_false]
        exact ih f (j + 1) _ _ _ _ (by omega) (by omega) (by rw [Int.pow_succ, ← h2]) (by omega)
theorem rd_rf0 (l : List Nat) (at' : Int) (hl : ∀ b ∈ l, b < 256) :
    ((rf 8 l at' 0 1 []).2.2 = true → rd l at' 0 0 = (0, (rf 8 l at' 0 1 []).1, (rf 8 l at' 0 1 []).2.1)) ∧
    (∀ X q, rd l at' 0 0 = (0, X, q) → X ≤ 1099511627776 → rf 8 l at' 0 1 [] = (X, q, true)) :=
  rd_rf l 0 [] 0 at' hl (by simp) (by omega) rfl (by decide) (fun y _ => by simp)
theorem readL_ref : ∀ (k : Nat) (bs : List Nat) (at' : Int) (r : List Int × Int), (∀ b ∈ bs, b < 256) → readL k bs at' = some r → rreadL k bs at' = some r
  | 0, _, _, _, _, h => h
  | k + 1, bs, at', r, hb, h => by
    have hd : ∀ b ∈ bs.drop at'.toNat, b < 256 := fun b hm => hb b (List.mem_of_mem_drop hm)
    rcases hr : rd (bs.drop at'.toNat) at' 0 0 with ⟨e, x, q⟩
    simp only [readL, hr] at h
    by_cases he : e = 0
    · subst he
      rw [show ((0 : Int) != 0) = false from rfl, cond_false] at h
      by_cases hx : x ≤ 1099511627776
      · have hx' : decide (x > 1099511627776) = false := by simp; omega
        rw [hx', cond_false] at h
        have h2 := (rd_rf0 _ at' hd).2 x q hr hx
        simp only [rreadL, h2, cond_true]
        rcases hq : readL k bs q with _ | ⟨l, q'⟩
        · rw [hq] at h; cases h
        · rw [hq] at h
          rw [readL_ref k bs q _ hb hq]
          exact h
      · have hx' : decide (x > 1099511627776) = true := by simp; omega
        rw [hx', cond_true] at h
        cases h
    · have he' : (e != 0) = true := by simp [he]
      rw [he', cond_true] at h
      cases h
theorem ref_readL : ∀ (k : Nat) (bs : List Nat) (at' : Int) (l : List Int) (q : Int), (∀ b ∈ bs, b < 256) → rreadL k bs at' = some (l, q) → (∀ x ∈ l, x ≤ 1099511627776) → readL k bs at' = some (l, q)
  | 0, _, _, _, _, _, h, _ => h
  | k + 1, bs, at', l, q, hb, h, hl => by
    have hd : ∀ b ∈ bs.drop at'.toNat, b < 256 := fun b hm => hb b (List.mem_of_mem_drop hm)
    have hp := rf_pos (bs.drop at'.toNat) 8 0 at' 0 1 [] (by omega) (by omega) rfl (by omega)
    have h1 := (rd_rf0 (bs.drop at'.toNat) at' hd).1
    rcases hr : rf 8 (bs.drop at'.toNat) at' 0 1 [] with ⟨x, q1, ok⟩
    simp only [rreadL, hr] at h
    rw [hr] at hp h1
    simp only at hp h1
    cases ok with
    | false => simp only [cond_false] at h; cases h
    | true =>
      rw [cond_true] at h
      rcases hq : rreadL k bs q1 with _ | ⟨l', q'⟩
      · rw [hq] at h; cases h
      · rw [hq] at h
        simp only [Option.map_some, Option.some.injEq, Prod.mk.injEq] at h
        obtain ⟨h2, h3⟩ := h
        subst h2
        subst h3
        have hxl := hl (IntKind.i64.wrap x) (by simp)
        have hw : IntKind.i64.wrap x = x := wrap63 (by omega) (by omega)
        rw [hw] at hxl
        have ih := ref_readL k bs q1 l' q' hb hq (fun y hy => hl y (by simp [hy]))
        rw [readL_s (h1 rfl) hxl, ih]
        rfl
theorem pass {b : Bool} {n m : Int} (h : (bif b then n else m) = 0) (hn : n ≠ 0) : b = false ∧ m = 0 := by
  cases b with
  | true => exact absurd h hn
  | false => exact ⟨rfl, h⟩
theorem wrong_le {g s k sz sl of gp lt ea : Int} (h : wrongF g s k sz sl of gp lt ea = 0) : g ≤ 1099511627776 ∧ s ≤ 1099511627776 ∧ k ≤ 1099511627776 ∧ sz ≤ 1099511627776 ∧ sl ≤ 1099511627776 ∧ of ≤ 1099511627776 ∧ gp ≤ 1099511627776 ∧ lt ≤ 1099511627776 ∧ ea ≤ 1099511627776 := by
  unfold wrongF at h
  obtain ⟨h1, h⟩ := pass h (by decide)
  obtain ⟨h2, h⟩ := pass h (by decide)
  obtain ⟨h3, h⟩ := pass h (by decide)
  obtain ⟨h4, h⟩ := pass h (by decide)
  obtain ⟨h5, h⟩ := pass h (by decide)
  obtain ⟨h6, h⟩ := pass h (by decide)
  obtain ⟨h7, h⟩ := pass h (by decide)
  obtain ⟨h8, h⟩ := pass h (by decide)
  obtain ⟨h9, _⟩ := pass h (by decide)
  simp only [Bool.not_eq_false', Bool.and_eq_true, decide_eq_true_eq] at h1 h2 h3 h8 h9
  have hk : k = 1 ∨ k = 2 ∨ k = 3 := by omega
  rcases hk with rfl | rfl | rfl
  · simp at h4 h5 h6 h7
    have hw : IntKind.i64.wrap (sz - 1) = sz - 1 := wrap63 (by omega) (by omega)
    rw [hw] at h6
    omega
  · simp at h4 h5 h6 h7
    have hw : IntKind.i64.wrap (sl - 1) = sl - 1 := wrap63 (by omega) (by omega)
    rw [hw] at h6
    omega
  · simp at h4 h5 h6 h7
    omega
end Go.Proofs.YtiehnigbcfkcdaaDoor
