/- Numbers and quoted keys in plain Lean: what both readings take. -/
import Derived.Lib.ParseIntBCases
import Derived.Lib.ItoaMem
import Derived.Lib.ItoaLen
set_option linter.unusedSimpArgs false
set_option linter.unusedVariables false
namespace Go.Proofs.YtkjnbafdmjakgaaDoor
open Go.Lib
theorem chr (d : Nat) (h : d < 10) : (UInt8.ofNat (48 + d)).toNat = 48 + d := by simp [UInt8.toNat_ofNat']; omega
/-! ### numbers -/
theorem parse_dec : ∀ (m u : Nat) (r : List UInt8), u ≤ m → u < 18446744073709551616 → parseUintM (2 ^ 64 - 1) 0 (decDigits u ++ r) = parseUintM (2 ^ 64 - 1) u r
  | m, u, r, hm, hb => by
    by_cases h : u < 10
    · rw [decDigits_one h, List.singleton_append, parseUintM, chr u h, if_pos (by omega), if_neg (by omega), if_neg (by omega), Nat.zero_mul, Nat.zero_add, show 48 + u - 48 = u by omega]
    · match m with
      | 0 => omega
      | m + 1 =>
        rw [decDigits, dif_neg h, List.append_assoc, parse_dec m (u / 10) _ (by omega) (by omega), List.singleton_append, parseUintM, chr (u % 10) (by omega), if_pos (by omega), if_neg (by omega), if_neg (by omega),
          show u / 10 * 10 + (48 + u % 10 - 48) = u by omega]
theorem dec_first (u : Nat) : ∃ c r, decDigits u = c :: r ∧ c.toNat ≠ 43 ∧ c.toNat ≠ 45 := by
  induction u using Nat.strongRecOn with
  | _ u ih =>
    by_cases h : u < 10
    · rw [decDigits_one h]
      exact ⟨_, [], rfl, by rw [chr u h]; omega, by rw [chr u h]; omega⟩
    · obtain ⟨c, r, e, h1, h2⟩ := ih (u / 10) (by omega)
      rw [decDigits, dif_neg h, e]
      exact ⟨c, _, rfl, h1, h2⟩
theorem parse_mag {u : Nat} (h : u < 18446744073709551616) : parseUintB 64 (decDigits u) = .ok u := by
  obtain ⟨c, r, e, _, _⟩ := dec_first u
  unfold parseUintB
  rw [if_neg (by rw [e]; simp)]
  have := parse_dec u u [] (Nat.le_refl _) h
  rw [List.append_nil] at this
  rw [this]
  rfl
def in64 (x : Int) : Prop := -9223372036854775808 ≤ x ∧ x ≤ 9223372036854775807
theorem parse_itoa {x : Int} (h : in64 x) : parseIntB 64 (itoa x) = .ok x := by
  obtain ⟨h1, h2⟩ := h
  by_cases hx : x < 0
  · unfold itoa
    rw [if_pos hx, parseIntB_minus, parse_mag (by omega)]
    unfold signedC
    simp only
    rw [if_neg (by omega), show -((x.natAbs : Nat) : Int) = x by omega]
  · unfold itoa
    rw [if_neg hx]
    obtain ⟨c, r, e, h43, h45⟩ := dec_first x.toNat
    have hp := parse_mag (u := x.toNat) (by omega)
    rw [e] at hp ⊢
    rw [parseIntB_plain 64 c r h43 h45, hp]
    unfold signlessC
    simp only
    rw [if_neg (by omega), Int.toNat_of_nonneg (by omega)]
theorem parse_in {s : List UInt8} {x : Int} (h : parseIntB 64 s = .ok x) : in64 x := by
  have hc : ∀ (o : NumEnd Nat), signlessC (2 ^ (64 - 1)) o = .ok x → in64 x := fun o ho => by
    unfold signlessC at ho
    split at ho <;> try (cases ho; done)
    rename_i u
    split at ho
    · cases ho
    · injection ho with ho
      unfold in64
      omega
  have hs : ∀ (o : NumEnd Nat), signedC (2 ^ (64 - 1)) o = .ok x → in64 x := fun o ho => by
    unfold signedC at ho
    split at ho <;> try (cases ho; done)
    rename_i u
    split at ho
    · cases ho
    · injection ho with ho
      unfold in64
      omega
  cases s with
  | nil => cases h
  | cons c r =>
    by_cases h43 : c.toNat = 43
    · have : c = 43 := UInt8.toNat_inj.1 h43
      subst this
      rw [parseIntB_plus] at h
      exact hc _ h
    · by_cases h45 : c.toNat = 45
      · have : c = 45 := UInt8.toNat_inj.1 h45
        subst this
        rw [parseIntB_minus] at h
        exact hs _ h
      · rw [parseIntB_plain 64 c r h43 h45] at h
        exact hc _ h
/-- What the kit takes as a number. -/
def numK (s : List UInt8) : Option Int := match parseIntB 64 s with
  | .ok n => if itoa n = s then some n else none
  | _ => none
theorem numK_iff (s : List UInt8) (x : Int) : numK s = some x ↔ s = itoa x ∧ in64 x := by
  unfold numK
  constructor
  · intro h
    split at h
    · rename_i n hn
      split at h
      · rename_i he
        injection h with h
        subst h
        exact ⟨he.symm, parse_in hn⟩
      · cases h
    · cases h
  · rintro ⟨rfl, h⟩
    rw [parse_itoa h]
    simp
/-- The reference's digits. -/
def numGo : Nat → List UInt8 → Option Nat
  | n, [] => some n
  | n, c :: r => if c.toNat < 48 ∨ 57 < c.toNat ∨ 922337203685477580 < n then none else numGo (n * 10 + (c.toNat - 48)) r
def numEnd (neg : Bool) (s : List UInt8) : Option Nat → Option Int
  | none => none
  | some n => if itoa (bif neg then IntKind.i64.wrap (0 - IntKind.i64.wrap (n : Int)) else IntKind.i64.wrap (n : Int)) = s then some (bif neg then IntKind.i64.wrap (0 - IntKind.i64.wrap (n : Int)) else IntKind.i64.wrap (n : Int)) else none
/-- What the reference takes as a number. -/
def numR (s : List UInt8) : Option Int :=
  match s with
  | 45 :: r => if r = [] ∨ 20 < s.length then none else numEnd true s (numGo 0 r)
  | s => if s = [] ∨ 20 < s.length then none else numEnd false s (numGo 0 s)
theorem num_dec : ∀ (m u : Nat) (r : List UInt8), u ≤ m → u ≤ 9223372036854775809 → numGo 0 (decDigits u ++ r) = numGo u r
  | m, u, r, hm, hb => by
    by_cases h : u < 10
    · rw [decDigits_one h, List.singleton_append, numGo, chr u h, if_neg (by omega), Nat.zero_mul, Nat.zero_add, show 48 + u - 48 = u by omega]
    · match m with
      | 0 => omega
      | m + 1 =>
        rw [decDigits, dif_neg h, List.append_assoc, num_dec m (u / 10) _ (by omega) (by omega), List.singleton_append, numGo, chr (u % 10) (by omega), if_neg (by omega), show u / 10 * 10 + (48 + u % 10 - 48) = u by omega]
theorem wrap_in (x : Int) : in64 (IntKind.i64.wrap x) := by
  unfold in64
  simp only [IntKind.wrap, IntKind.bits, IntKind.signed]
  simp
  omega
theorem wrap_id {x : Int} (h : in64 x) : IntKind.i64.wrap x = x := by
  unfold in64 at h
  simp only [IntKind.wrap, IntKind.bits, IntKind.signed]
  simp
  omega
theorem numEnd_in {neg : Bool} {s : List UInt8} {o : Option Nat} {x : Int} (h : numEnd neg s o = some x) : s = itoa x ∧ in64 x := by
  cases o with
  | none => cases h
  | some n =>
    simp only [numEnd] at h
    split at h
    · rename_i he
      injection h with h
      subst h
      refine ⟨he.symm, ?_⟩
      cases neg <;> exact wrap_in _
    · cases h
theorem dec_len {u : Nat} (h : u < 10000000000000000000) : (decDigits u).length ≤ 19 := by
  have go : ∀ (k u : Nat), u < 10 ^ (k + 1) → (decDigits u).length ≤ k + 1 := by
    intro k
    induction k with
    | zero =>
      intro u hu
      rw [decDigits_one (by simpa using hu)]
      simp
    | succ k ih =>
      intro u hu
      by_cases h10 : u < 10
      · rw [decDigits_one h10]
        simp
      · rw [decDigits, dif_neg h10, List.length_append, List.length_singleton]
        have := ih (u / 10) (by rw [Nat.pow_succ] at hu; omega)
        omega
  exact go 18 u (by simpa using h)
theorem numR_iff (s : List UInt8) (x : Int) : numR s = some x ↔ s = itoa x ∧ in64 x := by
  constructor
  · intro h
    unfold numR at h
    split at h
    · split at h
      · cases h
      · exact numEnd_in h
    · split at h
      · cases h
      · exact numEnd_in h
  · rintro ⟨rfl, h⟩
    have h' := h
    obtain ⟨h1, h2⟩ := h'
    by_cases hx : x < 0
    · have e : itoa x = 45 :: decDigits x.natAbs := by unfold itoa; rw [if_pos hx]
      obtain ⟨c, r, ed, _, _⟩ := dec_first x.natAbs
      have hl := dec_len (u := x.natAbs) (by omega)
      have hg := num_dec x.natAbs x.natAbs [] (Nat.le_refl _) (by omega)
      rw [List.append_nil] at hg
      unfold numR
      rw [e]
      simp only
      rw [if_neg (by rw [ed] at hl ⊢; simp at hl ⊢; omega), hg]
      simp only [numGo, numEnd, cond_true]
      have hw : IntKind.i64.wrap (0 - IntKind.i64.wrap ((x.natAbs : Nat) : Int)) = x := by
        simp only [IntKind.wrap, IntKind.bits, IntKind.signed]
        simp
        omega
      rw [hw, if_pos e]
    · have e : itoa x = decDigits x.toNat := by unfold itoa; rw [if_neg hx]
      obtain ⟨c, r, ed, _, h45⟩ := dec_first x.toNat
      have hl := dec_len (u := x.toNat) (by omega)
      have hg := num_dec x.toNat x.toNat [] (Nat.le_refl _) (by omega)
      rw [List.append_nil] at hg
      unfold numR
      rw [e]
      have hc : c ≠ 45 := fun hc => h45 (by rw [hc]; rfl)
      split
      · rename_i r' he
        rw [ed] at he
        injection he with he _
        exact absurd he hc
      · rw [if_neg (by rw [ed] at hl ⊢; simp at hl ⊢; omega), hg]
        simp only [numGo, numEnd, cond_false]
        have hw : IntKind.i64.wrap ((x.toNat : Nat) : Int) = x := by rw [Int.toNat_of_nonneg (by omega)]; exact wrap_id h
        rw [hw, if_pos e]
/-- Both take the same. -/
theorem nums_alike (s : List UInt8) : numR s = numK s := by
  cases h : numR s with
  | none =>
    cases h2 : numK s with
    | none => rfl
    | some x =>
      rw [(numR_iff s x).2 ((numK_iff s x).1 h2)] at h
      cases h
  | some x => exact ((numK_iff s x).2 ((numR_iff s x).1 h)).symm
/-! ### quoted keys -/
def hexB (n : Nat) : UInt8 := if n < 10 then UInt8.ofNat (48 + n) else UInt8.ofNat (87 + n)
def plainC (c : UInt8) : Bool := decide (32 ≤ c.toNat) && (decide (c.toNat ≤ 126) && (decide (c.toNat ≠ 34) && decide (c.toNat ≠ 92)))
def q1 (c : UInt8) : List UInt8 := if plainC c then [c] else [92, 120, hexB (c.toNat / 16), hexB (c.toNat % 16)]
/-- A key quoted. -/
def quoteB (k : List UInt8) : List UInt8 := 34 :: (k.flatMap q1 ++ [34])
def dg (c : UInt8) : Option Nat := if 48 ≤ c.toNat ∧ c.toNat ≤ 57 then some (c.toNat - 48) else if 97 ≤ c.toNat ∧ c.toNat ≤ 102 then some (c.toNat - 87) else none
/-- The kit's reading of what stands behind the first quote. -/
def unq : List UInt8 → List UInt8 → Option (List UInt8 × List UInt8)
  | _, [] => none
  | b, c :: s => if c = 34 then some (b, s) else if c = 92 then
      (match s with
        | x :: h :: l :: r => if x = 120 then (match dg h, dg l with
          | some i, some j => if plainC (UInt8.ofNat (16 * i + j)) then none else unq (b ++ [UInt8.ofNat (16 * i + j)]) r
          | _, _ => none) else none
        | _ => none)
    else if c.toNat < 32 ∨ 126 < c.toNat then none else unq (b ++ [c]) s
theorem unq_cons (b : List UInt8) (c : UInt8) (s : List UInt8) : unq b (c :: s) = if c = 34 then some (b, s) else if c = 92 then
      (match s with
        | x :: h :: l :: r => if x = 120 then (match dg h, dg l with
          | some i, some j => if plainC (UInt8.ofNat (16 * i + j)) then none else unq (b ++ [UInt8.ofNat (16 * i + j)]) r
          | _, _ => none) else none
        | _ => none)
    else if c.toNat < 32 ∨ 126 < c.toNat then none else unq (b ++ [c]) s := by
  match s with
  | [] => rfl
  | [_] => rfl
  | [_, _] => rfl
  | _ :: _ :: _ :: _ => rfl
/-- One plain step. -/
theorem unq_step (b : List UInt8) (c : UInt8) (s : List UInt8) (h34 : c ≠ 34) (h92 : c ≠ 92) (hc : ¬ (c.toNat < 32 ∨ 126 < c.toNat)) : unq b (c :: s) = unq (b ++ [c]) s := by
  rw [unq_cons, if_neg h34, if_neg h92, if_neg hc]
theorem unq_end (b s : List UInt8) : unq b (34 :: s) = some (b, s) := by
  rw [unq_cons, if_pos rfl]
theorem unq_esc (b : List UInt8) (x h l : UInt8) (r : List UInt8) : unq b (92 :: x :: h :: l :: r) = if x = 120 then (match dg h, dg l with
    | some i, some j => if plainC (UInt8.ofNat (16 * i + j)) then none else unq (b ++ [UInt8.ofNat (16 * i + j)]) r
    | _, _ => none) else none := by
  rw [unq_cons, if_neg (by decide), if_pos rfl]
theorem dg_hex : ∀ i : Fin 16, dg (hexB i.val) = some i.val := by decide +kernel
theorem dg_lt {c : UInt8} {i : Nat} (h : dg c = some i) : i < 16 ∧ hexB i = c := by
  unfold dg at h
  split at h
  · injection h with h
    subst h
    refine ⟨by omega, ?_⟩
    unfold hexB
    rw [if_pos (by omega)]
    apply UInt8.toNat_inj.1
    simp [UInt8.toNat_ofNat']
    omega
  · split at h
    · injection h with h
      subst h
      refine ⟨by omega, ?_⟩
      unfold hexB
      rw [if_neg (by omega)]
      apply UInt8.toNat_inj.1
      simp [UInt8.toNat_ofNat']
      omega
    · cases h
theorem byte_two (c : UInt8) : UInt8.ofNat (16 * (c.toNat / 16) + c.toNat % 16) = c := by
  rw [Nat.div_add_mod]
  simp
theorem plain_of {c : UInt8} (h : plainC c = true) : c ≠ 34 ∧ c ≠ 92 ∧ ¬ (c.toNat < 32 ∨ 126 < c.toNat) := by
  simp only [plainC, Bool.and_eq_true, decide_eq_true_eq] at h
  obtain ⟨h1, h2, h3, h4⟩ := h
  refine ⟨fun e => h3 (by rw [e]; rfl), fun e => h4 (by rw [e]; rfl), by omega⟩
theorem unq_quote : ∀ (k b r : List UInt8), unq b (k.flatMap q1 ++ 34 :: r) = some (b ++ k, r)
  | [], b, r => by rw [List.flatMap_nil, List.nil_append, unq_end, List.append_nil]
  | c :: k, b, r => by
    rw [List.flatMap_cons, List.append_assoc]
    by_cases hp : plainC c = true
    · obtain ⟨h1, h2, h3⟩ := plain_of hp
      rw [show q1 c = [c] by unfold q1; rw [if_pos hp], List.singleton_append, unq_step _ _ _ h1 h2 h3, unq_quote k, List.append_assoc]
      rfl
    · have h1 := dg_hex ⟨c.toNat / 16, by have := c.toNat_lt; omega⟩
      have h2 := dg_hex ⟨c.toNat % 16, by omega⟩
      simp only at h1 h2
      rw [show q1 c = [92, 120, hexB (c.toNat / 16), hexB (c.toNat % 16)] by unfold q1; rw [if_neg hp]]
      simp only [List.cons_append, List.nil_append]
      rw [unq_esc, if_pos rfl, h1, h2]
      simp only
      rw [byte_two, if_neg hp, unq_quote k, List.append_assoc]
      rfl
theorem unq_inv : ∀ (m : Nat) (s b b' r : List UInt8), s.length ≤ m → unq b s = some (b', r) → ∃ k, b' = b ++ k ∧ s = k.flatMap q1 ++ 34 :: r
  | _, [], b, b', r, _, h => by simp [unq] at h
  | 0, c :: s, b, b', r, hm, _ => by simp at hm
  | m + 1, c :: s, b, b', r, hm, h => by
    have hs : s.length ≤ m := by simpa using hm
    by_cases h34 : c = 34
    · subst h34
      rw [unq_end] at h
      injection h with h
      injection h with h1 h2
      subst h1 h2
      exact ⟨[], by simp, rfl⟩
    · by_cases h92 : c = 92
      · subst h92
        match s, hs with
        | [], _ => simp [unq] at h
        | [x], _ => simp [unq] at h
        | [x, y], _ => simp [unq] at h
        | x :: p :: l :: r', hs =>
          rw [unq_esc] at h
          split at h
          · rename_i hx
            subst hx
            split at h
            · rename_i i j hi hj
              split at h
              · cases h
              · rename_i hpl
                obtain ⟨k, hk, he⟩ := unq_inv m r' _ _ _ (by simp at hs; omega) h
                obtain ⟨hi1, hi2⟩ := dg_lt hi
                obtain ⟨hj1, hj2⟩ := dg_lt hj
                have hn : (UInt8.ofNat (16 * i + j)).toNat = 16 * i + j := by simp [UInt8.toNat_ofNat']; omega
                refine ⟨UInt8.ofNat (16 * i + j) :: k, by rw [hk, List.append_assoc]; rfl, ?_⟩
                rw [List.flatMap_cons, show q1 (UInt8.ofNat (16 * i + j)) = [92, 120, p, l] by
                  unfold q1
                  rw [if_neg hpl, hn, show (16 * i + j) / 16 = i by omega, show (16 * i + j) % 16 = j by omega, hi2, hj2], he]
                rfl
            · cases h
          · cases h
      · by_cases hc : c.toNat < 32 ∨ 126 < c.toNat
        · rw [unq_cons, if_neg h34, if_neg h92, if_pos hc] at h
          cases h
        · rw [unq_step b c s h34 h92 hc] at h
          obtain ⟨k, hk, he⟩ := unq_inv m s _ _ _ hs h
          have hp : plainC c = true := by
            simp only [plainC, Bool.and_eq_true, decide_eq_true_eq]
            refine ⟨by omega, by omega, fun e => h34 (UInt8.toNat_inj.1 e), fun e => h92 (UInt8.toNat_inj.1 e)⟩
          refine ⟨c :: k, by rw [hk, List.append_assoc]; rfl, ?_⟩
          rw [List.flatMap_cons, show q1 c = [c] by unfold q1; rw [if_pos hp], he]
          rfl
/-- What the kit reads of a text: the key, and what stands behind. -/
def keyK : List UInt8 → Option (List UInt8 × List UInt8)
  | 34 :: s => unq [] s
  | _ => none
theorem keyK_iff (s k r : List UInt8) : keyK s = some (k, r) ↔ s = quoteB k ++ r := by
  constructor
  · intro h
    unfold keyK at h
    split at h
    · rename_i s'
      obtain ⟨k', hk, he⟩ := unq_inv s'.length s' [] k r (Nat.le_refl _) h
      rw [List.nil_append] at hk
      subst hk
      rw [he]
      simp [quoteB]
    · cases h
  · rintro rfl
    have := unq_quote k [] r
    rw [List.nil_append] at this
    simp only [quoteB, List.cons_append, List.append_assoc, List.nil_append, keyK]
    exact this
/-- The reference's loop: keys as far as they can be read. -/
def lno : List UInt8 → Nat → List UInt8 → Option (List UInt8 × Nat)
  | b, i, [] => some (b, i)
  | b, i, c :: s => if c = 34 then some (b, i) else if c = 92 then
      (match s with
        | _ :: h :: l :: r => (match dg h, dg l with
          | some p, some q => lno (b ++ [UInt8.ofNat (16 * p + q)]) (i + 4) r
          | _, _ => none)
        | _ => none)
    else lno (b ++ [c]) (i + 1) s
theorem lno_cons (b : List UInt8) (i : Nat) (c : UInt8) (s : List UInt8) : lno b i (c :: s) = if c = 34 then some (b, i) else if c = 92 then
      (match s with
        | _ :: h :: l :: r => (match dg h, dg l with
          | some p, some q => lno (b ++ [UInt8.ofNat (16 * p + q)]) (i + 4) r
          | _, _ => none)
        | _ => none)
    else lno (b ++ [c]) (i + 1) s := by
  match s with
  | [] => rfl
  | [_] => rfl
  | [_, _] => rfl
  | _ :: _ :: _ :: _ => rfl
theorem lno_step (b : List UInt8) (i : Nat) (c : UInt8) (s : List UInt8) (h34 : c ≠ 34) (h92 : c ≠ 92) : lno b i (c :: s) = lno (b ++ [c]) (i + 1) s := by
  rw [lno_cons, if_neg h34, if_neg h92]
theorem lno_end (b : List UInt8) (i : Nat) (s : List UInt8) : lno b i (34 :: s) = some (b, i) := by
  rw [lno_cons, if_pos rfl]
theorem lno_esc (b : List UInt8) (i : Nat) (x h l : UInt8) (r : List UInt8) : lno b i (92 :: x :: h :: l :: r) = match dg h, dg l with
    | some p, some q => lno (b ++ [UInt8.ofNat (16 * p + q)]) (i + 4) r
    | _, _ => none := by
  rw [lno_cons, if_neg (by decide), if_pos rfl]
theorem lno_quote : ∀ (k b r : List UInt8) (i : Nat), lno b i (k.flatMap q1 ++ 34 :: r) = some (b ++ k, i + (k.flatMap q1).length)
  | [], b, r, i => by rw [List.flatMap_nil, List.nil_append, lno_end, List.append_nil]; rfl
  | c :: k, b, r, i => by
    rw [List.flatMap_cons, List.append_assoc]
    by_cases hp : plainC c = true
    · obtain ⟨h1, h2, h3⟩ := plain_of hp
      rw [show q1 c = [c] by unfold q1; rw [if_pos hp], List.singleton_append, lno_step _ _ _ _ h1 h2, lno_quote k, List.append_assoc, List.length_append, List.length_singleton, Nat.add_assoc]
      rfl
    · have h1 := dg_hex ⟨c.toNat / 16, by have := c.toNat_lt; omega⟩
      have h2 := dg_hex ⟨c.toNat % 16, by omega⟩
      simp only at h1 h2
      rw [show q1 c = [92, 120, hexB (c.toNat / 16), hexB (c.toNat % 16)] by unfold q1; rw [if_neg hp]]
      simp only [List.cons_append, List.nil_append]
      rw [lno_esc, h1, h2]
      simp only
      rw [byte_two, lno_quote k, List.append_assoc]
      simp only [List.length_cons, List.cons_append, List.nil_append]
      rw [show i + 4 + (k.flatMap q1).length = i + ((k.flatMap q1).length + 1 + 1 + 1 + 1) by omega]
/-- What the reference reads of a text: the key, and how many bytes that is. -/
def keyR (s : List UInt8) : Option (List UInt8 × Nat) := match s with
  | 34 :: s' => (match lno [] 1 s' with
    | some (b, i) => if s.length ≤ i ∨ quoteB b ≠ s.take (i + 1) then none else some (b, i + 1)
    | none => none)
  | _ => none
theorem keyR_iff (s k : List UInt8) (n : Nat) : keyR s = some (k, n) ↔ ∃ r, s = quoteB k ++ r ∧ n = (quoteB k).length := by
  constructor
  · intro h
    unfold keyR at h
    split at h
    · rename_i s'
      split at h
      · rename_i b i _
        split at h
        · cases h
        · rename_i hq
          rw [not_or] at hq
          obtain ⟨h1, h2⟩ := hq
          have h2 := Classical.not_not.1 h2
          injection h with h
          injection h with h3 h4
          subst h3 h4
          refine ⟨(34 :: s').drop (i + 1), by rw [h2, List.take_append_drop], ?_⟩
          rw [h2, List.length_take]
          omega
      · cases h
    · cases h
  · rintro ⟨r, rfl, rfl⟩
    have hl := lno_quote k [] r 1
    rw [List.nil_append] at hl
    have e : quoteB k ++ r = 34 :: (k.flatMap q1 ++ 34 :: r) := by simp [quoteB]
    have hlen : (quoteB k).length = (k.flatMap q1).length + 2 := by simp [quoteB]
    unfold keyR
    rw [e]
    simp only
    rw [hl]
    simp only
    rw [← e, if_neg, show 1 + (k.flatMap q1).length + 1 = (quoteB k).length by omega]
    rw [not_or]
    refine ⟨by rw [List.length_append]; omega, Classical.not_not.2 ?_⟩
    rw [show 1 + (k.flatMap q1).length + 1 = (quoteB k).length by omega, List.take_left]
end Go.Proofs.YtkjnbafdmjakgaaDoor
