import Derived.Test.YtiehnigbcfkcdaaGreatDoorShelf
import Derived.Lib.ParseIntBCases
import Derived.Lib.SplitLaws
import Derived.Test.YtiehnigbcfkcdaaGreatDoorE
set_option linter.unusedSimpArgs false
set_option linter.unusedVariables false
namespace Go.Proofs.YtiehnigbcfkcdaaGreatDoor
open Go.Lib
/-- The pieces between blanks. -/
def pcs : List UInt8 → List UInt8 → List (List UInt8)
  | cur, [] => [cur]
  | cur, b :: r => if b = 32 then cur :: pcs [] r else pcs (cur ++ [b]) r
theorem pcs_app : ∀ (p r cur : List UInt8), (∀ b ∈ p, b ≠ 32) → pcs cur (p ++ r) = pcs (cur ++ p) r
  | [], r, cur, _ => by simp
  | b :: p, r, cur, h => by
    rw [List.cons_append, pcs, if_neg (h b (by simp)), pcs_app p r (cur ++ [b]) (fun c hc => h c (by simp [hc])), List.append_assoc]
    rfl
theorem pcs_none (p : List UInt8) (h : ∀ b ∈ p, b ≠ 32) : pcs [] p = [p] := by
  have := pcs_app p [] [] h
  rw [List.append_nil, List.nil_append] at this
  rw [this]
  rfl
theorem pcs_hit (p r : List UInt8) (h : ∀ b ∈ p, b ≠ 32) : pcs [] (p ++ 32 :: r) = p :: pcs [] r := by
  rw [pcs_app p _ [] h, List.nil_append, pcs, if_pos rfl]
theorem pcs_join : ∀ (ws : List (List UInt8)) (w : List UInt8), (∀ p ∈ w :: ws, ∀ b ∈ p, b ≠ 32) → pcs [] (Lib.join (w :: ws) [32]) = w :: ws
  | [], w, h => by
    rw [join_one]
    exact pcs_none w (h w (by simp))
  | v :: ws, w, h => by
    have ih := pcs_join ws v (fun p hp => h p (by simp [List.mem_cons.1 hp]))
    rw [join_cons] at ih ⊢
    simp only [joinTail, List.map_cons, List.flatten_cons, List.append_assoc, List.cons_append, List.nil_append] at ih ⊢
    rw [pcs_hit w _ (h w (by simp)), ih]
theorem idx_none : ∀ (l : List UInt8), Lib.index l [32] = -1 → ∀ b ∈ l, b ≠ 32
  | [], _, b, hb => by cases hb
  | c :: l, h, b, hb => by
    unfold Lib.index at h
    by_cases hc : (32 : UInt8) = c
    · simp [hc] at h
    · have hp : List.isPrefixOf [32] (c :: l) = false := by simp [List.isPrefixOf, hc]
      rw [if_neg (by simp [hp])] at h
      by_cases h1 : Lib.index l [32] = -1
      · rcases List.mem_cons.1 hb with rfl | hb
        · exact fun e => hc e.symm
        · exact idx_none l h1 b hb
      · have := index_ge l [32]
        rw [if_neg (by simp [h1])] at h
        omega
theorem idx_some : ∀ (l : List UInt8) (i : Nat), Lib.index l [32] = (i : Int) → ∃ p r, l = p ++ 32 :: r ∧ p.length = i ∧ ∀ b ∈ p, b ≠ 32
  | [], i, h => by
    simp only [Lib.index] at h
    exact absurd h (by simp)
  | c :: l, i, h => by
    unfold Lib.index at h
    by_cases hc : (32 : UInt8) = c
    · subst hc
      have hp : List.isPrefixOf [32] ((32 : UInt8) :: l) = true := by simp [List.isPrefixOf]
      rw [if_pos hp] at h
      exact ⟨[], l, rfl, by simp; omega, by simp⟩
    · have hp : List.isPrefixOf [32] (c :: l) = false := by simp [List.isPrefixOf, hc]
      rw [if_neg (by simp [hp])] at h
      by_cases h1 : Lib.index l [32] = -1
      · rw [if_pos (by simp [h1])] at h
        omega
      · have hg := index_ge l [32]
        rw [if_neg (by simp [h1])] at h
        obtain ⟨p, r, e, hl, hb⟩ := idx_some l (i - 1) (by omega)
        refine ⟨c :: p, r, by rw [e]; rfl, by simp; omega, fun b hbm => ?_⟩
        rcases List.mem_cons.1 hbm with rfl | hbm
        · exact fun e => hc e.symm
        · exact hb b hbm
theorem parse_dec (M : Nat) : ∀ (m u : Nat) (r : List UInt8), u ≤ m → u ≤ M → u < 1000000000000000000 → parseUintM M 0 (decDigits u ++ r) = parseUintM M u r
  | m, u, r, hm, hM, hb => by
    by_cases h : u < 10
    · rw [decDigits_one h, List.singleton_append]
      have hc : (UInt8.ofNat (48 + u)).toNat = 48 + u := by simp [UInt8.toNat_ofNat']; omega
      rw [parseUintM, hc, if_pos (by omega), if_neg (by omega), if_neg (by omega), Nat.zero_mul, Nat.zero_add, show 48 + u - 48 = u by omega]
    · match m with
      | 0 => omega
      | m + 1 =>
        rw [decDigits, dif_neg h, List.append_assoc, parse_dec M m (u / 10) _ (by omega) (by omega) (by omega), List.singleton_append]
        have hc : (UInt8.ofNat (48 + u % 10)).toNat = 48 + u % 10 := by simp [UInt8.toNat_ofNat']; omega
        rw [parseUintM, hc, if_pos (by omega), if_neg (by omega), if_neg (by omega), show u / 10 * 10 + (48 + u % 10 - 48) = u by omega]
theorem dec_first (u : Nat) : ∃ c r, decDigits u = c :: r ∧ c.toNat ≠ 43 ∧ c.toNat ≠ 45 := by
  induction u using Nat.strongRecOn with
  | _ u ih =>
    by_cases h : u < 10
    · rw [decDigits_one h]
      exact ⟨_, [], rfl, by simp [UInt8.toNat_ofNat']; omega, by simp [UInt8.toNat_ofNat']; omega⟩
    · obtain ⟨c, r, e, h1, h2⟩ := ih (u / 10) (by omega)
      rw [decDigits, dif_neg h, e]
      exact ⟨c, _, rfl, h1, h2⟩
theorem parse_itoa {n : Int} (h0 : 0 ≤ n) (h1 : n < 1000000000000000000) : parseIntB 64 (itoa n) = .ok n := by
  unfold itoa
  rw [if_neg (by omega)]
  obtain ⟨c, r, e, h43, h45⟩ := dec_first n.toNat
  have hp : parseUintB 64 (decDigits n.toNat) = .ok n.toNat := by
    unfold parseUintB
    rw [if_neg (by rw [e]; simp)]
    have := parse_dec (2 ^ 64 - 1) n.toNat n.toNat [] (Nat.le_refl _) (by omega) (by omega)
    rw [List.append_nil] at this
    rw [this]
    rfl
  rw [e] at hp ⊢
  rw [parseIntB_plain 64 c r h43 h45, hp]
  unfold signlessC
  simp only
  rw [if_neg (by omega), Int.toNat_of_nonneg h0]
/-- The reference's digits. -/
def digGo : Nat → Int → List UInt8 → Int
  | _, x, [] => x
  | i, x, b :: r => if b.toNat < 48 then 0 else if 57 < b.toNat then 0 else if 17 < i then 0 else digGo (i + 1) (IntKind.i64.wrap (IntKind.i64.wrap (10 * x) + ((b.toNat - 48 : Nat) : Int))) r
theorem split_pcs : ∀ (m : Nat) (l : List UInt8), l.length ≤ m → splitK [32] 0 (Lib.count l [32]) l = pcs [] l
  | m, l, hm => by
    rcases Int.lt_or_le (Lib.index l [32]) 0 with h | h
    · have h1 : Lib.index l [32] = -1 := by have := index_ge l [32]; omega
      rw [count_miss h1]
      exact (pcs_none l (idx_none l h1)).symm
    · obtain ⟨i, hi⟩ : ∃ i : Nat, Lib.index l [32] = i := ⟨_, (Int.toNat_of_nonneg h).symm⟩
      obtain ⟨p, r, e, hl, hb⟩ := idx_some l i hi
      rw [count_hit (by simp) hi, Nat.add_comm, splitK, if_neg (by simp [hi]), hi, Int.toNat_natCast]
      subst hl
      have hd : l.drop (p.length + [(32 : UInt8)].length) = r := by
        rw [e, List.length_singleton, show p ++ 32 :: r = (p ++ [32]) ++ r by simp]
        exact List.drop_left' (by simp)
      have ht : l.take (p.length + 0) = p := by rw [e, Nat.add_zero, List.take_left]
      rw [hd, ht]
      match m with
      | 0 => rw [e] at hm; simp at hm
      | m + 1 =>
        rw [split_pcs m r (by rw [e] at hm; simp at hm; omega)]
        rw [e]
        exact (pcs_hit p r hb).symm
theorem dig_dec : ∀ (m u : Nat) (r : List UInt8), u ≤ m → nDigits u ≤ 18 → digGo 0 0 (decDigits u ++ r) = digGo (nDigits u) (u : Int) r
  | m, u, r, hm, hn => by
    by_cases h : u < 10
    · rw [decDigits_one h, List.singleton_append, nDigits_small h]
      have hc : (UInt8.ofNat (48 + u)).toNat = 48 + u := by simp [UInt8.toNat_ofNat']; omega
      rw [digGo, hc, if_neg (by omega), if_neg (by omega), if_neg (by omega)]
      have hw : IntKind.i64.wrap (IntKind.i64.wrap (10 * 0) + ((48 + u - 48 : Nat) : Int)) = (u : Int) := by
        rw [show (10 : Int) * 0 = 0 from rfl, show IntKind.i64.wrap 0 = 0 from by decide]
        rw [wrap63 (by omega) (by omega)]
        omega
      rw [hw]
    · match m with
      | 0 => omega
      | m + 1 =>
        have hd : nDigits u = nDigits (u / 10) + 1 := by rw [nDigits, dif_neg h]
        rw [decDigits, dif_neg h, List.append_assoc, dig_dec m (u / 10) _ (by omega) (by omega), List.singleton_append]
        have hc : (UInt8.ofNat (48 + u % 10)).toNat = 48 + u % 10 := by simp [UInt8.toNat_ofNat']; omega
        have hu : u < 10 ^ 18 := Nat.lt_of_lt_of_le (lt_pow_nDigits u) (Nat.pow_le_pow_right (by omega) hn)
        rw [digGo, hc, if_neg (by omega), if_neg (by omega), if_neg (by omega), hd]
        have hw : IntKind.i64.wrap (IntKind.i64.wrap (10 * ((u / 10 : Nat) : Int)) + ((48 + u % 10 - 48 : Nat) : Int)) = (u : Int) := by
          rw [wrap63 (x := 10 * ((u / 10 : Nat) : Int)) (by omega) (by omega), wrap63 (by omega) (by omega)]
          omega
        rw [hw]
theorem small_digits : ∀ (k u : Nat), u < 10 ^ (k + 1) → nDigits u ≤ k + 1
  | 0, u, h => by
    rw [nDigits_small (by omega)]
    exact Nat.le_refl _
  | k + 1, u, h => by
    by_cases h9 : u < 10
    · rw [nDigits_small h9]
      omega
    · rw [nDigits_big h9]
      have := small_digits k (u / 10) (by rw [Nat.pow_succ] at h; omega)
      omega
theorem dig_itoa {n : Int} (h0 : 0 ≤ n) (h1 : n < 1000000000000000000) : digGo 0 0 (itoa n) = n := by
  unfold itoa
  rw [if_neg (by omega)]
  have hd := small_digits 17 n.toNat (by omega)
  have := dig_dec n.toNat n.toNat [] (Nat.le_refl _) hd
  rw [List.append_nil] at this
  rw [this]
  show ((n.toNat : Nat) : Int) = n
  omega
theorem dec_plain (u : Nat) : ∀ b ∈ decDigits u, b ≠ 32 := by
  induction u using Nat.strongRecOn with
  | _ u ih =>
    intro b hb
    by_cases h : u < 10
    · rw [decDigits_one h] at hb
      simp only [List.mem_singleton] at hb
      subst hb
      intro e
      have := congrArg UInt8.toNat e
      simp [UInt8.toNat_ofNat'] at this
      omega
    · rw [decDigits, dif_neg h, List.mem_append] at hb
      rcases hb with hb | hb
      · exact ih (u / 10) (by omega) b hb
      · simp only [List.mem_singleton] at hb
        subst hb
        intro e
        have := congrArg UInt8.toNat e
        simp [UInt8.toNat_ofNat'] at this
        omega
theorem itoa_plain {n : Int} (h0 : 0 ≤ n) : ∀ b ∈ itoa n, b ≠ 32 := by
  unfold itoa
  rw [if_neg (by omega)]
  exact dec_plain _
end Go.Proofs.YtiehnigbcfkcdaaGreatDoor
