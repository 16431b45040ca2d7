import Derived.Test.YtiehnigbcfkcdaaGreatDoorPN
import Derived.Test.YtiehnigbcfkcdaaGreatDoorQD
set_option linter.unusedSimpArgs false
set_option linter.unusedVariables false
namespace Go.Proofs.YtiehnigbcfkcdaaGreatDoor
open Go.RowKit Go.Sx
theorem rdB_all : ∀ z : Fin 256, rdB z.val = ((z.val % 128 : Nat) : Int) := by decide +kernel
theorem rdB_eq {b : Nat} (h : b < 256) : rdB b = ((b % 128 : Nat) : Int) := rdB_all ⟨b, h⟩
theorem ofInt_nat (n : Nat) (h : n < 18446744073709551616) : (BitVec.ofInt IntKind.u64.bits (n : Int)).toNat = n := by
  show (BitVec.ofInt 64 (n : Int)).toNat = n
  rw [BitVec.ofInt_natCast, BitVec.toNat_ofNat]
  exact Nat.mod_eq_of_lt h
theorem rdS_eq {b k : Nat} (hb : b < 256) (hk : k ≤ 8) : rdS b ((7 * k : Nat) : Int) = ((b % 128 * 2 ^ (7 * k) : Nat) : Int) := by
  unfold rdS
  rw [rdB_eq hb]
  have h1 : min ((7 * k : Nat) : Int).toNat IntKind.u64.bits = 7 * k := by
    show min ((7 * k : Nat) : Int).toNat 64 = 7 * k
    rw [Int.toNat_natCast]
    omega
  rw [h1]
  have h2 : (2 : Nat) ^ (7 * k) ≤ 2 ^ 56 := Nat.pow_le_pow_right (by omega) (by omega)
  have h3 : b % 128 * 2 ^ (7 * k) ≤ 127 * 2 ^ 56 := Nat.mul_le_mul (by omega) h2
  have h4 : (((b % 128 : Nat) : Int) * 2 ^ (7 * k)) = ((b % 128 * 2 ^ (7 * k) : Nat) : Int) := by push_cast; rfl
  rw [h4]
  exact wrapu (by omega) (by omega)
theorem rdX_eq {n b k : Nat} (hb : b < 256) (hk : k ≤ 8) (hn : n < 2 ^ (7 * k)) : rdX (n : Int) b ((7 * k : Nat) : Int) = ((n + b % 128 * 2 ^ (7 * k) : Nat) : Int) := by
  have h2 : (2 : Nat) ^ (7 * k) ≤ 2 ^ 56 := Nat.pow_le_pow_right (by omega) (by omega)
  have h3 : b % 128 * 2 ^ (7 * k) ≤ 127 * 2 ^ 56 := Nat.mul_le_mul (by omega) h2
  unfold rdX
  rw [rdS_eq hb hk, BitVec.toNat_or, ofInt_nat n (by omega), ofInt_nat _ (by omega)]
  have h4 := Nat.two_pow_add_eq_or_of_lt hn (b % 128)
  have h5 : n ||| b % 128 * 2 ^ (7 * k) = n + b % 128 * 2 ^ (7 * k) := by
    rw [Nat.or_comm, Nat.mul_comm (b % 128), ← h4, Nat.add_comm]
  rw [h5]
  exact wrapu (by omega) (by omega)

theorem pow7_succ (k : Nat) : 2 ^ (7 * (k + 1)) = 128 * 2 ^ (7 * k) := by
  rw [show 7 * (k + 1) = 7 + 7 * k by omega, Nat.pow_add]
theorem rd_one {x k n : Nat} {at' : Int} {rest : List Nat} (hx : x < 128) (hk : k ≤ 7) (hn : n < 2 ^ (7 * k)) (h0 : k = 0 ∨ 0 < x) :
    rd (leb x ++ rest) at' (n : Int) ((7 * k : Nat) : Int) = (0, ((n + x * 2 ^ (7 * k) : Nat) : Int), at' + ((leb x).length : Int)) := by
  rw [leb_small hx]
  simp only [List.singleton_append, rd, List.length_singleton]
  have e1 : ((((7 * k : Nat) : Int) == 63) && ((x : Int) != 1)) = false := by
    rw [Bool.and_eq_false_iff]
    left
    rw [beq_eq_false_iff_ne]
    omega
  have e2 : decide ((x : Int) > 127) = false := by rw [decide_eq_false_iff_not]; omega
  have e3 : (((x : Int) == 0) && decide (((7 * k : Nat) : Int) > 0)) = false := by
    rw [Bool.and_eq_false_iff, beq_eq_false_iff_ne, decide_eq_false_iff_not]
    omega
  rw [e1, cond_false, e2, cond_false, e3, cond_false, rdX_eq (by omega) (by omega) hn, Nat.mod_eq_of_lt hx]
  rfl
theorem rd_leb : ∀ (f x k n : Nat) (at' : Int) (rest : List Nat), x < 128 ^ (f + 1) → k + f ≤ 7 → n < 2 ^ (7 * k) → (k = 0 ∨ 0 < x) →
    rd (leb x ++ rest) at' (n : Int) ((7 * k : Nat) : Int) = (0, ((n + x * 2 ^ (7 * k) : Nat) : Int), at' + ((leb x).length : Int))
  | 0, x, k, n, at', rest, hx, hk, hn, h0 => rd_one (by simpa using hx) (by omega) hn h0
  | f + 1, x, k, n, at', rest, hx, hk, hn, h0 => by
    by_cases hs : x < 128
    · exact rd_one hs (by omega) hn h0
    · rw [leb_big hs]
      simp only [List.cons_append, rd, List.length_cons]
      have e1 : ((((7 * k : Nat) : Int) == 63) && (((x % 128 + 128 : Nat) : Int) != 1)) = false := by
        rw [Bool.and_eq_false_iff]
        left
        rw [beq_eq_false_iff_ne]
        omega
      have e2 : decide (((x % 128 + 128 : Nat) : Int) > 127) = true := by rw [decide_eq_true_eq]; omega
      have e4 : (x % 128 + 128) % 128 = x % 128 := by omega
      have hm : x % 128 * 2 ^ (7 * k) ≤ 127 * 2 ^ (7 * k) := Nat.mul_le_mul_right _ (by omega)
      have hp := pow7_succ k
      have hlt : n + x % 128 * 2 ^ (7 * k) < 2 ^ (7 * (k + 1)) := by omega
      rw [e1, cond_false, e2, cond_true, rdX_eq (by omega) (by omega) hn, e4]
      have hi := rd_leb f (x / 128) (k + 1) (n + x % 128 * 2 ^ (7 * k)) (at' + 1) rest (by rw [Nat.div_lt_iff_lt_mul (by omega), ← Nat.pow_succ]; exact hx) (by omega) hlt (by omega)
      have e5 : ((7 * (k + 1) : Nat) : Int) = ((7 * k : Nat) : Int) + 7 := by omega
      rw [e5] at hi
      rw [hi, hp]
      have e6 : n + x % 128 * 2 ^ (7 * k) + x / 128 * (128 * 2 ^ (7 * k)) = n + x * 2 ^ (7 * k) := by
        have e7 : x = x % 128 + x / 128 * 128 := by omega
        have e8 : x % 128 * 2 ^ (7 * k) + x / 128 * (128 * 2 ^ (7 * k)) = x * 2 ^ (7 * k) := by
          rw [← Nat.mul_assoc, ← Nat.add_mul, ← e7]
        rw [Nat.add_assoc, e8]
      have e9 : at' + 1 + ((leb (x / 128)).length : Int) = at' + (((leb (x / 128)).length + 1 : Nat) : Int) := by omega
      rw [e6, e9]
theorem rd_leb0 {x : Int} (h0 : 0 ≤ x) (h1 : x ≤ 1099511627776) (at' : Int) (rest : List Nat) : rd (leb x.toNat ++ rest) at' 0 0 = (0, x, at' + ((leb x.toNat).length : Int)) := by
  have h2 : x.toNat < 128 ^ (5 + 1) := by
    have : (128 : Nat) ^ (5 + 1) = 4398046511104 := by decide
    omega
  have h := rd_leb 5 x.toNat 0 0 at' rest h2 (by decide) (by decide) (.inl rfl)
  rw [Nat.mul_zero, Nat.pow_zero, Nat.mul_one, Nat.zero_add, Int.toNat_of_nonneg h0] at h
  exact h
theorem nums_one {x : Int} (h0 : 0 ≤ x) (h1 : x ≤ 1099511627776) (l : List Int) : nums (x :: l) = leb x.toNat ++ nums l := by
  simp only [nums, List.flatMap_cons, wrapu h0 (by omega)]
theorem readL_nums : ∀ (l : List Int) (pre more : List Nat), (∀ x ∈ l, 0 ≤ x ∧ x ≤ 1099511627776) → readL l.length (pre ++ (nums l ++ more)) (pre.length : Int) = some (l, ((pre.length + (nums l).length : Nat) : Int))
  | [], pre, more, _ => by simp [readL, nums]
  | x :: l, pre, more, h => by
    obtain ⟨h0, h1⟩ := h x (by simp)
    have hd := rd_leb0 h0 h1 (pre.length : Int) (nums l ++ more)
    have e := nums_one h0 h1 l
    have hdrop : (pre ++ (nums (x :: l) ++ more)).drop ((pre.length : Int)).toNat = leb x.toNat ++ (nums l ++ more) := by
      rw [Int.toNat_natCast, List.drop_left, e, List.append_assoc]
    rw [← hdrop] at hd
    rw [List.length_cons, readL_s hd h1]
    have hi := readL_nums l (pre ++ leb x.toNat) more fun y hy => h y (by simp [hy])
    rw [List.append_assoc, ← List.append_assoc (leb x.toNat), ← e, List.length_append, Int.natCast_add] at hi
    rw [hi, e, List.length_append, Nat.add_assoc, wrap63 h0 (by omega)]
    rfl

section
variable {g s k sz sl of gp lt ea : Int}
theorem read_back (hw : wrongR g s k sz sl of gp lt ea = 0) (d : Bool) (more : List Nat) :
    readV (readL 10 (nums [g, s, k, sz, sl, of, gp, lt, ea, (bif d then 1 else 0)] ++ more) 0) = .tuple #[.agg #[.int .i64 g, .int .i64 s, .int .i64 k, .int .i64 sz, .int .i64 sl, .int .i64 of, .int .i64 gp, .int .i64 lt, .int .i64 ea, .bool d],
      .int .i64 ((nums [g, s, k, sz, sl, of, gp, lt, ea, (bif d then 1 else 0)]).length : Int), .int .i64 0] := by
  obtain ⟨hv0, hv1, hv2, hv3, hv4, hv5, hv6, hv7, hv8⟩ := valid_of hw
  have hd : 0 ≤ (bif d then (1 : Int) else 0) ∧ (bif d then (1 : Int) else 0) ≤ 1099511627776 := by cases d <;> decide
  have h := readL_nums [g, s, k, sz, sl, of, gp, lt, ea, (bif d then 1 else 0)] [] more (by
    simp only [List.forall_mem_cons]
    exact ⟨by omega, by omega, by omega, by omega, by omega, by omega, by omega, by omega, by omega, hd, by simp⟩)
  rw [List.nil_append] at h
  simp only [List.length_cons, List.length_nil, Nat.zero_add] at h
  rw [show (((0 : Nat) : Int)) = 0 from rfl] at h
  rw [h]
  simp only [readV]
  rw [jobE_zero, wrong_eq, hw]
  cases d <;> rfl
theorem parse_back (hw : wrongR g s k sz sl of gp lt ea = 0) (d : Bool) :
    kitP (mkB (textW g s k sz sl of gp lt ea d)) (pcs [] (mkB (textW g s k sz sl of gp lt ea d)).data.toList) = .tuple #[.agg #[.int .i64 g, .int .i64 s, .int .i64 k, .int .i64 sz, .int .i64 sl, .int .i64 of, .int .i64 gp, .int .i64 lt, .int .i64 ea, .bool d], .int .i64 0] := by
  obtain ⟨p0, p1, p2, p3, p4, p5, p6, p7, p8, p9, p10, p11, p12, p13, p14, p15, p16, p17, p18, p19, hps⟩ : ∃ p0 p1 p2 p3 p4 p5 p6 p7 p8 p9 p10 p11 p12 p13 p14 p15 p16 p17 p18 p19, pcs [] (textW g s k sz sl of gp lt ea d) = [p0, p1, p2, p3, p4, p5, p6, p7, p8, p9, p10, p11, p12, p13, p14, p15, p16, p17, p18, p19] := ⟨_, _, _, _, _, _, _, _, _, _, _, _, _, _, _, _, _, _, _, _, pcs_text hw d⟩
  obtain ⟨h1, h2, h3, h4, h5, h6, h7, h8, h9, h10⟩ := kit_fix hps hw rfl
  show kitP _ (pcs [] (textW g s k sz sl of gp lt ea d)) = _
  rw [hps]
  simp only [kitP]
  rw [h1, h2, h3, h4, h5, h6, h7, h8, h9, kitA_ok hw (by rw [h10]; rfl), h10]
end

end Go.Proofs.YtiehnigbcfkcdaaGreatDoor
