/- Joined texts: SB, KN, LL, IT, SE, BK, AK. -/
import Derived.Test.YthfpekhpeiebjaaGreatDoorMAP
set_option linter.unusedSimpArgs false
set_option linter.unusedVariables false
namespace Go.Sx
open Go
def zAQ0 : List SV := [.v (.int .i64 2), .v (.int .i64 0), .v (.string (ByteArray.mk #[])), .v (.int .i64 0), .v (.int .i64 0), .v (.int .i64 0), .v (.int .i64 1), .v (.int .i64 0), .v (.int .i64 0), .v (.int IntKind.u32 0), .v (.int .i64 1), .v (.int .i64 1), .v (.string (ByteArray.mk #[97])), .v (.int .i64 5), .v (.int .i64 (-1)), .v (.int .i64 0), .v (.int .i64 0), .v (.int .i64 0), .v (.int .i64 0), .v (.int IntKind.u32 0)]
def zAQ1 : List SV := [.v (.int .i64 4), .v (.int .i64 2), .v (.int .i64 1), .v (.int .i64 10), .v (.int .i64 0), .v (.int .i64 0), .v (.int .i64 0), .v (.int .i64 0), .v (.int .i64 0), .v (.bool false)]
def pAQ2 : List Nat := [1, 1, 0, 1, 4, 4, 1, 1, 1]
def pAQ3 : List Nat := [1, 1, 1]
end Go.Sx
section
/- Plain: what is written is read. -/
namespace Go.Proofs.YthfpekhpeiebjaaGreatDoor
open Go.RowKit Go.Sx Go.Lib
theorem dec_in : ∀ (u : Nat) (b : UInt8), b ∈ Lib.decDigits u → 48 ≤ b.toNat ∧ b.toNat ≤ 57 := by
 intro u
 induction u using Nat.strongRecOn with
 | _ u ih =>
  intro b hb
  by_cases h : u < 10
  ·rw [Lib.decDigits_one h, List.mem_singleton] at hb
   rw [hb, chr u h]
   omega
  rw [Lib.decDigits, dif_neg h] at hb
  rcases List.mem_append.1 hb with hb | hb
  ·exact ih (u / 10) (by omega) b hb
  rw [List.mem_singleton.1 hb, chr (u % 10) (by omega)]
  omega
theorem itoa_in (n : Int) (b : UInt8) (hb : b ∈ Lib.itoa n) : 45 ≤ b.toNat ∧ b.toNat ≤ 57 := by
 unfold Lib.itoa at hb
 split at hb
 ·rcases List.mem_cons.1 hb with rfl | hb
  ·decide
  have := dec_in _ b hb
  omega
 have := dec_in _ b hb
 omega
theorem itoa_no (n : Int) (x : UInt8) (hx : x.toNat < 45) : ∀ b ∈ Lib.itoa n, b ≠ x := fun b hb e => by
 have := itoa_in n b hb
 rw [e] at this
 omega
theorem q1_no10 (c : UInt8) : ∀ b ∈ q1 c, b ≠ 10 := by
 intro b hb e
 subst e
 unfold q1 at hb
 split at hb
 ·rename_i h
  rw [List.mem_singleton] at hb
  subst hb
  exact absurd h (by decide)
 have hx : ∀ n, n < 16 → hexB n ≠ 10 := by decide
 simp only [List.mem_cons, List.not_mem_nil, or_false] at hb
 rcases hb with hb | hb | hb | hb
 ·exact absurd hb (by decide)
 ·exact absurd hb (by decide)
 ·exact hx (c.toNat / 16) (by have := c.toNat_lt; omega) hb.symm
 exact hx (c.toNat % 16) (by omega) hb.symm
theorem quote_no10 (k : List UInt8) : ∀ b ∈ quoteB k, b ≠ 10 := by
 intro b hb e
 subst e
 simp only [quoteB, List.mem_cons, List.mem_append, List.mem_flatMap, List.not_mem_nil, or_false] at hb
 rcases hb with hb | ⟨c, _, hc⟩ | hb
 ·exact absurd hb (by decide)
 ·exact q1_no10 c 10 hc rfl
 exact absurd hb (by decide)
theorem cutN_app : ∀ (p r : List UInt8), (∀ b ∈ p, b ≠ 10) → cutN (p ++ r) = (p ++ (cutN r).1, (cutN r).2.1, (cutN r).2.2)
 | [], r, _ => rfl
 | b :: p, r, h => by
  rw [List.cons_append, cutN, if_neg (h b (by simp)), cutN_app p r (fun c hc => h c (by simp [hc]))]
  rfl
theorem cutN_hit (p r : List UInt8) (h : ∀ b ∈ p, b ≠ 10) : cutN (p ++ 10 :: r) = (p, r, true) := by
 rw [cutN_app p _ h]
 simp [cutN]
theorem textW_no10 {g s k sz sl of gp lt ea : Int} (hw : wrongR g s k sz sl of gp lt ea = 0) (d : Bool) : ∀ b ∈ textW g s k sz sl of gp lt ea d, b ≠ 10 := by
 obtain ⟨hv0, hv1, hv2, _⟩ := valid_of hw
 have key : ∀ l : List (List UInt8), (∀ x ∈ l, ∀ b ∈ x, b ≠ 10) → ∀ b ∈ Lib.joinTail [32] l, b ≠ 10 := by
  intro l h b hb
  unfold Lib.joinTail at hb
  obtain ⟨y, hy, hby⟩ := List.mem_flatten.1 hb
  obtain ⟨x, hx, rfl⟩ := List.mem_map.1 hy
  rcases List.mem_append.1 hby with hb | hb
  ·rw [List.mem_singleton.1 hb]; decide
  exact h x hx b hb
 have hk : ∀ b ∈ kindW k, b ≠ 10 := by rcases hv2 with h | h | h <;> subst h <;> decide
 have hs : ∀ b ∈ saysW d, b ≠ 10 := by cases d <;> decide
 have hi : ∀ n : Int, ∀ b ∈ Lib.itoa n, b ≠ 10 := fun n => itoa_no n 10 (by decide)
 have hall : ∀ x ∈ weaveL wordsW (valsL g s k sz sl of gp lt ea d), ∀ b ∈ x, b ≠ 10 := by
  intro x hx
  simp only [weaveL, wordsW, valsL, List.mem_cons, List.not_mem_nil, or_false] at hx
  rcases hx with rfl | rfl | rfl | rfl | rfl | rfl | rfl | rfl | rfl | rfl | rfl | rfl | rfl | rfl | rfl | rfl | rfl | rfl | rfl | rfl
  all_goals first | exact hi _ | exact hk | exact hs | decide
 have e : weaveL wordsW (valsL g s k sz sl of gp lt ea d) = [103, 114, 111, 117, 112, 115] :: (weaveL wordsW (valsL g s k sz sl of gp lt ea d)).tail := rfl
 unfold textW
 rw [e, Lib.join_cons]
 intro b hb
 rcases List.mem_append.1 hb with hb | hb
 ·exact hall _ (by rw [e]; simp) b hb
 exact key _ (fun x hx => hall x (by rw [e]; exact List.mem_cons_of_mem _ hx)) b hb
theorem lineS_no10 (x : St) : ∀ b ∈ lineS x, b ≠ 10 := by
 obtain ⟨kd, ik, key, ti, v, src, wk, wks, bit, mask⟩ := x
 have hi : ∀ n : Int, ∀ b ∈ Lib.itoa n, b ≠ 10 := fun n => itoa_no n 10 (by decide)
 have hq := quote_no10 key
 intro b hb
 have app : ∀ {l r : List UInt8}, (∀ b ∈ l, b ≠ 10) → (∀ b ∈ r, b ≠ 10) → ∀ b ∈ l ++ r, b ≠ 10 := fun h1 h2 b hb => (List.mem_append.1 hb).elim (h1 b) (h2 b)
 revert b hb
 unfold lineS
 simp only
 split
 ·split
  ·exact app (app (app (app (app (by decide) hq) (by decide)) (hi _)) (by decide)) (hi _)
  split
  ·exact app (app (app (by decide) (hi _)) (by decide)) (hi _)
  decide
 split
 ·exact app (by decide) (hi _)
 split
 ·exact app (by decide) (hi _)
 split
 ·exact app (app (app (by decide) (hi _)) (by decide)) (hi _)
 decide
theorem num_itoa {n : Int} (h : in64 n) : numK (Lib.itoa n) = some n := (numK_iff _ _).2 ⟨rfl, h⟩
theorem nums1_itoa {n : Int} (h : in64 n) : numsP (Lib.itoa n) 1 = some [n] := by
 unfold numsP
 rw [pcs_none _ (itoa_no n 32 (by decide))]
 simp [num_itoa h]
theorem nums2_itoa {a b : Int} (h : in64 a) (k : in64 b) : numsP (Lib.itoa a ++ 32 :: Lib.itoa b) 2 = some [a, b] := by
 unfold numsP
 rw [pcs_hit _ _ (itoa_no a 32 (by decide)), pcs_none _ (itoa_no b 32 (by decide))]
 simp [num_itoa h, num_itoa k]
theorem cutB_hit : ∀ (p r : List UInt8), (∀ b ∈ p, b ≠ 32) → cutB (p ++ 32 :: r) = (p, r, true)
 | [], r, _ => rfl
 | c :: p, r, h => by
  have hc : c ≠ 32 := h c (by simp)
  rw [List.cons_append]
  unfold cutB
  rw [if_neg hc, cutB_hit p r (fun b hb => h b (by simp [hb]))]
theorem step_ev {key : List UInt8} {t v : Int} (ht : in64 t) (hv : in64 v) : stepP ([101, 118, 101, 110, 116, 32] ++ quoteB key ++ [32] ++ Lib.itoa t ++ [32] ++ Lib.itoa v) = some (ev key t v) := by
 have hc : cutB ([101, 118, 101, 110, 116, 32] ++ quoteB key ++ [32] ++ Lib.itoa t ++ [32] ++ Lib.itoa v) = ([101, 118, 101, 110, 116], quoteB key ++ (32 :: (Lib.itoa t ++ 32 :: Lib.itoa v)), true) := by
  rw [show [101, 118, 101, 110, 116, 32] ++ quoteB key ++ [32] ++ Lib.itoa t ++ [32] ++ Lib.itoa v = [101, 118, 101, 110, 116] ++ 32 :: (quoteB key ++ (32 :: (Lib.itoa t ++ 32 :: Lib.itoa v))) from by simp]
  exact cutB_hit _ _ (by decide)
 have hk : keyK (quoteB key ++ (32 :: (Lib.itoa t ++ 32 :: Lib.itoa v))) = some (key, 32 :: (Lib.itoa t ++ 32 :: Lib.itoa v)) := (keyK_iff _ _ _).2 rfl
 unfold stepP
 rw [hc]
 simp [hk, nums2_itoa ht hv]
theorem step_mk {src t : Int} (hs : in64 src) (ht : in64 t) : stepP ([109, 97, 114, 107, 32] ++ Lib.itoa src ++ [32] ++ Lib.itoa t) = some (mk src t) := by
 have hc : cutB ([109, 97, 114, 107, 32] ++ Lib.itoa src ++ [32] ++ Lib.itoa t) = ([109, 97, 114, 107], Lib.itoa src ++ 32 :: Lib.itoa t, true) := by
  rw [show [109, 97, 114, 107, 32] ++ Lib.itoa src ++ [32] ++ Lib.itoa t = [109, 97, 114, 107] ++ 32 :: (Lib.itoa src ++ 32 :: Lib.itoa t) from by simp]
  exact cutB_hit _ _ (by decide)
 unfold stepP
 rw [hc]
 simp [nums2_itoa hs ht]
theorem step_pk {n : Int} (hn : in64 n) : stepP ([112, 105, 99, 107, 32] ++ Lib.itoa n) = some (pk n) := by
 have hc : cutB ([112, 105, 99, 107, 32] ++ Lib.itoa n) = ([112, 105, 99, 107], Lib.itoa n, true) := cutB_hit [112, 105, 99, 107] _ (by decide)
 unfold stepP
 rw [hc]
 simp [nums1_itoa hn]
theorem step_rs {n : Int} (hn : in64 n) : stepP ([114, 101, 115, 116, 111, 114, 101, 32] ++ Lib.itoa n) = some (rs n) := by
 have hc : cutB ([114, 101, 115, 116, 111, 114, 101, 32] ++ Lib.itoa n) = ([114, 101, 115, 116, 111, 114, 101], Lib.itoa n, true) := cutB_hit [114, 101, 115, 116, 111, 114, 101] _ (by decide)
 unfold stepP
 rw [hc]
 simp [nums1_itoa hn]
theorem step_sp {n m : Int} (hn : in64 n) (hm : 0 ≤ m ∧ m < 4294967296) : stepP ([115, 112, 111, 105, 108, 32] ++ Lib.itoa n ++ [32] ++ Lib.itoa m) = some (sp n m) := by
 have hc : cutB ([115, 112, 111, 105, 108, 32] ++ Lib.itoa n ++ [32] ++ Lib.itoa m) = ([115, 112, 111, 105, 108], Lib.itoa n ++ 32 :: Lib.itoa m, true) := by
  rw [show [115, 112, 111, 105, 108, 32] ++ Lib.itoa n ++ [32] ++ Lib.itoa m = [115, 112, 111, 105, 108] ++ 32 :: (Lib.itoa n ++ 32 :: Lib.itoa m) from by simp]
  exact cutB_hit _ _ (by decide)
 unfold stepP
 rw [hc]
 simp [nums2_itoa hn (show in64 m from ⟨by omega, by omega⟩), hm]
theorem step_line {c : Cf} {x : St} (hm : mayB c x = true) (ho : x.ok) : stepP (lineS x) = some x := by
 obtain ⟨kd, ik, key, ti, v, src, wk, wks, bit, mask⟩ := x
 obtain ⟨i0, i1, i2, i3, i4, i5, i6⟩ := ho
 simp only at i0 i1 i2 i3 i4 i5 i6
 unfold lineS
 dsimp only
 by_cases h1 : kd = 1
 ·subst h1
  rw [mayB_1 rfl] at hm
  simp only [Bool.and_eq_true, beq_iff_eq] at hm
  obtain ⟨rfl, rfl, rfl, rfl, hi⟩ := hm
  unfold itB at hi
  rw [if_pos rfl]
  split at hi
  ·rename_i h
   subst h
   simp only [Bool.and_eq_true, decide_eq_true_eq, beq_iff_eq] at hi
   obtain ⟨_, _, rfl⟩ := hi
   rw [if_pos rfl]
   exact step_ev i0 i1
  rename_i h
  rw [if_neg h]
  split at hi
  ·rename_i h2
   subst h2
   simp only [Bool.and_eq_true, decide_eq_true_eq, beq_iff_eq] at hi
   obtain ⟨_, _, _, rfl, rfl⟩ := hi
   rw [if_pos rfl]
   exact step_mk i2 i0
  rename_i h2
  rw [if_neg h2]
  split at hi
  ·rename_i h3
   subst h3
   simp only [Bool.and_eq_true, decide_eq_true_eq, beq_iff_eq] at hi
   obtain ⟨rfl, rfl, rfl, rfl⟩ := hi
   decide
  cases hi
 rw [mayB_n h1] at hm
 simp only [Bool.and_eq_true, decide_eq_true_eq, beq_iff_eq] at hm
 obtain ⟨⟨rfl, rfl, rfl, rfl, rfl⟩, hm⟩ := hm
 rw [if_neg h1]
 split at hm
 ·rename_i h
  subst h
  simp only [Bool.and_eq_true, decide_eq_true_eq, beq_iff_eq] at hm
  obtain ⟨rfl, rfl, rfl, _⟩ := hm
  rw [if_pos rfl]
  exact step_pk i3
 rename_i h
 rw [if_neg h]
 split at hm
 ·rename_i h3
  subst h3
  simp only [Bool.and_eq_true, decide_eq_true_eq, beq_iff_eq] at hm
  obtain ⟨rfl, rfl, rfl, rfl⟩ := hm
  decide
 split at hm
 ·rename_i h4
  subst h4
  simp only [Bool.and_eq_true, decide_eq_true_eq, beq_iff_eq] at hm
  obtain ⟨rfl, rfl, rfl, _⟩ := hm
  rw [if_pos rfl]
  exact step_rs i4
 rename_i h4
 rw [if_neg h4]
 split at hm
 ·rename_i h5
  subst h5
  simp only [Bool.and_eq_true, decide_eq_true_eq, beq_iff_eq] at hm
  obtain ⟨rfl, rfl, _⟩ := hm
  rw [if_pos rfl]
  exact step_sp i5 i6
 cases hm
theorem cutsP_line {l r : List UInt8} (h : ∀ b ∈ l, b ≠ 10) : cutsP (l ++ 10 :: r) = (l, true) :: cutsP r := by
 have hc := cutN_hit l r h
 cases l with
 | nil => exact cutsP_cons hc
 | cons y l => exact cutsP_cons hc
theorem pref_app (p l : List UInt8) : Lib.hasPrefix (p ++ l) p = true := by simp [Lib.hasPrefix]
theorem trim_app (p l : List UInt8) : Lib.trimPrefix (p ++ l) p = l := by simp [Lib.trimPrefix, pref_app]
theorem run_lines {c : Cf} {wk : Int} : ∀ (xs : List St) (acc : List St) (n : Nat) (rest : List UInt8), (∀ x ∈ xs, mayB c x = true ∧ x.ok) → runL (cutsP ((xs.flatMap fun x => lineS x ++ [10]) ++ rest)) (n + 2) c wk acc = runL (cutsP rest) (n + 2 + xs.length) c wk (acc ++ xs)
 | [], acc, n, rest, _ => by simp
 | x :: xs, acc, n, rest, h => by
  have hx := h x (by simp)
  rw [List.flatMap_cons, show lineS x ++ [10] ++ List.flatMap (fun x => lineS x ++ [10]) xs ++ rest = lineS x ++ 10 :: ((List.flatMap (fun x => lineS x ++ [10]) xs) ++ rest) from by simp]
  rw [cutsP_line (lineS_no10 x), runL_cons, step2_ok (step_line hx.1 hx.2) hx.1]
  simp only
  have ih := run_lines (c := c) (wk := wk) xs (acc ++ [x]) (n + 1) rest (fun y hy => h y (by simp [hy]))
  rw [show n + 3 = n + 1 + 2 from rfl, ih, List.length_cons, List.append_assoc, List.singleton_append]
  congr 1
  omega
theorem run_head {c : Cf} {wk : Int} (hwr : c.wr = 0) (h1 : 1 ≤ wk) (h2 : wk ≤ c.g) (rest : List UInt8) : runL (cutsP ([106, 111, 98, 32] ++ c.text ++ [10, 119, 111, 114, 107, 101, 114, 115, 32] ++ Lib.itoa wk ++ [10] ++ rest)) 0 cf0 0 [] = runL (cutsP rest) 2 c wk [] := by
 have hg : c.g ≤ 32768 := by
  obtain ⟨g, s, k, sz, sl, of, gp, lt, ea, d⟩ := c
  exact (valid_of hwr).1.2
 have ht : ∀ b ∈ c.text, b ≠ 10 := by
  obtain ⟨g, s, k, sz, sl, of, gp, lt, ea, d⟩ := c
  exact textW_no10 hwr d
 have app : ∀ {l r : List UInt8}, (∀ b ∈ l, b ≠ 10) → (∀ b ∈ r, b ≠ 10) → ∀ b ∈ l ++ r, b ≠ 10 := fun h1 h2 b hb => (List.mem_append.1 hb).elim (h1 b) (h2 b)
 rw [show [106, 111, 98, 32] ++ c.text ++ [10, 119, 111, 114, 107, 101, 114, 115, 32] ++ Lib.itoa wk ++ [10] ++ rest = (jobT ++ c.text) ++ 10 :: ((worT ++ Lib.itoa wk) ++ 10 :: rest) from by simp [jobT, worT]]
 rw [cutsP_line (app (by decide) ht), runL_cons, step0_ok (pref_app _ _) (by rw [trim_app]; exact (cfgP_iff _ _).2 ⟨hwr, rfl⟩)]
 simp only
 rw [cutsP_line (app (by decide) (itoa_no wk 10 (by decide))), runL_cons, step1_ok (pref_app _ _) (by rw [trim_app]; exact nums1_itoa ⟨by omega, by omega⟩) (by omega)]
theorem parse_script {c : Cf} {wk : Int} {xs : List St} (h : (chkP c wk xs).2 = 0) (ho : ∀ x ∈ xs, x.ok) : parseS (scriptB c wk xs) = ⟨xs.length + 2, c, wk, xs, none⟩ := by
 obtain ⟨hwr, h1, h2, hm⟩ := chk_ok h
 unfold parseS scriptB
 rw [run_head hwr h1 h2]
 have := run_lines (c := c) (wk := wk) xs [] 0 [] (fun x hx => ⟨hm x hx, ho x hx⟩)
 rw [List.append_nil] at this
 rw [this, cutsP_nil, List.nil_append]
 simp [runL]
 omega
end Go.Proofs.YthfpekhpeiebjaaGreatDoor
end
section
namespace Go.Proofs.YthfpekhpeiebjaaGreatDoor
open Go.RowKit Go.Sx
def kc : Cf := ⟨4, 2, 1, 10, 0, 0, 0, 0, 0, false⟩
def kx : List St := [pk 1, ev [97] 5 (-1)]
def kt : List UInt8 := [106, 111, 98, 32, 103, 114, 111, 117, 112, 115, 32, 52, 32, 115, 111, 117, 114, 99, 101, 115, 32, 50, 32, 107, 105, 110, 100, 32, 116, 117, 109, 98, 108, 105, 110, 103, 32, 115, 105, 122, 101, 32, 49, 48, 32, 115, 108, 105, 100, 101, 32, 48, 32, 111, 102, 102, 115, 101, 116, 32, 48, 32, 103, 97, 112, 32, 48, 32, 108, 97, 116, 101, 32, 48, 32, 101, 97, 114, 108, 121, 32, 48, 32, 100, 105, 115, 99, 97, 114, 100, 32, 110, 111, 10, 119, 111, 114, 107, 101, 114, 115, 32, 50, 10, 112, 105, 99, 107, 32, 49, 10, 101, 118, 101, 110, 116, 32, 34, 97, 34, 32, 53, 32, 45, 49, 10]
theorem kchk : (chkP kc 2 kx).2 = 0 := by decide +kernel
theorem kok : ∀ x ∈ kx, x.ok := by
 intro x hx
 simp only [kx, List.mem_cons, List.not_mem_nil, or_false] at hx
 rcases hx with rfl | rfl <;> simp [St.ok, pk, ev, in64]
def kF (a b c d e f g : List UInt8) : List UInt8 := [106, 111, 98, 32] ++ Lib.join (weaveL wordsW [a, b, kindW 1, d, e, e, e, e, e, saysW false]) [32] ++ [10, 119, 111, 114, 107, 101, 114, 115, 32] ++ b ++ [10] ++ (([112, 105, 99, 107, 32] ++ c ++ [10]) ++ (([101, 118, 101, 110, 116, 32] ++ quoteB [97] ++ [32] ++ f ++ [32] ++ g ++ [10]) ++ []))
theorem dec1 {u : Nat} (h : u < 10) : Lib.decDigits u = [UInt8.ofNat (48 + u)] := by
 rw [Lib.decDigits, dif_pos h]
theorem ito1 (u : Nat) (h : u < 10) : Lib.itoa (u : Int) = [UInt8.ofNat (48 + u)] := by
 unfold Lib.itoa
 rw [if_neg (by omega), Int.toNat_natCast, dec1 h]
theorem it10 : Lib.itoa 10 = [49, 48] := by
 show Lib.decDigits 10 = _
 rw [Lib.decDigits, dif_neg (by decide), dec1 (by decide)]
 rfl
theorem itm1 : Lib.itoa (-1) = [45, 49] := by
 show 45 :: Lib.decDigits 1 = _
 rw [dec1 (by decide)]
 rfl
theorem ktext : scriptB kc 2 kx = kt := by
 have h : scriptB kc 2 kx = kF (Lib.itoa (4 : Nat)) (Lib.itoa (2 : Nat)) (Lib.itoa (1 : Nat)) (Lib.itoa 10) (Lib.itoa (0 : Nat)) (Lib.itoa (5 : Nat)) (Lib.itoa (-1)) := rfl
 rw [h, ito1 4 (by decide), ito1 2 (by decide), ito1 1 (by decide), ito1 0 (by decide), ito1 5 (by decide), it10, itm1]
 decide +kernel
theorem kparse : parseS kt = ⟨4, kc, 2, kx, none⟩ := by
 rw [← ktext]
 exact parse_script kchk kok
theorem ent_sls {w0 w : World} {A : Option Addr} {n c n2 : Nat} {B : Option Addr} {xs : List St} {ρ : List Nat} (h : EntV w0 A n c (B, stW xs) ρ w) (hn : n2 = xs.length) : SlS w B n2 xs := by
 obtain ⟨b, hb, _, _, _, _, hs⟩ := h
 simp only at hb
 subst hb
 exact ⟨hn, by simp, fun a ha => by injection ha with ha; subst ha; exact hs⟩
noncomputable def B8 : Code := (Tryz.f8.body).getD .skip
set_option maxHeartbeats 8000000 in
set_option maxRecDepth 100000 in
theorem known_true (w : World) (hw : Wd w) : Calls Tryz.prog 8 #[] w fun e w' => e = .returned (.bool true) ∧ Below w.heap.size w w' := by
 refine enterF (N := w.heap.size) (F := RowE w (fun _ => False) [] w.heap.size 41 10 none 0 0 [] []) (fn := Tryz.f8) (c := B8) [] Tryz.func8 rfl rfl (Nat.le_refl _) ⟨⟨⟨⟨World.ownsRow_nil _ _ _ _, by simp [Value.ownBlock]⟩, Nat.le_refl _⟩, FrameR.start _ [] (by simp), by simp [Value.ownBlock]⟩, by simp⟩ ?_
 refine zU RowE.stable RowE.fewer [9, 13] 1 ⟨pops B8 [1, 0] 5, [.seq (sub B8 [1, 1])], [(9, .agg zAQ1), (13, .ls 0 0 2 2)], [(zAQ0, 41)]⟩ ?_
 refine At.mkrowE (e2 := 41) (size2 := 10) 15 [.agg zAQ1, .v (.int .i64 2), .ls 0 0 2 2] (fun A' n' c' => .tup [.agg [.v (.int .i64 4), .v (.int .i64 2), .v (.int .i64 1), .v (.int .i64 10), .v (.int .i64 0), .v (.int .i64 0), .v (.int .i64 0), .v (.int .i64 0), .v (.int .i64 0), .v (.bool false), .v (.int .i64 2), .sl A' n' c'], .v (.int .i64 0)]) (stW kx) (by kernel_rfl) (by kernel_rfl) (by kernel_rfl) (by kernel_rfl) (by kernel_rfl) (by simp [stW, St.w, kx, pk]) (fun ρ w1 hm' hf => ?_) ?_
 ·have hS : SlS w1 (some ⟨nth ρ 0, 0, none⟩) 2 kx := ⟨rfl, by simp, fun a ha j u hj => by
   injection ha with ha
   subst ha
   rw [add_ok, cell_of_loc hm' (i := 0) rfl, Nat.zero_add, ← List.getElem?_map]
   exact hj⟩
  refine (put_go 4 2 1 10 0 0 0 0 0 false 2 (some ⟨nth ρ 0, 0, none⟩) 2 2 kx w1 hS (by decide)).mono fun e w2 h => ?_
  unfold putE at h
  rw [if_pos (show (chkP ⟨4, 2, 1, 10, 0, 0, 0, 0, 0, false⟩ 2 kx).2 = 0 from kchk)] at h
  obtain ⟨A', c', h1, h2⟩ := h
  exact ⟨A', 2, c', h1, h2⟩
 intro A1 n1 c1
 refine At.pure fun ⟨hn1, hc1⟩ => ?_
 obtain rfl : n1 = 2 := by
  have h20 : (stW kx).length = 20 := rfl
  omega
 clear hn1 hc1
 refine zU RowE.stable RowE.fewer [1, 2, 18] 2 ⟨pops B8 [1, 1, 0] 1, [.seq (sub B8 pAQ3)], [(1, .lp 1 0), (2, .v (.int .i64 0)), (18, .agg [.v (.int .i64 4), .v (.int .i64 2), .v (.int .i64 1), .v (.int .i64 10), .v (.int .i64 0), .v (.int .i64 0), .v (.int .i64 0), .v (.int .i64 0), .v (.int .i64 0), .v (.bool false), .v (.int .i64 2), .sl A1 2 c1])], [(zAQ0, 41), ([.v (.int .i64 4), .v (.int .i64 2), .v (.int .i64 1), .v (.int .i64 10), .v (.int .i64 0), .v (.int .i64 0), .v (.int .i64 0), .v (.int .i64 0), .v (.int .i64 0), .v (.bool false), .v (.int .i64 2), .sl A1 2 c1], 28)]⟩ ?_
 refine zC RowE.stable 12 [.agg [.v (.int .i64 4), .v (.int .i64 2), .v (.int .i64 1), .v (.int .i64 10), .v (.int .i64 0), .v (.int .i64 0), .v (.int .i64 0), .v (.int .i64 0), .v (.int .i64 0), .v (.bool false), .v (.int .i64 2), .sl A1 2 c1]] (.tup [.so (mkB kt), .v (.int .i64 0)]) (fun _ _ w1 hi hf => (text_go 4 2 1 10 0 0 0 0 0 false 2 A1 2 c1 kx w1 (hw.below hi.mem.below) (ent_sls (hf.2 _ (by simp)) rfl) (by decide) kok).mono fun e w2 h => ⟨h.1.trans (by rw [show textP ⟨4, 2, 1, 10, 0, 0, 0, 0, 0, false⟩ 2 kx = (scriptB kc 2 kx, 0) from if_pos kchk, ktext]; rfl), h.2⟩) ?_
 refine zU RowE.stable RowE.fewer [1, 2, 3, 4, 23] 2 ⟨pops B8 [1, 1, 1, 0] 1, [.seq (sub B8 [1, 1, 1, 1])], [(1, .lp 1 0), (2, .v (.int .i64 0)), (3, .so (mkB kt)), (4, .v (.int .i64 0)), (23, .so (mkB kt))], [(zAQ0, 41), ([.v (.int .i64 4), .v (.int .i64 2), .v (.int .i64 1), .v (.int .i64 10), .v (.int .i64 0), .v (.int .i64 0), .v (.int .i64 0), .v (.int .i64 0), .v (.int .i64 0), .v (.bool false), .v (.int .i64 2), .sl A1 2 c1], 28)]⟩ ?_
 refine At.mkrowE (e2 := 41) (size2 := 10) 9 [.so (mkB kt)] (fun A' n' c' => .tup [.agg [.v (.int .i64 4), .v (.int .i64 2), .v (.int .i64 1), .v (.int .i64 10), .v (.int .i64 0), .v (.int .i64 0), .v (.int .i64 0), .v (.int .i64 0), .v (.int .i64 0), .v (.bool false), .v (.int .i64 2), .sl A' n' c'], .v (.int .i64 4), .v (.int .i64 0)]) (stW kx) (by kernel_rfl) (by kernel_rfl) (by kernel_rfl) (by kernel_rfl) (by kernel_rfl) (by simp [stW, St.w, kx, pk]) (fun ρ w1 hm' hf => ?_) ?_
 ·refine (parse_kit kt (by decide +kernel) w1 (hw.below hm'.below)).mono fun e w2 h => ?_
  rw [kparse] at h
  unfold parseE at h
  rw [if_pos (by decide)] at h
  obtain ⟨A', c', h1, h2⟩ := h
  exact ⟨A', 2, c', h1, h2⟩
 intro A2 n2 c2
 refine At.pure fun ⟨hn2, hc2⟩ => ?_
 obtain rfl : n2 = 2 := by
  have h20 : (stW kx).length = 20 := rfl
  omega
 clear hn2 hc2
 refine zU RowE.stable RowE.fewer [3, 42, 43, 44] 0 ⟨pops B8 [1, 1, 1, 1, 0] 17, [.seq (sub B8 [1, 1, 1, 1, 1])], [(3, .so (mkB kt)), (42, .v (.bool true)), (43, .agg [.v (.int .i64 4), .v (.int .i64 2), .v (.int .i64 1), .v (.int .i64 10), .v (.int .i64 0), .v (.int .i64 0), .v (.int .i64 0), .v (.int .i64 0), .v (.int .i64 0), .v (.bool false), .v (.int .i64 2), .sl A1 2 c1]), (44, .agg [.v (.int .i64 4), .v (.int .i64 2), .v (.int .i64 1), .v (.int .i64 10), .v (.int .i64 0), .v (.int .i64 0), .v (.int .i64 0), .v (.int .i64 0), .v (.int .i64 0), .v (.bool false), .v (.int .i64 2), .sl A2 2 c2])], []⟩ ?_
 refine zC RowE.stable 11 [.agg [.v (.int .i64 4), .v (.int .i64 2), .v (.int .i64 1), .v (.int .i64 10), .v (.int .i64 0), .v (.int .i64 0), .v (.int .i64 0), .v (.int .i64 0), .v (.int .i64 0), .v (.bool false), .v (.int .i64 2), .sl A1 2 c1], .agg [.v (.int .i64 4), .v (.int .i64 2), .v (.int .i64 1), .v (.int .i64 10), .v (.int .i64 0), .v (.int .i64 0), .v (.int .i64 0), .v (.int .i64 0), .v (.int .i64 0), .v (.bool false), .v (.int .i64 2), .sl A2 2 c2]] (.v (.bool true)) (fun _ _ w1 hi hf => (same_go 4 2 1 10 0 0 0 0 0 false 2 A1 2 c1 kx 4 2 1 10 0 0 0 0 0 false 2 A2 2 c2 kx w1 (ent_sls (hf.2 (A1, stW kx) (by simp)) rfl) (ent_sls (hf.2 (A2, stW kx) (by simp)) rfl) (by decide) (by decide)).mono fun e w2 h => ⟨h.1.trans (by rw [decide_eq_true ⟨rfl, rfl, rfl⟩]; rfl), h.2⟩) ?_
 refine zU RowE.stable RowE.fewer [3, 52] 0 ⟨pops B8 [1, 1, 1, 1, 0] 25, [.seq (sub B8 [1, 1, 1, 1, 1])], [(3, .so (mkB kt)), (52, .bo true)], []⟩ ?_
 refine At.res 52 (true) true (by kernel_rfl) (by first | assumption | (simp only [*]; done) | (simp [*]; done)) ?_
 refine zU RowE.stable RowE.fewer [52, 53, 56] 0 ⟨pops B8 [1, 1, 1, 1, 0] 29, [.seq (sub B8 [1, 1, 1, 1, 1])], [(52, .v (.bool true)), (53, .so (mkB kt)), (56, .io .i64 104)], []⟩ ?_
 refine sslW kt 104 [112, 105, 99, 107, 32, 49, 10, 101, 118, 101, 110, 116, 32, 34, 97, 34, 32, 53, 32, 45, 49, 10] (by decide +kernel) (by kernel_rfl) (by decide) RowE.stable ?_
 refine zU RowE.stable RowE.fewer [0] 0 ⟨.exit .ret, [], [(0, .bo true)], []⟩ ?_
 refine zE (.bo true) ?_
 intro ρ w9 hm' hf
 exact ⟨rfl, hm'.below⟩
end Go.Proofs.YthfpekhpeiebjaaGreatDoor
end
section
namespace Go.Proofs.YthfpekhpeiebjaaGreatDoor
open Go.RowKit Go.Sx
structure LSt where
 A : Option Addr
 n : Nat
 c : Nat
 acc : List Nat
 i : Nat
end Go.Proofs.YthfpekhpeiebjaaGreatDoor
end
section
namespace Go.Proofs.YthfpekhpeiebjaaGreatDoor
open Go.RowKit Go.Sx
def keepsitems (x : St) : Bool := x.kd == 1
def keepspicks (x : St) : Bool := x.kd == 2
def itemsOf (xs : List St) : List St := xs.filter keepsitems
def picksOf (xs : List St) : List St := xs.filter keepspicks
theorem itemsOf_cons (x : St) (xs : List St) : itemsOf (x :: xs) = if keepsitems x = true then x :: itemsOf xs else itemsOf xs := List.filter_cons
theorem picksOf_cons (x : St) (xs : List St) : picksOf (x :: xs) = if keepspicks x = true then x :: picksOf xs else picksOf xs := List.filter_cons
def St.it : St → List Value
 | ⟨_, ik, key, t, v, src, _, _, _, _⟩ => [.int .i64 ik, .string (mkB key), .int .i64 t, .int .i64 v, .int .i64 src]
def itW (l : List St) : List Value := l.flatMap St.it
theorem itW_app (l : List St) (x : St) : itW (l ++ [x]) = itW l ++ x.it := by simp [itW]
def pkW (l : List St) : List Value := l.map fun x => Value.int .i64 x.wk
theorem pkW_app (l : List St) (x : St) : pkW (l ++ [x]) = pkW l ++ [Value.int .i64 x.wk] := by simp [pkW]
structure ITSt where
 A : Option Addr
 m : Nat
 c : Nat
 acc : List St
 i : Nat
def frIT (A : Option Addr) (n cap : Nat) : ITSt → Fr
 | ⟨Ao, m, c, _, i⟩ => [(3, .sl Ao m c), (7, .sl A n cap), (8, .io .i64 (n : Int)), (9, .io .i64 (i : Int))]
def locIT (_ : ITSt) : Sx.Loc := []
noncomputable def B16 : Code := (Tryz.f16.body).getD .skip
def GIitems (w0 : World) (xs R : List St) (x : ITSt) (ρ : List Nat) (w : World) : Prop :=
 RowF w0 (fun _ => False) [] w0.heap.size 38 5 x.A x.m x.c (itW x.acc) ρ w ∧ (x.acc ++ itemsOf (xs.drop x.i) = R ∧ x.i ≤ xs.length ∧ x.m = x.acc.length ∧ x.acc.length ≤ x.i)
set_option maxHeartbeats 8000000 in
set_option maxRecDepth 100000 in
theorem items_any (g s k sz sl of gp lt ea : Int) (d : Bool) (wk : Int) (A : Option Addr) (n cap : Nat) (xs : List St) (w : World) (hS : SlS w A n xs) (hn : n ≤ 1048576) :
  Calls Tryz.prog 16 #[.agg #[.int .i64 g, .int .i64 s, .int .i64 k, .int .i64 sz, .int .i64 sl, .int .i64 of, .int .i64 gp, .int .i64 lt, .int .i64 ea, .bool d, .int .i64 wk, .slice A n cap]] w fun e w' => ∃ A' c', e = .returned (.slice A' (itemsOf xs).length c') ∧ RowF w (fun _ => False) [] w.heap.size 38 5 A' (itemsOf xs).length c' (itW (itemsOf xs)) [] w' := by
 have hl := hS.1
 refine enterF (N := w.heap.size) (F := RowF w (fun _ => False) [] w.heap.size 38 5 none 0 0 []) (fn := Tryz.f16) (c := B16) [.agg [.io .i64 g, .io .i64 s, .io .i64 k, .io .i64 sz, .io .i64 sl, .io .i64 of, .io .i64 gp, .io .i64 lt, .io .i64 ea, .bo d, .io .i64 wk, .sl A n cap]] Tryz.func16 rfl rfl (Nat.le_refl _) ⟨⟨⟨World.ownsRow_nil _ _ _ _, by simp [Value.ownBlock]⟩, Nat.le_refl _⟩, FrameR.start _ [] (by simp), by simp [Value.ownBlock]⟩ ?_
 refine zT RowF.stable RowF.fewer [3, 7, 8, 9] 0 ⟨.code (sub B16 [1, 1, 0, 1, 4]), [.block 0, .seq (sub B16 pAQ3)], [(3, .v (.slice none 0 0)), (7, .sl A n cap), (8, .io .i64 (↑n : Int)), (9, .v (.int .i64 0))], []⟩ ?_
 generalize hR : itemsOf xs = R
 refine At.canonT [9] _ rfl ?_
 refine At.slFr _ rfl ?_
 refine At.loop (σ := ITSt) (sub B16 [1, 1, 0, 1, 4, 4]) (frIT A n cap) locIT (GIitems w xs R) (fun x => n - x.i) ⟨none, 0, 0, [], 0⟩ (by kernel_rfl) (by unfold subFr; kernel_rfl) (by kernel_rfl) (fun _ _ _ _ h => ⟨h, hR, Nat.zero_le _, rfl, Nat.le_refl _⟩) ?_
 clear hR
 rintro ⟨Ao, m, c, acc, i⟩
 refine At.pure fun ⟨h1, h2, h3, h4⟩ => ?_
 simp only at h1 h2 h3 h4
 refine zTq RowF.stable RowF.fewer [3, 7, 8, 9, 10] 0 ?_
 rcases Bool.eq_false_or_eq_true (decide ((↑i : Int) < (↑n : Int))) with b0 | b0
 ·refine zR 10 b0 ?_
  refine zT RowF.stable RowF.fewer [3, 7, 8, 9] 0 ⟨pops B16 [1, 1, 0, 1, 4, 4, 1, 1, 0, 4, 0] 0, [.seq (sub B16 [1, 1, 0, 1, 4, 4, 1, 1, 0, 4, 1]), .block 1, .seq (sub B16 pAQ2), .next (Sx.Next w.heap.size w Tryz.f16.ntmps (frIT A n cap) locIT (GIitems w xs R) (fun x => n - x.i) (ITSt.mk Ao m c acc i)), .block 0, .seq (sub B16 pAQ3)], [(3, .sl Ao m c), (7, .sl A n cap), (8, .io .i64 (↑n : Int)), (9, .io .i64 (↑i : Int))], []⟩ ?_
  have hi : i < n := by have := of_decide_eq_true b0; omega
  clear b0
  obtain ⟨x, hx⟩ : ∃ x, xs[i]? = some x := ⟨_, List.getElem?_eq_getElem (by rw [← hS.1]; exact hi)⟩
  obtain ⟨a, rfl, hcell⟩ := hS.get hx
  rw [drop_at hx] at h1
  obtain ⟨kd, ik, key, ti, v, src, wk2, wks, bit, mask⟩ := x
  refine At.idx a n 10 (i : Int) (by kernel_rfl) (by omega) (by omega) RowF.stable ?_
  refine At.lda (a.add ((i : Int).toNat * 10)) 10 [.io .i64 kd, .io .i64 ik, .so (mkB key), .io .i64 ti, .io .i64 v, .io .i64 src, .io .i64 wk2, .io .i64 wks, .io .i64 bit, .io .u32 mask] (by kernel_rfl) rfl RowF.stable (fun ρ w1 hm' hf j v2 hj => cell_below (hcell j v2 hj) hm'.below) ?_
  refine zTq RowF.stable RowF.fewer [3, 5, 7, 8, 9, 15] 1 ?_
  rcases Bool.eq_false_or_eq_true (kd == 1) with b0 | b0
  ·refine zR 15 b0 ?_
   let kn0 : K := .next (Sx.Next w.heap.size w Tryz.f16.ntmps (frIT (some a) n cap) locIT (GIitems w xs R) (fun x => n - x.i) (ITSt.mk Ao m c acc i))
   refine zT RowF.stable RowF.fewer [7, 8, 9, 16, 19] 2 ⟨pops B16 [1, 1, 0, 1, 4, 4, 1, 1, 0, 4, 1, 1, 2] 4, [.block 1, .seq (sub B16 pAQ2), kn0, .block 0, .seq (sub B16 pAQ3)], [(7, .sl (some a) n cap), (8, .io .i64 (↑n : Int)), (9, .io .i64 (↑i : Int)), (16, .sl Ao m c), (19, .ls 1 0 1 1)], [([.io .i64 kd, .io .i64 ik, .so (mkB key), .io .i64 ti, .io .i64 v, .io .i64 src, .io .i64 wk2, .io .i64 wks, .io .i64 bit, .io IntKind.u32 mask], 41), ([.io .i64 ik, .so (mkB key), .io .i64 ti, .io .i64 v, .io .i64 src], 38)]⟩ ?_
   refine At.app (52) (38) (5) (48) (Ao) (m) (c) (1) ([.io .i64 ik, .so (mkB key), .io .i64 ti, .io .i64 v, .io .i64 src]) _ _ _ _ ([.int .i64 ik, .string (mkB key), .int .i64 ti, .int .i64 v, .int .i64 src]) (by kernel_rfl) (fun ρ => by kernel_rfl) (by first | omega | (simp only [Go.maxLen]; omega)) (by first | omega | (simp only [Go.maxLen]; omega)) (by first | omega | (simp only [Go.maxLen]; omega)) fun A1 c1 => ?_
   refine zT RowF.stable RowF.fewer [3, 7, 8, 9] 0 ⟨.exit .normal, [kn0, .block 0, .seq (sub B16 pAQ3)], [(3, .sl A1 (m + 1) c1), (7, .sl (some a) n cap), (8, .io .i64 (↑n : Int)), (9, .io .i64 (IntKind.i64.wrap ((↑i : Int) + 1)))], []⟩ ?_
   have hk : keepsitems ⟨kd, ik, key, ti, v, src, wk2, wks, bit, mask⟩ = true := b0
   rw [itemsOf_cons, if_pos hk] at h1
   have hw3 : IntKind.i64.wrap ((i : Int) + 1) = ((i + 1 : Nat) : Int) := by
    rw [wrap63 (by omega) (by omega)]
    omega
   rw [hw3]
   refine At.next (σ := ITSt) ⟨A1, m + 1, c1, acc ++ [⟨kd, ik, key, ti, v, src, wk2, wks, bit, mask⟩], i + 1⟩ rfl rfl (by unfold subFr; kernel_rfl) (by kernel_rfl) ?_ ?_
   ·intro ρ a' w' hi' hf
    exact ⟨by rw [itW_app]; exact hf, by rw [← h1, List.append_assoc]; rfl, (show i + 1 ≤ xs.length by omega), by simp only [List.length_append, List.length_singleton]; omega, by simp only [List.length_append, List.length_singleton]; omega⟩
   show n - (i + 1) < n - i
   omega
  refine zR 15 b0 ?_
  refine zT RowF.stable RowF.fewer [3, 7, 8, 9] 0 ⟨.exit .normal, [.next (Sx.Next w.heap.size w Tryz.f16.ntmps (frIT (some a) n cap) locIT (GIitems w xs R) (fun x => n - x.i) (ITSt.mk Ao m c acc i)), .block 0, .seq (sub B16 pAQ3)], [(3, .sl Ao m c), (7, .sl (some a) n cap), (8, .io .i64 (↑n : Int)), (9, .io .i64 (IntKind.i64.wrap ((↑i : Int) + 1)))], []⟩ ?_
  have hk : ¬ keepsitems ⟨kd, ik, key, ti, v, src, wk2, wks, bit, mask⟩ = true := by intro h; rw [show (kd == _) = true from h] at b0; cases b0
  rw [itemsOf_cons, if_neg hk] at h1
  have hw3 : IntKind.i64.wrap ((i : Int) + 1) = ((i + 1 : Nat) : Int) := by
   rw [wrap63 (by omega) (by omega)]
   omega
  rw [hw3]
  refine At.next (σ := ITSt) ⟨Ao, m, c, acc, i + 1⟩ rfl rfl (by unfold subFr; kernel_rfl) (by kernel_rfl) ?_ ?_
  ·intro ρ a' w' hi' hf
   exact ⟨hf, h1, (show i + 1 ≤ xs.length by omega), h3, (show acc.length ≤ i + 1 by omega)⟩
  show n - (i + 1) < n - i
  omega
 refine zR 10 b0 ?_
 refine zT RowF.stable RowF.fewer [2] 0 ⟨.exit .ret, [], [(2, .sl Ao m c)], []⟩ ?_
 refine zE (.sl Ao m c) ?_
 have hi : ¬ (i : Int) < (n : Int) := of_decide_eq_false b0
 rw [List.drop_eq_nil_of_le (by rw [← hS.1]; omega), show itemsOf [] = [] from rfl, List.append_nil] at h1
 subst h1
 intro ρ w9 hm' hf
 rw [← h3]
 exact ⟨Ao, c, rfl, RowF.fewer _ _ 0 (Nat.zero_le _) hf⟩
noncomputable def B24 : Code := (Tryz.f24.body).getD .skip
def GIpicks (w0 : World) (xs R : List St) (x : ITSt) (ρ : List Nat) (w : World) : Prop :=
 RowF w0 (fun _ => False) [] w0.heap.size 3 1 x.A x.m x.c (pkW x.acc) ρ w ∧ (x.acc ++ picksOf (xs.drop x.i) = R ∧ x.i ≤ xs.length ∧ x.m = x.acc.length ∧ x.acc.length ≤ x.i)
set_option maxHeartbeats 8000000 in
set_option maxRecDepth 100000 in
theorem picks_any (g s k sz sl of gp lt ea : Int) (d : Bool) (wk : Int) (A : Option Addr) (n cap : Nat) (xs : List St) (w : World) (hS : SlS w A n xs) (hn : n ≤ 1048576) :
  Calls Tryz.prog 24 #[.agg #[.int .i64 g, .int .i64 s, .int .i64 k, .int .i64 sz, .int .i64 sl, .int .i64 of, .int .i64 gp, .int .i64 lt, .int .i64 ea, .bool d, .int .i64 wk, .slice A n cap]] w fun e w' => ∃ A' c', e = .returned (.slice A' (picksOf xs).length c') ∧ RowF w (fun _ => False) [] w.heap.size 3 1 A' (picksOf xs).length c' (pkW (picksOf xs)) [] w' := by
 have hl := hS.1
 refine enterF (N := w.heap.size) (F := RowF w (fun _ => False) [] w.heap.size 3 1 none 0 0 []) (fn := Tryz.f24) (c := B24) [.agg [.io .i64 g, .io .i64 s, .io .i64 k, .io .i64 sz, .io .i64 sl, .io .i64 of, .io .i64 gp, .io .i64 lt, .io .i64 ea, .bo d, .io .i64 wk, .sl A n cap]] Tryz.func24 rfl rfl (Nat.le_refl _) ⟨⟨⟨World.ownsRow_nil _ _ _ _, by simp [Value.ownBlock]⟩, Nat.le_refl _⟩, FrameR.start _ [] (by simp), by simp [Value.ownBlock]⟩ ?_
 refine zT RowF.stable RowF.fewer [3, 7, 8, 9] 0 ⟨.code (sub B24 [1, 1, 0, 1, 4]), [.block 0, .seq (sub B24 pAQ3)], [(3, .v (.slice none 0 0)), (7, .sl A n cap), (8, .io .i64 (↑n : Int)), (9, .v (.int .i64 0))], []⟩ ?_
 generalize hR : picksOf xs = R
 refine At.canonT [9] _ rfl ?_
 refine At.slFr _ rfl ?_
 refine At.loop (σ := ITSt) (sub B24 [1, 1, 0, 1, 4, 4]) (frIT A n cap) locIT (GIpicks w xs R) (fun x => n - x.i) ⟨none, 0, 0, [], 0⟩ (by kernel_rfl) (by unfold subFr; kernel_rfl) (by kernel_rfl) (fun _ _ _ _ h => ⟨h, hR, Nat.zero_le _, rfl, Nat.le_refl _⟩) ?_
 clear hR
 rintro ⟨Ao, m, c, acc, i⟩
 refine At.pure fun ⟨h1, h2, h3, h4⟩ => ?_
 simp only at h1 h2 h3 h4
 refine zTq RowF.stable RowF.fewer [3, 7, 8, 9, 10] 0 ?_
 rcases Bool.eq_false_or_eq_true (decide ((↑i : Int) < (↑n : Int))) with b0 | b0
 ·refine zR 10 b0 ?_
  refine zT RowF.stable RowF.fewer [3, 7, 8, 9] 0 ⟨pops B24 [1, 1, 0, 1, 4, 4, 1, 1, 0, 4, 0] 0, [.seq (sub B24 [1, 1, 0, 1, 4, 4, 1, 1, 0, 4, 1]), .block 1, .seq (sub B24 pAQ2), .next (Sx.Next w.heap.size w Tryz.f24.ntmps (frIT A n cap) locIT (GIpicks w xs R) (fun x => n - x.i) (ITSt.mk Ao m c acc i)), .block 0, .seq (sub B24 pAQ3)], [(3, .sl Ao m c), (7, .sl A n cap), (8, .io .i64 (↑n : Int)), (9, .io .i64 (↑i : Int))], []⟩ ?_
  have hi : i < n := by have := of_decide_eq_true b0; omega
  clear b0
  obtain ⟨x, hx⟩ : ∃ x, xs[i]? = some x := ⟨_, List.getElem?_eq_getElem (by rw [← hS.1]; exact hi)⟩
  obtain ⟨a, rfl, hcell⟩ := hS.get hx
  rw [drop_at hx] at h1
  obtain ⟨kd, ik, key, ti, v, src, wk2, wks, bit, mask⟩ := x
  refine At.idx a n 10 (i : Int) (by kernel_rfl) (by omega) (by omega) RowF.stable ?_
  refine At.lda (a.add ((i : Int).toNat * 10)) 10 [.io .i64 kd, .io .i64 ik, .so (mkB key), .io .i64 ti, .io .i64 v, .io .i64 src, .io .i64 wk2, .io .i64 wks, .io .i64 bit, .io .u32 mask] (by kernel_rfl) rfl RowF.stable (fun ρ w1 hm' hf j v2 hj => cell_below (hcell j v2 hj) hm'.below) ?_
  refine zTq RowF.stable RowF.fewer [3, 5, 7, 8, 9, 15] 1 ?_
  rcases Bool.eq_false_or_eq_true (kd == 2) with b0 | b0
  ·refine zR 15 b0 ?_
   let kn0 : K := .next (Sx.Next w.heap.size w Tryz.f24.ntmps (frIT (some a) n cap) locIT (GIpicks w xs R) (fun x => n - x.i) (ITSt.mk Ao m c acc i))
   refine zT RowF.stable RowF.fewer [7, 8, 9, 16, 19] 2 ⟨pops B24 [1, 1, 0, 1, 4, 4, 1, 1, 0, 4, 1, 1, 2] 4, [.block 1, .seq (sub B24 pAQ2), kn0, .block 0, .seq (sub B24 pAQ3)], [(7, .sl (some a) n cap), (8, .io .i64 (↑n : Int)), (9, .io .i64 (↑i : Int)), (16, .sl Ao m c), (19, .ls 1 0 1 1)], [([.io .i64 kd, .io .i64 ik, .so (mkB key), .io .i64 ti, .io .i64 v, .io .i64 src, .io .i64 wk2, .io .i64 wks, .io .i64 bit, .io IntKind.u32 mask], 41), ([.io .i64 wk2], 3)]⟩ ?_
   refine At.app (47) (3) (1) (8) (Ao) (m) (c) (1) ([.io .i64 wk2]) _ _ _ _ ([.int .i64 wk2]) (by kernel_rfl) (fun ρ => by kernel_rfl) (by first | omega | (simp only [Go.maxLen]; omega)) (by first | omega | (simp only [Go.maxLen]; omega)) (by first | omega | (simp only [Go.maxLen]; omega)) fun A1 c1 => ?_
   refine zT RowF.stable RowF.fewer [3, 7, 8, 9] 0 ⟨.exit .normal, [kn0, .block 0, .seq (sub B24 pAQ3)], [(3, .sl A1 (m + 1) c1), (7, .sl (some a) n cap), (8, .io .i64 (↑n : Int)), (9, .io .i64 (IntKind.i64.wrap ((↑i : Int) + 1)))], []⟩ ?_
   have hk : keepspicks ⟨kd, ik, key, ti, v, src, wk2, wks, bit, mask⟩ = true := b0
   rw [picksOf_cons, if_pos hk] at h1
   have hw3 : IntKind.i64.wrap ((i : Int) + 1) = ((i + 1 : Nat) : Int) := by
    rw [wrap63 (by omega) (by omega)]
    omega
   rw [hw3]
   refine At.next (σ := ITSt) ⟨A1, m + 1, c1, acc ++ [⟨kd, ik, key, ti, v, src, wk2, wks, bit, mask⟩], i + 1⟩ rfl rfl (by unfold subFr; kernel_rfl) (by kernel_rfl) ?_ ?_
   ·intro ρ a' w' hi' hf
    exact ⟨by rw [pkW_app]; exact hf, by rw [← h1, List.append_assoc]; rfl, (show i + 1 ≤ xs.length by omega), by simp only [List.length_append, List.length_singleton]; omega, by simp only [List.length_append, List.length_singleton]; omega⟩
   show n - (i + 1) < n - i
   omega
  refine zR 15 b0 ?_
  refine zT RowF.stable RowF.fewer [3, 7, 8, 9] 0 ⟨.exit .normal, [.next (Sx.Next w.heap.size w Tryz.f24.ntmps (frIT (some a) n cap) locIT (GIpicks w xs R) (fun x => n - x.i) (ITSt.mk Ao m c acc i)), .block 0, .seq (sub B24 pAQ3)], [(3, .sl Ao m c), (7, .sl (some a) n cap), (8, .io .i64 (↑n : Int)), (9, .io .i64 (IntKind.i64.wrap ((↑i : Int) + 1)))], []⟩ ?_
  have hk : ¬ keepspicks ⟨kd, ik, key, ti, v, src, wk2, wks, bit, mask⟩ = true := by intro h; rw [show (kd == _) = true from h] at b0; cases b0
  rw [picksOf_cons, if_neg hk] at h1
  have hw3 : IntKind.i64.wrap ((i : Int) + 1) = ((i + 1 : Nat) : Int) := by
   rw [wrap63 (by omega) (by omega)]
   omega
  rw [hw3]
  refine At.next (σ := ITSt) ⟨Ao, m, c, acc, i + 1⟩ rfl rfl (by unfold subFr; kernel_rfl) (by kernel_rfl) ?_ ?_
  ·intro ρ a' w' hi' hf
   exact ⟨hf, h1, (show i + 1 ≤ xs.length by omega), h3, (show acc.length ≤ i + 1 by omega)⟩
  show n - (i + 1) < n - i
  omega
 refine zR 10 b0 ?_
 refine zT RowF.stable RowF.fewer [2] 0 ⟨.exit .ret, [], [(2, .sl Ao m c)], []⟩ ?_
 refine zE (.sl Ao m c) ?_
 have hi : ¬ (i : Int) < (n : Int) := of_decide_eq_false b0
 rw [List.drop_eq_nil_of_le (by rw [← hS.1]; omega), show picksOf [] = [] from rfl, List.append_nil] at h1
 subst h1
 intro ρ w9 hm' hf
 rw [← h3]
 exact ⟨Ao, c, rfl, RowF.fewer _ _ 0 (Nat.zero_le _) hf⟩
end Go.Proofs.YthfpekhpeiebjaaGreatDoor
end
section
/- Plain: a script's text cut off behind a line, and within one. -/
namespace Go.Proofs.YthfpekhpeiebjaaGreatDoor
open Go.RowKit Go.Sx Go.Lib
end Go.Proofs.YthfpekhpeiebjaaGreatDoor
end
section
namespace Go.Proofs.YthfpekhpeiebjaaGreatDoor
open Go.RowKit Go.Sx
end Go.Proofs.YthfpekhpeiebjaaGreatDoor
end
section
/- Whole elements stored into the first of several rows of one's own. -/
namespace Go.Sx
open Go.RowKit
section
variable {P : Program} {Q : Exit → Act → World → Prop} {N : Nat} {w0 : World} {ntm : Nat} {F : List Nat → World → Prop}
theorem At.know {s : S} {p : Prop} (h : ∀ ρ w, F ρ w → p) (k : p → At P Q N w0 ntm F s) : At P Q N w0 ntm F s :=
 fun ρ a w hi hf => k (h ρ w hf) ρ a w hi hf
theorem At.stRN {s : S} {e size n c : Nat} {a : Addr} {xs : List Value} {L : List Rw} (j : Nat) (p : Addr) (l : List SV) (hq : stnI P s = some (p, l)) (hp : p = a.add j) (hj : j + l.length ≤ n * size)
  (h : ∀ ys, At P Q N w0 ntm (Rws N (⟨e, size, some a, n, c, ys⟩ :: L)) s.past) : At P Q N w0 ntm (Rws N (⟨e, size, some a, n, c, xs⟩ :: L)) s := by
 unfold stnI at hq
 split at hq
 ·rename_i o ho hpl
  obtain ⟨all, rest, h1, h2, h3⟩ := S.past_at ho hpl
  intro ρ act w hi hf
  have hrow : Row N e size (some a) n c xs ρ w := hf.1 _ (.head _)
  have ha : a = ⟨a.block, 0, none⟩ := by
   rcases hrow.1.2 with ⟨h', _⟩ | ⟨g, cap, cur, hv, _⟩
   ·cases h'
   injection hv with hv _ _
   injection hv with hv
   rw [hv]
  generalize hg : a.block = g at ha
  subst ha
  have hlen : xs.length = n * size := hrow.1.1
  have hp' : p = ⟨g, j, none⟩ := by rw [hp, add_ok, Nat.zero_add]
  subst hp'
  obtain ⟨hd, hrun⟩ := run_stnQ hi.act hq (w := w) (fun k hk => by
   obtain ⟨g', hg', hcell⟩ := hrow.cell (j := j + k) (by omega)
   injection hg' with hg'
   injection hg' with hg' _ _
   subst hg'
   rw [hcell, List.getElem?_eq_getElem (by omega)]
   rfl) (fun k hk => hrow.1.frozenAt (j + k))
  obtain ⟨ys, hs1, hs2⟩ := storedN (SV.denL ρ l) j w xs hrow.1
  have hown : ∀ k, some g = some k → N ≤ k ∧ k ∉ ρ := fun k hk => by
   injection hk with hk
   subst hk
   exact ⟨(hrow.1.lt g rfl).1, hrow.2 g rfl⟩
  have hk := h ys ρ act _ (by rw [h2]; exact ⟨hi.act, hi.mem.grown hs2 hown⟩) (hf.grown (y := ⟨e, size, some ⟨g, 0, none⟩, n, c, ys⟩) ⟨hs1, hrow.2⟩ hs2 (.inl rfl))
  rw [h2] at hk
  rw [h1]
  show wpList P all _ (o :: rest) act w
  unfold wpList
  rw [if_pos (guardS_ok hi.act h3)]
  refine .inl ?_
  unfold Oper.wp
  rw [hrun, Oper.upon_skip, hd]
  exact hk
 cases hq
end
end Go.Sx
end
