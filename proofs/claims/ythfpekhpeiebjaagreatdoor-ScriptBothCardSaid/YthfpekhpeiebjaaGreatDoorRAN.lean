/- Joined texts: SB, SS, KN, LL, IT, SxRw, AF. -/
import Derived.Test.YthfpekhpeiebjaaGreatDoorRAM
import Derived.Test.YthfpekhpeiebjaaGreatDoorRAC
set_option linter.unusedSectionVars false
set_option linter.unusedSimpArgs false
set_option linter.unusedVariables false
namespace Go.Sx
open Go
def cwAN (g s k sz sl of gp lt ea : Int) (d : Bool) (wk : Int) (A : Option Addr) (n c : Nat) : List SV := [.io .i64 g, .io .i64 s, .io .i64 k, .io .i64 sz, .io .i64 sl, .io .i64 of, .io .i64 gp, .io .i64 lt, .io .i64 ea, .bo d, .io .i64 wk, .sl A n c]
def zAN0 : List SV := [.v (.int .i64 2), .v (.int .i64 0), .v (.string (ByteArray.mk #[])), .v (.int .i64 0), .v (.int .i64 0), .v (.int .i64 0), .v (.int .i64 1), .v (.int .i64 0), .v (.int .i64 0), .v (.int IntKind.u32 0), .v (.int .i64 1), .v (.int .i64 1), .v (.string (ByteArray.mk #[97])), .v (.int .i64 5), .v (.int .i64 (-1)), .v (.int .i64 0), .v (.int .i64 0), .v (.int .i64 0), .v (.int .i64 0), .v (.int IntKind.u32 0)]
def zAN1 : List SV := [.v (.int .i64 4), .v (.int .i64 2), .v (.int .i64 1), .v (.int .i64 10), .v (.int .i64 0), .v (.int .i64 0), .v (.int .i64 0), .v (.int .i64 0), .v (.int .i64 0), .v (.bool false)]
def pAN2 : List Nat := [1, 1, 0, 1, 4, 4, 1, 0, 4, 1]
def pAN3 : List Nat := [1, 1, 0, 1, 4, 4, 1, 1, 1]
def pAN4 : List Nat := [1, 1, 0, 1, 4, 4, 1, 1]
def pAN5 : List Nat := [1, 1, 1]
end Go.Sx
section
/- Plain: what is written is read. -/
namespace Go.Proofs.YthfpekhpeiebjaaGreatDoor
open Go.RowKit Go.Sx Go.Lib
theorem dec_in : ∀ (u : Nat) (b : UInt8), b ∈ Lib.decDigits u → 48 ≤ b.toNat ∧ b.toNat ≤ 57 := by
 intro u
 induction u using Nat.strongRecOn with
 | _ u ih =>
  intro b hb
  by_cases h : u < 10
  ·rw [Lib.decDigits_one h, List.mem_singleton] at hb
   rw [hb, chr u h]
   omega
  ·rw [Lib.decDigits, dif_neg h] at hb
   rcases List.mem_append.1 hb with hb | hb
   ·exact ih (u / 10) (by omega) b hb
   ·rw [List.mem_singleton.1 hb, chr (u % 10) (by omega)]
    omega
theorem itoa_in (n : Int) (b : UInt8) (hb : b ∈ Lib.itoa n) : 45 ≤ b.toNat ∧ b.toNat ≤ 57 := by
 unfold Lib.itoa at hb
 split at hb
 ·rcases List.mem_cons.1 hb with rfl | hb
  ·decide
  ·have := dec_in _ b hb
   omega
 ·have := dec_in _ b hb
  omega
theorem itoa_no (n : Int) (x : UInt8) (hx : x.toNat < 45) : ∀ b ∈ Lib.itoa n, b ≠ x := fun b hb e => by
 have := itoa_in n b hb
 rw [e] at this
 omega
theorem q1_no10 (c : UInt8) : ∀ b ∈ q1 c, b ≠ 10 := by
 intro b hb e
 subst e
 unfold q1 at hb
 split at hb
 ·rename_i h
  rw [List.mem_singleton] at hb
  subst hb
  exact absurd h (by decide)
 ·have hx : ∀ n, n < 16 → hexB n ≠ 10 := by decide
  simp only [List.mem_cons, List.not_mem_nil, or_false] at hb
  rcases hb with hb | hb | hb | hb
  ·exact absurd hb (by decide)
  ·exact absurd hb (by decide)
  ·exact hx (c.toNat / 16) (by have := c.toNat_lt; omega) hb.symm
  ·exact hx (c.toNat % 16) (by omega) hb.symm
theorem quote_no10 (k : List UInt8) : ∀ b ∈ quoteB k, b ≠ 10 := by
 intro b hb e
 subst e
 simp only [quoteB, List.mem_cons, List.mem_append, List.mem_flatMap, List.not_mem_nil, or_false] at hb
 rcases hb with hb | ⟨c, _, hc⟩ | hb
 ·exact absurd hb (by decide)
 ·exact q1_no10 c 10 hc rfl
 ·exact absurd hb (by decide)
theorem cutN_app : ∀ (p r : List UInt8), (∀ b ∈ p, b ≠ 10) → cutN (p ++ r) = (p ++ (cutN r).1, (cutN r).2.1, (cutN r).2.2)
 | [], r, _ => rfl
 | b :: p, r, h => by
  rw [List.cons_append, cutN, if_neg (h b (by simp)), cutN_app p r (fun c hc => h c (by simp [hc]))]
  rfl
theorem cutN_none (p : List UInt8) (h : ∀ b ∈ p, b ≠ 10) : cutN p = (p, [], false) := by
 have := cutN_app p [] h
 rw [List.append_nil] at this
 rw [this]
 simp [cutN]
theorem cutN_hit (p r : List UInt8) (h : ∀ b ∈ p, b ≠ 10) : cutN (p ++ 10 :: r) = (p, r, true) := by
 rw [cutN_app p _ h]
 simp [cutN]
theorem textW_no10 {g s k sz sl of gp lt ea : Int} (hw : wrongR g s k sz sl of gp lt ea = 0) (d : Bool) : ∀ b ∈ textW g s k sz sl of gp lt ea d, b ≠ 10 := by
 obtain ⟨hv0, hv1, hv2, _⟩ := valid_of hw
 have key : ∀ l : List (List UInt8), (∀ x ∈ l, ∀ b ∈ x, b ≠ 10) → ∀ b ∈ Lib.joinTail [32] l, b ≠ 10 := by
  intro l h b hb
  unfold Lib.joinTail at hb
  obtain ⟨y, hy, hby⟩ := List.mem_flatten.1 hb
  obtain ⟨x, hx, rfl⟩ := List.mem_map.1 hy
  rcases List.mem_append.1 hby with hb | hb
  ·rw [List.mem_singleton.1 hb]; decide
  ·exact h x hx b hb
 have hk : ∀ b ∈ kindW k, b ≠ 10 := by rcases hv2 with h | h | h <;> subst h <;> decide
 have hs : ∀ b ∈ saysW d, b ≠ 10 := by cases d <;> decide
 have hi : ∀ n : Int, ∀ b ∈ Lib.itoa n, b ≠ 10 := fun n => itoa_no n 10 (by decide)
 have hall : ∀ x ∈ weaveL wordsW (valsL g s k sz sl of gp lt ea d), ∀ b ∈ x, b ≠ 10 := by
  intro x hx
  simp only [weaveL, wordsW, valsL, List.mem_cons, List.not_mem_nil, or_false] at hx
  rcases hx with rfl | rfl | rfl | rfl | rfl | rfl | rfl | rfl | rfl | rfl | rfl | rfl | rfl | rfl | rfl | rfl | rfl | rfl | rfl | rfl
  all_goals first | exact hi _ | exact hk | exact hs | decide
 have e : weaveL wordsW (valsL g s k sz sl of gp lt ea d) = [103, 114, 111, 117, 112, 115] :: (weaveL wordsW (valsL g s k sz sl of gp lt ea d)).tail := rfl
 unfold textW
 rw [e, Lib.join_cons]
 intro b hb
 rcases List.mem_append.1 hb with hb | hb
 ·exact hall _ (by rw [e]; simp) b hb
 ·exact key _ (fun x hx => hall x (by rw [e]; exact List.mem_cons_of_mem _ hx)) b hb
theorem lineS_no10 (x : St) : ∀ b ∈ lineS x, b ≠ 10 := by
 obtain ⟨kd, ik, key, ti, v, src, wk, wks, bit, mask⟩ := x
 have hi : ∀ n : Int, ∀ b ∈ Lib.itoa n, b ≠ 10 := fun n => itoa_no n 10 (by decide)
 have hq := quote_no10 key
 intro b hb
 have app : ∀ {l r : List UInt8}, (∀ b ∈ l, b ≠ 10) → (∀ b ∈ r, b ≠ 10) → ∀ b ∈ l ++ r, b ≠ 10 := fun h1 h2 b hb => (List.mem_append.1 hb).elim (h1 b) (h2 b)
 revert b hb
 unfold lineS
 simp only
 split
 ·split
  ·exact app (app (app (app (app (by decide) hq) (by decide)) (hi _)) (by decide)) (hi _)
  ·split
   ·exact app (app (app (by decide) (hi _)) (by decide)) (hi _)
   ·decide
 ·split
  ·exact app (by decide) (hi _)
  ·split
   ·exact app (by decide) (hi _)
   ·split
    ·exact app (app (app (by decide) (hi _)) (by decide)) (hi _)
    ·decide
theorem num_itoa {n : Int} (h : in64 n) : numK (Lib.itoa n) = some n := (numK_iff _ _).2 ⟨rfl, h⟩
theorem nums1_itoa {n : Int} (h : in64 n) : numsP (Lib.itoa n) 1 = some [n] := by
 unfold numsP
 rw [pcs_none _ (itoa_no n 32 (by decide))]
 simp [num_itoa h]
theorem nums2_itoa {a b : Int} (h : in64 a) (k : in64 b) : numsP (Lib.itoa a ++ 32 :: Lib.itoa b) 2 = some [a, b] := by
 unfold numsP
 rw [pcs_hit _ _ (itoa_no a 32 (by decide)), pcs_none _ (itoa_no b 32 (by decide))]
 simp [num_itoa h, num_itoa k]
theorem cutB_hit : ∀ (p r : List UInt8), (∀ b ∈ p, b ≠ 32) → cutB (p ++ 32 :: r) = (p, r, true)
 | [], r, _ => rfl
 | c :: p, r, h => by
  have hc : c ≠ 32 := h c (by simp)
  rw [List.cons_append]
  unfold cutB
  rw [if_neg hc, cutB_hit p r (fun b hb => h b (by simp [hb]))]
theorem step_ev {key : List UInt8} {t v : Int} (ht : in64 t) (hv : in64 v) : stepP ([101, 118, 101, 110, 116, 32] ++ quoteB key ++ [32] ++ Lib.itoa t ++ [32] ++ Lib.itoa v) = some (ev key t v) := by
 have hc : cutB ([101, 118, 101, 110, 116, 32] ++ quoteB key ++ [32] ++ Lib.itoa t ++ [32] ++ Lib.itoa v) = ([101, 118, 101, 110, 116], quoteB key ++ (32 :: (Lib.itoa t ++ 32 :: Lib.itoa v)), true) := by
  rw [show [101, 118, 101, 110, 116, 32] ++ quoteB key ++ [32] ++ Lib.itoa t ++ [32] ++ Lib.itoa v = [101, 118, 101, 110, 116] ++ 32 :: (quoteB key ++ (32 :: (Lib.itoa t ++ 32 :: Lib.itoa v))) from by simp]
  exact cutB_hit _ _ (by decide)
 have hk : keyK (quoteB key ++ (32 :: (Lib.itoa t ++ 32 :: Lib.itoa v))) = some (key, 32 :: (Lib.itoa t ++ 32 :: Lib.itoa v)) := (keyK_iff _ _ _).2 rfl
 unfold stepP
 rw [hc]
 simp [hk, nums2_itoa ht hv]
theorem step_mk {src t : Int} (hs : in64 src) (ht : in64 t) : stepP ([109, 97, 114, 107, 32] ++ Lib.itoa src ++ [32] ++ Lib.itoa t) = some (mk src t) := by
 have hc : cutB ([109, 97, 114, 107, 32] ++ Lib.itoa src ++ [32] ++ Lib.itoa t) = ([109, 97, 114, 107], Lib.itoa src ++ 32 :: Lib.itoa t, true) := by
  rw [show [109, 97, 114, 107, 32] ++ Lib.itoa src ++ [32] ++ Lib.itoa t = [109, 97, 114, 107] ++ 32 :: (Lib.itoa src ++ 32 :: Lib.itoa t) from by simp]
  exact cutB_hit _ _ (by decide)
 unfold stepP
 rw [hc]
 simp [nums2_itoa hs ht]
theorem step_pk {n : Int} (hn : in64 n) : stepP ([112, 105, 99, 107, 32] ++ Lib.itoa n) = some (pk n) := by
 have hc : cutB ([112, 105, 99, 107, 32] ++ Lib.itoa n) = ([112, 105, 99, 107], Lib.itoa n, true) := cutB_hit [112, 105, 99, 107] _ (by decide)
 unfold stepP
 rw [hc]
 simp [nums1_itoa hn]
theorem step_rs {n : Int} (hn : in64 n) : stepP ([114, 101, 115, 116, 111, 114, 101, 32] ++ Lib.itoa n) = some (rs n) := by
 have hc : cutB ([114, 101, 115, 116, 111, 114, 101, 32] ++ Lib.itoa n) = ([114, 101, 115, 116, 111, 114, 101], Lib.itoa n, true) := cutB_hit [114, 101, 115, 116, 111, 114, 101] _ (by decide)
 unfold stepP
 rw [hc]
 simp [nums1_itoa hn]
theorem step_sp {n m : Int} (hn : in64 n) (hm : 0 ≤ m ∧ m < 4294967296) : stepP ([115, 112, 111, 105, 108, 32] ++ Lib.itoa n ++ [32] ++ Lib.itoa m) = some (sp n m) := by
 have hc : cutB ([115, 112, 111, 105, 108, 32] ++ Lib.itoa n ++ [32] ++ Lib.itoa m) = ([115, 112, 111, 105, 108], Lib.itoa n ++ 32 :: Lib.itoa m, true) := by
  rw [show [115, 112, 111, 105, 108, 32] ++ Lib.itoa n ++ [32] ++ Lib.itoa m = [115, 112, 111, 105, 108] ++ 32 :: (Lib.itoa n ++ 32 :: Lib.itoa m) from by simp]
  exact cutB_hit _ _ (by decide)
 unfold stepP
 rw [hc]
 simp [nums2_itoa hn (show in64 m from ⟨by omega, by omega⟩), hm]
/-- A step's line is read as that step. -/
theorem step_line {c : Cf} {x : St} (hm : mayB c x = true) (ho : x.ok) : stepP (lineS x) = some x := by
 obtain ⟨kd, ik, key, ti, v, src, wk, wks, bit, mask⟩ := x
 obtain ⟨i0, i1, i2, i3, i4, i5, i6⟩ := ho
 simp only at i0 i1 i2 i3 i4 i5 i6
 unfold lineS
 dsimp only
 by_cases h1 : kd = 1
 ·subst h1
  rw [mayB_1 rfl] at hm
  simp only [Bool.and_eq_true, beq_iff_eq] at hm
  obtain ⟨rfl, rfl, rfl, rfl, hi⟩ := hm
  unfold itB at hi
  rw [if_pos rfl]
  split at hi
  ·rename_i h
   subst h
   simp only [Bool.and_eq_true, decide_eq_true_eq, beq_iff_eq] at hi
   obtain ⟨_, _, rfl⟩ := hi
   rw [if_pos rfl]
   exact step_ev i0 i1
  ·rename_i h
   rw [if_neg h]
   split at hi
   ·rename_i h2
    subst h2
    simp only [Bool.and_eq_true, decide_eq_true_eq, beq_iff_eq] at hi
    obtain ⟨_, _, _, rfl, rfl⟩ := hi
    rw [if_pos rfl]
    exact step_mk i2 i0
   ·rename_i h2
    rw [if_neg h2]
    split at hi
    ·rename_i h3
     subst h3
     simp only [Bool.and_eq_true, decide_eq_true_eq, beq_iff_eq] at hi
     obtain ⟨rfl, rfl, rfl, rfl⟩ := hi
     decide
    ·cases hi
 ·rw [mayB_n h1] at hm
  simp only [Bool.and_eq_true, decide_eq_true_eq, beq_iff_eq] at hm
  obtain ⟨⟨rfl, rfl, rfl, rfl, rfl⟩, hm⟩ := hm
  rw [if_neg h1]
  split at hm
  ·rename_i h
   subst h
   simp only [Bool.and_eq_true, decide_eq_true_eq, beq_iff_eq] at hm
   obtain ⟨rfl, rfl, rfl, _⟩ := hm
   rw [if_pos rfl]
   exact step_pk i3
  ·rename_i h
   rw [if_neg h]
   split at hm
   ·rename_i h3
    subst h3
    simp only [Bool.and_eq_true, decide_eq_true_eq, beq_iff_eq] at hm
    obtain ⟨rfl, rfl, rfl, rfl⟩ := hm
    decide
   ·split at hm
    ·rename_i h4
     subst h4
     simp only [Bool.and_eq_true, decide_eq_true_eq, beq_iff_eq] at hm
     obtain ⟨rfl, rfl, rfl, _⟩ := hm
     rw [if_pos rfl]
     exact step_rs i4
    ·rename_i h4
     rw [if_neg h4]
     split at hm
     ·rename_i h5
      subst h5
      simp only [Bool.and_eq_true, decide_eq_true_eq, beq_iff_eq] at hm
      obtain ⟨rfl, rfl, _⟩ := hm
      rw [if_pos rfl]
      exact step_sp i5 i6
     ·cases hm
theorem cutsP_line {l r : List UInt8} (h : ∀ b ∈ l, b ≠ 10) : cutsP (l ++ 10 :: r) = (l, true) :: cutsP r := by
 have hc := cutN_hit l r h
 cases l with
 | nil => exact cutsP_cons hc
 | cons y l => exact cutsP_cons hc
theorem pref_app (p l : List UInt8) : Lib.hasPrefix (p ++ l) p = true := by simp [Lib.hasPrefix]
theorem trim_app (p l : List UInt8) : Lib.trimPrefix (p ++ l) p = l := by simp [Lib.trimPrefix, pref_app]
/-- The lines of steps, read. -/
theorem run_lines {c : Cf} {wk : Int} : ∀ (xs : List St) (acc : List St) (n : Nat) (rest : List UInt8), (∀ x ∈ xs, mayB c x = true ∧ x.ok) → runL (cutsP ((xs.flatMap fun x => lineS x ++ [10]) ++ rest)) (n + 2) c wk acc = runL (cutsP rest) (n + 2 + xs.length) c wk (acc ++ xs)
 | [], acc, n, rest, _ => by simp
 | x :: xs, acc, n, rest, h => by
  have hx := h x (by simp)
  rw [List.flatMap_cons, show lineS x ++ [10] ++ List.flatMap (fun x => lineS x ++ [10]) xs ++ rest = lineS x ++ 10 :: ((List.flatMap (fun x => lineS x ++ [10]) xs) ++ rest) from by simp]
  rw [cutsP_line (lineS_no10 x), runL_cons, step2_ok (step_line hx.1 hx.2) hx.1]
  simp only
  have ih := run_lines (c := c) (wk := wk) xs (acc ++ [x]) (n + 1) rest (fun y hy => h y (by simp [hy]))
  rw [show n + 3 = n + 1 + 2 from rfl, ih, List.length_cons, List.append_assoc, List.singleton_append]
  congr 1
  omega
theorem run_head {c : Cf} {wk : Int} (hwr : c.wr = 0) (h1 : 1 ≤ wk) (h2 : wk ≤ c.g) (rest : List UInt8) : runL (cutsP ([106, 111, 98, 32] ++ c.text ++ [10, 119, 111, 114, 107, 101, 114, 115, 32] ++ Lib.itoa wk ++ [10] ++ rest)) 0 cf0 0 [] = runL (cutsP rest) 2 c wk [] := by
 have hg : c.g ≤ 32768 := by
  obtain ⟨g, s, k, sz, sl, of, gp, lt, ea, d⟩ := c
  exact (valid_of hwr).1.2
 have ht : ∀ b ∈ c.text, b ≠ 10 := by
  obtain ⟨g, s, k, sz, sl, of, gp, lt, ea, d⟩ := c
  exact textW_no10 hwr d
 have app : ∀ {l r : List UInt8}, (∀ b ∈ l, b ≠ 10) → (∀ b ∈ r, b ≠ 10) → ∀ b ∈ l ++ r, b ≠ 10 := fun h1 h2 b hb => (List.mem_append.1 hb).elim (h1 b) (h2 b)
 rw [show [106, 111, 98, 32] ++ c.text ++ [10, 119, 111, 114, 107, 101, 114, 115, 32] ++ Lib.itoa wk ++ [10] ++ rest = (jobT ++ c.text) ++ 10 :: ((worT ++ Lib.itoa wk) ++ 10 :: rest) from by simp [jobT, worT]]
 rw [cutsP_line (app (by decide) ht), runL_cons, step0_ok (pref_app _ _) (by rw [trim_app]; exact (cfgP_iff _ _).2 ⟨hwr, rfl⟩)]
 simp only
 rw [cutsP_line (app (by decide) (itoa_no wk 10 (by decide))), runL_cons, step1_ok (pref_app _ _) (by rw [trim_app]; exact nums1_itoa ⟨by omega, by omega⟩) (by omega)]
/-- What is written is read. -/
theorem parse_script {c : Cf} {wk : Int} {xs : List St} (h : (chkP c wk xs).2 = 0) (ho : ∀ x ∈ xs, x.ok) : parseS (scriptB c wk xs) = ⟨xs.length + 2, c, wk, xs, none⟩ := by
 obtain ⟨hwr, h1, h2, hm⟩ := chk_ok h
 unfold parseS scriptB
 rw [run_head hwr h1 h2]
 have := run_lines (c := c) (wk := wk) xs [] 0 [] (fun x hx => ⟨hm x hx, ho x hx⟩)
 rw [List.append_nil] at this
 rw [this, cutsP_nil, List.nil_append]
 simp [runL]
 omega
end Go.Proofs.YthfpekhpeiebjaaGreatDoor
end
section
namespace Go.Proofs.YthfpekhpeiebjaaGreatDoor
open Go.RowKit Go.Sx
noncomputable def B11 : Code := (Tryz.f11.body).getD .skip
theorem cf_beq (ga sa ka sza sla ofa gpa lta eaa gb sb kb szb slb ofb gpb ltb eab : Int) (da db : Bool) : (ga == gb && (sa == sb && (ka == kb && (sza == szb && (sla == slb && (ofa == ofb && (gpa == gpb && (lta == ltb && (eaa == eab && (da == db && true)))))))))) = decide (((Cf.mk ga sa ka sza sla ofa gpa lta eaa da) : Cf) = (Cf.mk gb sb kb szb slb ofb gpb ltb eab db)) := by
 rw [Bool.eq_iff_iff]
 simp [and_assoc]
theorem cf_ne {ga sa ka sza sla ofa gpa lta eaa gb sb kb szb slb ofb gpb ltb eab : Int} {da db : Bool} (h : (!(ga == gb && (sa == sb && (ka == kb && (sza == szb && (sla == slb && (ofa == ofb && (gpa == gpb && (lta == ltb && (eaa == eab && (da == db && true))))))))))) = true) : ((Cf.mk ga sa ka sza sla ofa gpa lta eaa da) : Cf) ≠ (Cf.mk gb sb kb szb slb ofb gpb ltb eab db) := fun e => by
 rw [cf_beq, decide_eq_true e] at h
 cases h
theorem cf_eq {ga sa ka sza sla ofa gpa lta eaa gb sb kb szb slb ofb gpb ltb eab : Int} {da db : Bool} (h : (!(ga == gb && (sa == sb && (ka == kb && (sza == szb && (sla == slb && (ofa == ofb && (gpa == gpb && (lta == ltb && (eaa == eab && (da == db && true))))))))))) = false) : ((Cf.mk ga sa ka sza sla ofa gpa lta eaa da) : Cf) = (Cf.mk gb sb kb szb slb ofb gpb ltb eab db) := by
 rw [cf_beq] at h
 exact of_decide_eq_true (by simpa only [Bool.not_eq_false'] using h)
theorem st_beq (kda ika tia va srca wka wksa bita maska kdb ikb tib vb srcb wkb wksb bitb maskb : Int) (keya keyb : List UInt8) : (kda == kdb && ((ika == ikb && ((mkB keya).toList == (mkB keyb).toList && (tia == tib && (va == vb && (srca == srcb && true))))) && (wka == wkb && (wksa == wksb && (bita == bitb && (maska == maskb && true)))))) = decide (((St.mk kda ika keya tia va srca wka wksa bita maska) : St) = (St.mk kdb ikb keyb tib vb srcb wkb wksb bitb maskb)) := by
 rw [Bool.eq_iff_iff, str_beq]
 simp [and_assoc]
theorem st_ne {kda ika tia va srca wka wksa bita maska kdb ikb tib vb srcb wkb wksb bitb maskb : Int} {keya keyb : List UInt8} (h : (!(kda == kdb && ((ika == ikb && ((mkB keya).toList == (mkB keyb).toList && (tia == tib && (va == vb && (srca == srcb && true))))) && (wka == wkb && (wksa == wksb && (bita == bitb && (maska == maskb && true))))))) = true) : ((St.mk kda ika keya tia va srca wka wksa bita maska) : St) ≠ (St.mk kdb ikb keyb tib vb srcb wkb wksb bitb maskb) := fun e => by
 rw [st_beq, decide_eq_true e] at h
 cases h
theorem st_eq {kda ika tia va srca wka wksa bita maska kdb ikb tib vb srcb wkb wksb bitb maskb : Int} {keya keyb : List UInt8} (h : (!(kda == kdb && ((ika == ikb && ((mkB keya).toList == (mkB keyb).toList && (tia == tib && (va == vb && (srca == srcb && true))))) && (wka == wkb && (wksa == wksb && (bita == bitb && (maska == maskb && true))))))) = false) : ((St.mk kda ika keya tia va srca wka wksa bita maska) : St) = (St.mk kdb ikb keyb tib vb srcb wkb wksb bitb maskb) := by
 rw [st_beq] at h
 exact of_decide_eq_true (by simpa only [Bool.not_eq_false'] using h)
def frS (i : Nat) : Fr := [(2, .lp 0 0), (3, .lp 1 0), (5, .io .i64 (i : Int))]
def locS (c : Cf) (wk : Int) (A : Option Addr) (n cap : Nat) (c2 : Cf) (wk2 : Int) (B : Option Addr) (m cap2 : Nat) (_ : Nat) : Sx.Loc := match c, c2 with
 | (Cf.mk ga sa ka sza sla ofa gpa lta eaa da), (Cf.mk gb sb kb szb slb ofb gpb ltb eab db) => [((cwAN ga sa ka sza sla ofa gpa lta eaa da wk A n cap), 28), ((cwAN gb sb kb szb slb ofb gpb ltb eab db wk2 B m cap2), 28)]
set_option maxHeartbeats 8000000 in
set_option maxRecDepth 100000 in
theorem same_go (ga sa ka sza sla ofa gpa lta eaa : Int) (da : Bool) (wka : Int) (A : Option Addr) (n ca : Nat) (xs : List St) (gb sb kb szb slb ofb gpb ltb eab : Int) (db : Bool) (wkb : Int) (B : Option Addr) (m cb : Nat) (ys : List St) (w : World) (hS : SlS w A n xs) (hT : SlS w B m ys) (hn : n ≤ 1048576) (hm2 : m ≤ 1048576) :
  Calls Tryz.prog 11 #[.agg #[.int .i64 ga, .int .i64 sa, .int .i64 ka, .int .i64 sza, .int .i64 sla, .int .i64 ofa, .int .i64 gpa, .int .i64 lta, .int .i64 eaa, .bool da, .int .i64 wka, .slice A n ca], .agg #[.int .i64 gb, .int .i64 sb, .int .i64 kb, .int .i64 szb, .int .i64 slb, .int .i64 ofb, .int .i64 gpb, .int .i64 ltb, .int .i64 eab, .bool db, .int .i64 wkb, .slice B m cb]] w fun e w' => e = .returned (.bool (decide (((Cf.mk ga sa ka sza sla ofa gpa lta eaa da) : Cf) = (Cf.mk gb sb kb szb slb ofb gpb ltb eab db) ∧ wka = wkb ∧ xs = ys))) ∧ Below w.heap.size w w' := by
 refine enter (fn := Tryz.f11) (c := B11) [.agg (cwAN ga sa ka sza sla ofa gpa lta eaa da wka A n ca), .agg (cwAN gb sb kb szb slb ofb gpb ltb eab db wkb B m cb)] Tryz.func11 rfl rfl ?_
 refine At.to (noF_stable) (noF_fewer) 0 300 [2, 3, 11] 2 ⟨pops B11 [1, 0, 0] 6, [.seq (sub B11 [1, 0, 1]), .seq (sub B11 [1, 1])], [(2, .lp 0 0), (3, .lp 1 0), (11, .bo !(ga == gb && (sa == sb && (ka == kb && (sza == szb && (sla == slb && (ofa == ofb && (gpa == gpb && (lta == ltb && (eaa == eab && (da == db && true)))))))))))], [((cwAN ga sa ka sza sla ofa gpa lta eaa da wka A n ca), 28), ((cwAN gb sb kb szb slb ofb gpb ltb eab db wkb B m cb), 28)]⟩ (by kernel_rfl) (by kernel_rfl) ?_
 rcases Bool.eq_false_or_eq_true (!(ga == gb && (sa == sb && (ka == kb && (sza == szb && (sla == slb && (ofa == ofb && (gpa == gpb && (lta == ltb && (eaa == eab && (da == db && true))))))))))) with b0 | b0
 ·refine At.res 11 (!(ga == gb && (sa == sb && (ka == kb && (sza == szb && (sla == slb && (ofa == ofb && (gpa == gpb && (lta == ltb && (eaa == eab && (da == db && true))))))))))) true (by kernel_rfl) b0 ?_
  refine At.to (noF_stable) (noF_fewer) 0 300 [4] 0 ⟨.exit .ret, [], [(4, .v (.bool false))], []⟩ (by kernel_rfl) (by kernel_rfl) ?_
  refine At.ret (by kernel_rfl) (.v (.bool false)) (by kernel_rfl) ?_
  have hne : (Cf.mk ga sa ka sza sla ofa gpa lta eaa da) ≠ (Cf.mk gb sb kb szb slb ofb gpb ltb eab db) := cf_ne b0
  rw [show decide ((Cf.mk ga sa ka sza sla ofa gpa lta eaa da) = (Cf.mk gb sb kb szb slb ofb gpb ltb eab db) ∧ wka = wkb ∧ xs = ys) = false from decide_eq_false fun ⟨e1, e2, e3⟩ => hne e1]
  intro ρ w9 hm' hf
  exact ⟨rfl, hm'.below⟩
 ·refine At.res 11 (!(ga == gb && (sa == sb && (ka == kb && (sza == szb && (sla == slb && (ofa == ofb && (gpa == gpb && (lta == ltb && (eaa == eab && (da == db && true))))))))))) false (by kernel_rfl) b0 ?_
  refine At.to (noF_stable) (noF_fewer) 0 300 [2, 3, 18] 2 ⟨pops B11 [1, 0, 0] 13, [.seq (sub B11 [1, 0, 1]), .seq (sub B11 [1, 1])], [(2, .lp 0 0), (3, .lp 1 0), (18, .bo (wka != wkb))], [((cwAN ga sa ka sza sla ofa gpa lta eaa da wka A n ca), 28), ((cwAN gb sb kb szb slb ofb gpb ltb eab db wkb B m cb), 28)]⟩ (by kernel_rfl) (by kernel_rfl) ?_
  rcases Bool.eq_false_or_eq_true (wka != wkb) with b1 | b1
  ·refine At.res 18 (wka != wkb) true (by kernel_rfl) b1 ?_
   refine At.to (noF_stable) (noF_fewer) 0 300 [4] 0 ⟨.exit .ret, [], [(4, .v (.bool false))], []⟩ (by kernel_rfl) (by kernel_rfl) ?_
   refine At.ret (by kernel_rfl) (.v (.bool false)) (by kernel_rfl) ?_
   have hne : wka ≠ wkb := by simpa using b1
   rw [show decide ((Cf.mk ga sa ka sza sla ofa gpa lta eaa da) = (Cf.mk gb sb kb szb slb ofb gpb ltb eab db) ∧ wka = wkb ∧ xs = ys) = false from decide_eq_false fun ⟨e1, e2, e3⟩ => hne e2]
   intro ρ w9 hm' hf
   exact ⟨rfl, hm'.below⟩
  ·refine At.res 18 (wka != wkb) false (by kernel_rfl) b1 ?_
   refine At.to (noF_stable) (noF_fewer) 0 300 [2, 3, 26] 2 ⟨.code (sub B11 [1, 0, 1]), [.seq (sub B11 [1, 1])], [(2, .lp 0 0), (3, .lp 1 0), (26, .bo ((↑n : Int) != (↑m : Int)))], [((cwAN ga sa ka sza sla ofa gpa lta eaa da wka A n ca), 28), ((cwAN gb sb kb szb slb ofb gpb ltb eab db wkb B m cb), 28)]⟩ (by kernel_rfl) (by kernel_rfl) ?_
   rcases Bool.eq_false_or_eq_true ((↑n : Int) != (↑m : Int)) with b2 | b2
   ·refine At.res 26 ((↑n : Int) != (↑m : Int)) true (by kernel_rfl) b2 ?_
    refine At.to (noF_stable) (noF_fewer) 0 300 [4] 0 ⟨.exit .ret, [], [(4, .v (.bool false))], []⟩ (by kernel_rfl) (by kernel_rfl) ?_
    refine At.ret (by kernel_rfl) (.v (.bool false)) (by kernel_rfl) ?_
    have hne : n ≠ m := by simp at b2; omega
    rw [show decide ((Cf.mk ga sa ka sza sla ofa gpa lta eaa da) = (Cf.mk gb sb kb szb slb ofb gpb ltb eab db) ∧ wka = wkb ∧ xs = ys) = false from decide_eq_false fun ⟨e1, e2, e3⟩ => hne (by rw [hS.1, hT.1, e3])]
    intro ρ w9 hm' hf
    exact ⟨rfl, hm'.below⟩
   ·refine At.res 26 ((↑n : Int) != (↑m : Int)) false (by kernel_rfl) b2 ?_
    refine At.to (noF_stable) (noF_fewer) 0 300 [2, 3, 5] 2 ⟨.code (sub B11 [1, 1, 0, 1, 4]), [.block 0, .seq (sub B11 pAN5)], [(2, .lp 0 0), (3, .lp 1 0), (5, .v (.int .i64 0))], [((cwAN ga sa ka sza sla ofa gpa lta eaa da wka A n ca), 28), ((cwAN gb sb kb szb slb ofb gpb ltb eab db wkb B m cb), 28)]⟩ (by kernel_rfl) (by kernel_rfl) ?_
    have he1 : (Cf.mk ga sa ka sza sla ofa gpa lta eaa da) = (Cf.mk gb sb kb szb slb ofb gpb ltb eab db) := cf_eq b0
    have he2 : wka = wkb := by simpa using b1
    have hnm : n = m := by simp at b2; omega
    clear b0 b1 b2
    refine At.canonT [5] _ rfl ?_
    refine At.loop (σ := Nat) (sub B11 [1, 1, 0, 1, 4, 4]) frS (locS (Cf.mk ga sa ka sza sla ofa gpa lta eaa da) wka A n ca (Cf.mk gb sb kb szb slb ofb gpb ltb eab db) wkb B m cb) (fun i _ _ => True ∧ (i ≤ n ∧ ∀ k, k < i → xs[k]? = ys[k]?)) (fun i => n - i) 0 (by kernel_rfl) (by unfold subFr; kernel_rfl) (by kernel_rfl) (fun _ _ _ _ h => ⟨trivial, Nat.zero_le _, fun k hk => absurd hk (Nat.not_lt_zero k)⟩) ?_
    intro i
    refine At.pure fun ⟨h1, h2⟩ => ?_
    refine At.to (noF_stable) (noF_fewer) 0 300 [2, 3, 5, 31] 2 ⟨.code (sub B11 [1, 1, 0, 1, 4, 4, 0, 1]), [.seq (sub B11 [1, 1, 0, 1, 4, 4, 1]), .next (Sx.Next w.heap.size w Tryz.f11.ntmps frS (locS (Cf.mk ga sa ka sza sla ofa gpa lta eaa da) wka A n ca (Cf.mk gb sb kb szb slb ofb gpb ltb eab db) wkb B m cb) (fun i x x_1 => True ∧ i ≤ n ∧ ∀ (k : Nat), k < i → xs[k]? = ys[k]?) (fun i => n - i) i), .block 0, .seq (sub B11 pAN5)], [(2, .lp 0 0), (3, .lp 1 0), (5, .io .i64 (↑i : Int)), (31, .bo (decide ((↑i : Int) < (↑n : Int))))], [((cwAN ga sa ka sza sla ofa gpa lta eaa da wka A n ca), 28), ((cwAN gb sb kb szb slb ofb gpb ltb eab db wkb B m cb), 28)]⟩ (by kernel_rfl) (by kernel_rfl) ?_
    rcases Bool.eq_false_or_eq_true (decide ((↑i : Int) < (↑n : Int))) with b0 | b0
    ·refine At.res 31 (decide ((↑i : Int) < (↑n : Int))) true (by kernel_rfl) b0 ?_
     refine At.to (noF_stable) (noF_fewer) 0 300 [2, 3, 5, 35, 36] 2 ⟨pqops B11 [1, 1, 0, 1, 4, 4, 1, 0, 4, 0] 3, [.seq (sub B11 pAN2), .block 1, .seq (sub B11 pAN4), .next (Sx.Next w.heap.size w Tryz.f11.ntmps frS (locS (Cf.mk ga sa ka sza sla ofa gpa lta eaa da) wka A n ca (Cf.mk gb sb kb szb slb ofb gpb ltb eab db) wkb B m cb) (fun i x x_1 => True ∧ i ≤ n ∧ ∀ (k : Nat), k < i → xs[k]? = ys[k]?) (fun i => n - i) i), .block 0, .seq (sub B11 pAN5)], [(2, .lp 0 0), (3, .lp 1 0), (5, .io .i64 (↑i : Int)), (35, .sl A n ca), (36, .io .i64 (↑i : Int))], [((cwAN ga sa ka sza sla ofa gpa lta eaa da wka A n ca), 28), ((cwAN gb sb kb szb slb ofb gpb ltb eab db wkb B m cb), 28)]⟩ (by kernel_rfl) (by kernel_rfl) ?_
     have hi : i < n := by have := of_decide_eq_true b0; omega
     clear b0
     obtain ⟨x, hx⟩ : ∃ x, xs[i]? = some x := ⟨_, List.getElem?_eq_getElem (by rw [← hS.1]; exact hi)⟩
     obtain ⟨y, hy⟩ : ∃ y, ys[i]? = some y := ⟨_, List.getElem?_eq_getElem (by rw [← hT.1]; omega)⟩
     obtain ⟨a, rfl, hcell⟩ := hS.get hx
     obtain ⟨b, rfl, hcel2⟩ := hT.get hy
     obtain ⟨kda, ika, keya, tia, va, srca, wkc, wksa, bita, maska⟩ := x
     obtain ⟨kdb, ikb, keyb, tib, vb, srcb, wkd, wksb, bitb, maskb⟩ := y
     refine At.idx a n 10 (i : Int) (by kernel_rfl) (by omega) (by omega) noF_stable ?_
     refine At.lda (a.add ((i : Int).toNat * 10)) 10 [.io .i64 kda, .io .i64 ika, .so (mkB keya), .io .i64 tia, .io .i64 va, .io .i64 srca, .io .i64 wkc, .io .i64 wksa, .io .i64 bita, .io .u32 maska] (by kernel_rfl) rfl noF_stable (fun ρ w1 hm' hf j v2 hj => cell_below (hcell j v2 hj) hm'.below) ?_
     refine At.to (noF_stable) (noF_fewer) 0 300 [2, 3, 5, 38, 40, 41] 2 ⟨pqops B11 [1, 1, 0, 1, 4, 4, 1, 0, 4, 0] 8, [.seq (sub B11 pAN2), .block 1, .seq (sub B11 pAN4), .next (Sx.Next w.heap.size w Tryz.f11.ntmps frS (locS (Cf.mk ga sa ka sza sla ofa gpa lta eaa da) wka (some a) n ca (Cf.mk gb sb kb szb slb ofb gpb ltb eab db) wkb (some b) m cb) (fun i x x_1 => True ∧ i ≤ n ∧ ∀ (k : Nat), k < i → xs[k]? = ys[k]?) (fun i => n - i) i), .block 0, .seq (sub B11 pAN5)], [(2, .lp 0 0), (3, .lp 1 0), (5, .io .i64 (↑i : Int)), (38, .agg [.io .i64 kda, .io .i64 ika, .so (mkB keya), .io .i64 tia, .io .i64 va, .io .i64 srca, .io .i64 wkc, .io .i64 wksa, .io .i64 bita, .io IntKind.u32 maska]), (40, .sl (some b) m cb), (41, .io .i64 (↑i : Int))], [((cwAN ga sa ka sza sla ofa gpa lta eaa da wka (some a) n ca), 28), ((cwAN gb sb kb szb slb ofb gpb ltb eab db wkb (some b) m cb), 28)]⟩ (by kernel_rfl) (by kernel_rfl) ?_
     refine At.idx b m 10 (i : Int) (by kernel_rfl) (by omega) (by omega) noF_stable ?_
     refine At.lda (b.add ((i : Int).toNat * 10)) 10 [.io .i64 kdb, .io .i64 ikb, .so (mkB keyb), .io .i64 tib, .io .i64 vb, .io .i64 srcb, .io .i64 wkd, .io .i64 wksb, .io .i64 bitb, .io .u32 maskb] (by kernel_rfl) rfl noF_stable (fun ρ w1 hm' hf j v2 hj => cell_below (hcel2 j v2 hj) hm'.below) ?_
     refine At.to (noF_stable) (noF_fewer) 0 300 [2, 3, 5, 44] 2 ⟨.code (sub B11 pAN2), [.block 1, .seq (sub B11 pAN4), .next (Sx.Next w.heap.size w Tryz.f11.ntmps frS (locS (Cf.mk ga sa ka sza sla ofa gpa lta eaa da) wka (some a) n ca (Cf.mk gb sb kb szb slb ofb gpb ltb eab db) wkb (some b) m cb) (fun i x x_1 => True ∧ i ≤ n ∧ ∀ (k : Nat), k < i → xs[k]? = ys[k]?) (fun i => n - i) i), .block 0, .seq (sub B11 pAN5)], [(2, .lp 0 0), (3, .lp 1 0), (5, .io .i64 (↑i : Int)), (44, .bo !(kda == kdb && (ika == ikb && ((mkB keya).toList == (mkB keyb).toList && (tia == tib && (va == vb && (srca == srcb && true)))) && (wkc == wkd && (wksa == wksb && (bita == bitb && (maska == maskb && true)))))))], [((cwAN ga sa ka sza sla ofa gpa lta eaa da wka (some a) n ca), 28), ((cwAN gb sb kb szb slb ofb gpb ltb eab db wkb (some b) m cb), 28)]⟩ (by kernel_rfl) (by kernel_rfl) ?_
     rcases Bool.eq_false_or_eq_true (!(kda == kdb && (ika == ikb && ((mkB keya).toList == (mkB keyb).toList && (tia == tib && (va == vb && (srca == srcb && true)))) && (wkc == wkd && (wksa == wksb && (bita == bitb && (maska == maskb && true))))))) with b0 | b0
     ·refine At.res 44 (!(kda == kdb && (ika == ikb && ((mkB keya).toList == (mkB keyb).toList && (tia == tib && (va == vb && (srca == srcb && true)))) && (wkc == wkd && (wksa == wksb && (bita == bitb && (maska == maskb && true))))))) true (by kernel_rfl) b0 ?_
      refine At.to (noF_stable) (noF_fewer) 0 300 [4] 0 ⟨.exit .ret, [], [(4, .v (.bool false))], []⟩ (by kernel_rfl) (by kernel_rfl) ?_
      refine At.ret (by kernel_rfl) (.v (.bool false)) (by kernel_rfl) ?_
      have hne : ((St.mk kda ika keya tia va srca wkc wksa bita maska) : St) ≠ (St.mk kdb ikb keyb tib vb srcb wkd wksb bitb maskb) := st_ne b0
      rw [show decide ((Cf.mk ga sa ka sza sla ofa gpa lta eaa da) = (Cf.mk gb sb kb szb slb ofb gpb ltb eab db) ∧ wka = wkb ∧ xs = ys) = false from decide_eq_false fun ⟨e1, e2, e3⟩ => hne (by rw [e3, hy] at hx; exact (Option.some.inj hx).symm)]
      intro ρ w9 hm' hf
      exact ⟨rfl, hm'.below⟩
     ·refine At.res 44 (!(kda == kdb && (ika == ikb && ((mkB keya).toList == (mkB keyb).toList && (tia == tib && (va == vb && (srca == srcb && true)))) && (wkc == wkd && (wksa == wksb && (bita == bitb && (maska == maskb && true))))))) false (by kernel_rfl) b0 ?_
      refine At.to (noF_stable) (noF_fewer) 0 300 [2, 3, 5] 2 ⟨.exit .normal, [.next (Sx.Next w.heap.size w Tryz.f11.ntmps frS (locS (Cf.mk ga sa ka sza sla ofa gpa lta eaa da) wka (some a) n ca (Cf.mk gb sb kb szb slb ofb gpb ltb eab db) wkb (some b) m cb) (fun i x x_1 => True ∧ i ≤ n ∧ ∀ (k : Nat), k < i → xs[k]? = ys[k]?) (fun i => n - i) i), .block 0, .seq (sub B11 pAN5)], [(2, .lp 0 0), (3, .lp 1 0), (5, .io .i64 (IntKind.i64.wrap ((↑i : Int) + 1)))], [((cwAN ga sa ka sza sla ofa gpa lta eaa da wka (some a) n ca), 28), ((cwAN gb sb kb szb slb ofb gpb ltb eab db wkb (some b) m cb), 28)]⟩ (by kernel_rfl) (by kernel_rfl) ?_
      have heq : ((St.mk kda ika keya tia va srca wkc wksa bita maska) : St) = (St.mk kdb ikb keyb tib vb srcb wkd wksb bitb maskb) := st_eq b0
      have hw3 : IntKind.i64.wrap ((i : Int) + 1) = ((i + 1 : Nat) : Int) := by
       rw [wrap63 (by omega) (by omega)]
       omega
      rw [hw3]
      refine At.next (σ := Nat) (i + 1) rfl rfl (by unfold subFr; kernel_rfl) (by kernel_rfl) ?_ ?_
      ·intro ρ a' w' hi' hf
       refine ⟨trivial, by omega, fun k hk => ?_⟩
       by_cases hki : k = i
       ·subst hki
        rw [hx, hy, heq]
       ·exact h2 k (by omega)
      ·show n - (i + 1) < n - i
       omega
    ·refine At.res 31 (decide ((↑i : Int) < (↑n : Int))) false (by kernel_rfl) b0 ?_
     refine At.to (noF_stable) (noF_fewer) 0 300 [4] 0 ⟨.exit .ret, [], [(4, .v (.bool true))], []⟩ (by kernel_rfl) (by kernel_rfl) ?_
     refine At.ret (by kernel_rfl) (.v (.bool true)) (by kernel_rfl) ?_
     have hi : ¬ (i : Int) < (n : Int) := of_decide_eq_false b0
     rw [show decide ((Cf.mk ga sa ka sza sla ofa gpa lta eaa da) = (Cf.mk gb sb kb szb slb ofb gpb ltb eab db) ∧ wka = wkb ∧ xs = ys) = true from decide_eq_true ⟨he1, he2, List.ext_getElem? fun k => if hk : k < i then h2 k hk else by rw [List.getElem?_eq_none (by rw [← hS.1]; omega), List.getElem?_eq_none (by rw [← hT.1]; omega)]⟩]
     intro ρ w9 hm' hf
     exact ⟨rfl, hm'.below⟩
end Go.Proofs.YthfpekhpeiebjaaGreatDoor
end
section
namespace Go.Proofs.YthfpekhpeiebjaaGreatDoor
open Go.RowKit Go.Sx
def kc : Cf := ⟨4, 2, 1, 10, 0, 0, 0, 0, 0, false⟩
def kx : List St := [pk 1, ev [97] 5 (-1)]
def kt : List UInt8 := [106, 111, 98, 32, 103, 114, 111, 117, 112, 115, 32, 52, 32, 115, 111, 117, 114, 99, 101, 115, 32, 50, 32, 107, 105, 110, 100, 32, 116, 117, 109, 98, 108, 105, 110, 103, 32, 115, 105, 122, 101, 32, 49, 48, 32, 115, 108, 105, 100, 101, 32, 48, 32, 111, 102, 102, 115, 101, 116, 32, 48, 32, 103, 97, 112, 32, 48, 32, 108, 97, 116, 101, 32, 48, 32, 101, 97, 114, 108, 121, 32, 48, 32, 100, 105, 115, 99, 97, 114, 100, 32, 110, 111, 10, 119, 111, 114, 107, 101, 114, 115, 32, 50, 10, 112, 105, 99, 107, 32, 49, 10, 101, 118, 101, 110, 116, 32, 34, 97, 34, 32, 53, 32, 45, 49, 10]
theorem kchk : (chkP kc 2 kx).2 = 0 := by decide +kernel
theorem kok : ∀ x ∈ kx, x.ok := by
 intro x hx
 simp only [kx, List.mem_cons, List.not_mem_nil, or_false] at hx
 rcases hx with rfl | rfl <;> simp [St.ok, pk, ev, in64]
def kF (a b c d e f g : List UInt8) : List UInt8 := [106, 111, 98, 32] ++ Lib.join (weaveL wordsW [a, b, kindW 1, d, e, e, e, e, e, saysW false]) [32] ++ [10, 119, 111, 114, 107, 101, 114, 115, 32] ++ b ++ [10] ++ (([112, 105, 99, 107, 32] ++ c ++ [10]) ++ (([101, 118, 101, 110, 116, 32] ++ quoteB [97] ++ [32] ++ f ++ [32] ++ g ++ [10]) ++ []))
theorem dec1 {u : Nat} (h : u < 10) : Lib.decDigits u = [UInt8.ofNat (48 + u)] := by
 rw [Lib.decDigits, dif_pos h]
theorem ito1 (u : Nat) (h : u < 10) : Lib.itoa (u : Int) = [UInt8.ofNat (48 + u)] := by
 unfold Lib.itoa
 rw [if_neg (by omega), Int.toNat_natCast, dec1 h]
theorem it10 : Lib.itoa 10 = [49, 48] := by
 show Lib.decDigits 10 = _
 rw [Lib.decDigits, dif_neg (by decide), dec1 (by decide)]
 rfl
theorem itm1 : Lib.itoa (-1) = [45, 49] := by
 show 45 :: Lib.decDigits 1 = _
 rw [dec1 (by decide)]
 rfl
theorem ktext : scriptB kc 2 kx = kt := by
 have h : scriptB kc 2 kx = kF (Lib.itoa (4 : Nat)) (Lib.itoa (2 : Nat)) (Lib.itoa (1 : Nat)) (Lib.itoa 10) (Lib.itoa (0 : Nat)) (Lib.itoa (5 : Nat)) (Lib.itoa (-1)) := rfl
 rw [h, ito1 4 (by decide), ito1 2 (by decide), ito1 1 (by decide), ito1 0 (by decide), ito1 5 (by decide), it10, itm1]
 decide +kernel
theorem kparse : parseS kt = ⟨4, kc, 2, kx, none⟩ := by
 rw [← ktext]
 exact parse_script kchk kok
theorem ent_sls {w0 w : World} {A : Option Addr} {n c n2 : Nat} {B : Option Addr} {xs : List St} {ρ : List Nat} (h : EntV w0 A n c (B, stW xs) ρ w) (hn : n2 = xs.length) : SlS w B n2 xs := by
 obtain ⟨b, hb, _, _, _, _, hs⟩ := h
 simp only at hb
 subst hb
 exact ⟨hn, by simp, fun a ha => by injection ha with ha; subst ha; exact hs⟩
noncomputable def B8 : Code := (Tryz.f8.body).getD .skip
set_option maxHeartbeats 8000000 in
set_option maxRecDepth 100000 in
theorem known_true (w : World) (hw : Wd w) : Calls Tryz.prog 8 #[] w fun e w' => e = .returned (.bool true) ∧ Below w.heap.size w w' := by
 refine enterF (N := w.heap.size) (F := RowE w (fun _ => False) [] w.heap.size 41 10 none 0 0 [] []) (fn := Tryz.f8) (c := B8) [] Tryz.func8 rfl rfl (Nat.le_refl _) ⟨⟨⟨⟨World.ownsRow_nil _ _ _ _, by simp [Value.ownBlock]⟩, Nat.le_refl _⟩, FrameR.start _ [] (by simp), by simp [Value.ownBlock]⟩, by simp⟩ ?_
 refine At.toJ (RowE.stable) RowE.fewer 20 300 [9, 13] 1 ⟨pops B8 [1, 0] 5, [.seq (sub B8 [1, 1])], [(9, .agg zAN1), (13, .ls 0 0 2 2)], [(zAN0, 41)]⟩ (by kernel_rfl) (by kernel_rfl) ?_
 refine At.mkrowE (e2 := 41) (size2 := 10) 15 [.agg zAN1, .v (.int .i64 2), .ls 0 0 2 2] (fun A' n' c' => .tup [.agg [.v (.int .i64 4), .v (.int .i64 2), .v (.int .i64 1), .v (.int .i64 10), .v (.int .i64 0), .v (.int .i64 0), .v (.int .i64 0), .v (.int .i64 0), .v (.int .i64 0), .v (.bool false), .v (.int .i64 2), .sl A' n' c'], .v (.int .i64 0)]) (stW kx) (by kernel_rfl) (by kernel_rfl) (by kernel_rfl) (by kernel_rfl) (by kernel_rfl) (by simp [stW, St.w, kx, pk]) (fun ρ w1 hm' hf => ?_) ?_
 ·have hS : SlS w1 (some ⟨nth ρ 0, 0, none⟩) 2 kx := ⟨rfl, by simp, fun a ha j u hj => by
   injection ha with ha
   subst ha
   rw [add_ok, cell_of_loc hm' (i := 0) rfl, Nat.zero_add, ← List.getElem?_map]
   exact hj⟩
  refine (put_go 4 2 1 10 0 0 0 0 0 false 2 (some ⟨nth ρ 0, 0, none⟩) 2 2 kx w1 hS (by decide)).mono fun e w2 h => ?_
  unfold putE at h
  rw [if_pos (show (chkP ⟨4, 2, 1, 10, 0, 0, 0, 0, 0, false⟩ 2 kx).2 = 0 from kchk)] at h
  obtain ⟨A', c', h1, h2⟩ := h
  exact ⟨A', 2, c', h1, h2⟩
 intro A1 n1 c1
 refine At.pure fun ⟨hn1, hc1⟩ => ?_
 obtain rfl : n1 = 2 := by
  have h20 : (stW kx).length = 20 := rfl
  omega
 clear hn1 hc1
 refine At.toJ (RowE.stable) RowE.fewer 20 300 [1, 2, 18] 2 ⟨pops B8 [1, 1, 0] 1, [.seq (sub B8 pAN5)], [(1, .lp 1 0), (2, .v (.int .i64 0)), (18, .agg [.v (.int .i64 4), .v (.int .i64 2), .v (.int .i64 1), .v (.int .i64 10), .v (.int .i64 0), .v (.int .i64 0), .v (.int .i64 0), .v (.int .i64 0), .v (.int .i64 0), .v (.bool false), .v (.int .i64 2), .sl A1 2 c1])], [(zAN0, 41), ([.v (.int .i64 4), .v (.int .i64 2), .v (.int .i64 1), .v (.int .i64 10), .v (.int .i64 0), .v (.int .i64 0), .v (.int .i64 0), .v (.int .i64 0), .v (.int .i64 0), .v (.bool false), .v (.int .i64 2), .sl A1 2 c1], 28)]⟩ (by kernel_rfl) (by kernel_rfl) ?_
 refine At.call RowE.stable 12 [.agg [.v (.int .i64 4), .v (.int .i64 2), .v (.int .i64 1), .v (.int .i64 10), .v (.int .i64 0), .v (.int .i64 0), .v (.int .i64 0), .v (.int .i64 0), .v (.int .i64 0), .v (.bool false), .v (.int .i64 2), .sl A1 2 c1]] (.tup [.so (mkB kt), .v (.int .i64 0)]) (by kernel_rfl) (by kernel_rfl) (by kernel_rfl) (fun _ _ w1 hi hf => (text_go 4 2 1 10 0 0 0 0 0 false 2 A1 2 c1 kx w1 (hw.below hi.mem.below) (ent_sls (hf.2 _ (by simp)) rfl) (by decide) kok).mono fun e w2 h => ⟨h.1.trans (by rw [show textP ⟨4, 2, 1, 10, 0, 0, 0, 0, 0, false⟩ 2 kx = (scriptB kc 2 kx, 0) from if_pos kchk, ktext]; rfl), h.2⟩) ?_
 refine At.toJ (RowE.stable) RowE.fewer 20 300 [1, 2, 3, 4, 23] 2 ⟨pops B8 [1, 1, 1, 0] 1, [.seq (sub B8 [1, 1, 1, 1])], [(1, .lp 1 0), (2, .v (.int .i64 0)), (3, .so (mkB kt)), (4, .v (.int .i64 0)), (23, .so (mkB kt))], [(zAN0, 41), ([.v (.int .i64 4), .v (.int .i64 2), .v (.int .i64 1), .v (.int .i64 10), .v (.int .i64 0), .v (.int .i64 0), .v (.int .i64 0), .v (.int .i64 0), .v (.int .i64 0), .v (.bool false), .v (.int .i64 2), .sl A1 2 c1], 28)]⟩ (by kernel_rfl) (by kernel_rfl) ?_
 refine At.mkrowE (e2 := 41) (size2 := 10) 9 [.so (mkB kt)] (fun A' n' c' => .tup [.agg [.v (.int .i64 4), .v (.int .i64 2), .v (.int .i64 1), .v (.int .i64 10), .v (.int .i64 0), .v (.int .i64 0), .v (.int .i64 0), .v (.int .i64 0), .v (.int .i64 0), .v (.bool false), .v (.int .i64 2), .sl A' n' c'], .v (.int .i64 4), .v (.int .i64 0)]) (stW kx) (by kernel_rfl) (by kernel_rfl) (by kernel_rfl) (by kernel_rfl) (by kernel_rfl) (by simp [stW, St.w, kx, pk]) (fun ρ w1 hm' hf => ?_) ?_
 ·refine (parse_kit kt (by decide +kernel) w1 (hw.below hm'.below)).mono fun e w2 h => ?_
  rw [kparse] at h
  unfold parseE at h
  rw [if_pos (by decide)] at h
  obtain ⟨A', c', h1, h2⟩ := h
  exact ⟨A', 2, c', h1, h2⟩
 intro A2 n2 c2
 refine At.pure fun ⟨hn2, hc2⟩ => ?_
 obtain rfl : n2 = 2 := by
  have h20 : (stW kx).length = 20 := rfl
  omega
 clear hn2 hc2
 refine At.toJ (RowE.stable) RowE.fewer 20 300 [3, 42, 43, 44] 0 ⟨pops B8 [1, 1, 1, 1, 0] 17, [.seq (sub B8 [1, 1, 1, 1, 1])], [(3, .so (mkB kt)), (42, .v (.bool true)), (43, .agg [.v (.int .i64 4), .v (.int .i64 2), .v (.int .i64 1), .v (.int .i64 10), .v (.int .i64 0), .v (.int .i64 0), .v (.int .i64 0), .v (.int .i64 0), .v (.int .i64 0), .v (.bool false), .v (.int .i64 2), .sl A1 2 c1]), (44, .agg [.v (.int .i64 4), .v (.int .i64 2), .v (.int .i64 1), .v (.int .i64 10), .v (.int .i64 0), .v (.int .i64 0), .v (.int .i64 0), .v (.int .i64 0), .v (.int .i64 0), .v (.bool false), .v (.int .i64 2), .sl A2 2 c2])], []⟩ (by kernel_rfl) (by kernel_rfl) ?_
 refine At.call RowE.stable 11 [.agg [.v (.int .i64 4), .v (.int .i64 2), .v (.int .i64 1), .v (.int .i64 10), .v (.int .i64 0), .v (.int .i64 0), .v (.int .i64 0), .v (.int .i64 0), .v (.int .i64 0), .v (.bool false), .v (.int .i64 2), .sl A1 2 c1], .agg [.v (.int .i64 4), .v (.int .i64 2), .v (.int .i64 1), .v (.int .i64 10), .v (.int .i64 0), .v (.int .i64 0), .v (.int .i64 0), .v (.int .i64 0), .v (.int .i64 0), .v (.bool false), .v (.int .i64 2), .sl A2 2 c2]] (.v (.bool true)) (by kernel_rfl) (by kernel_rfl) (by kernel_rfl) (fun _ _ w1 hi hf => (same_go 4 2 1 10 0 0 0 0 0 false 2 A1 2 c1 kx 4 2 1 10 0 0 0 0 0 false 2 A2 2 c2 kx w1 (ent_sls (hf.2 (A1, stW kx) (by simp)) rfl) (ent_sls (hf.2 (A2, stW kx) (by simp)) rfl) (by decide) (by decide)).mono fun e w2 h => ⟨h.1.trans (by rw [decide_eq_true ⟨rfl, rfl, rfl⟩]; rfl), h.2⟩) ?_
 refine At.toJ (RowE.stable) RowE.fewer 20 300 [3, 52] 0 ⟨pops B8 [1, 1, 1, 1, 0] 25, [.seq (sub B8 [1, 1, 1, 1, 1])], [(3, .so (mkB kt)), (52, .bo true)], []⟩ (by kernel_rfl) (by kernel_rfl) ?_
 refine At.res 52 (true) true (by kernel_rfl) (by first | assumption | (simp only [*]; done) | (simp [*]; done)) ?_
 refine At.toJ (RowE.stable) RowE.fewer 20 300 [52, 53, 56] 0 ⟨pops B8 [1, 1, 1, 1, 0] 29, [.seq (sub B8 [1, 1, 1, 1, 1])], [(52, .v (.bool true)), (53, .so (mkB kt)), (56, .io .i64 104)], []⟩ (by kernel_rfl) (by kernel_rfl) ?_
 refine sslW kt 104 [112, 105, 99, 107, 32, 49, 10, 101, 118, 101, 110, 116, 32, 34, 97, 34, 32, 53, 32, 45, 49, 10] (by decide +kernel) (by kernel_rfl) (by decide) RowE.stable ?_
 refine At.toJ (RowE.stable) RowE.fewer 20 300 [0] 0 ⟨.exit .ret, [], [(0, .bo true)], []⟩ (by kernel_rfl) (by kernel_rfl) ?_
 refine At.ret (by kernel_rfl) (.bo true) (by kernel_rfl) ?_
 intro ρ w9 hm' hf
 exact ⟨rfl, hm'.below⟩
end Go.Proofs.YthfpekhpeiebjaaGreatDoor
end
section
namespace Go.Proofs.YthfpekhpeiebjaaGreatDoor
open Go.RowKit Go.Sx
noncomputable def B14 : Code := (Tryz.f14.body).getD .skip
/-- Where the lines of a text end. -/
def endsOf : List UInt8 → Nat → List Nat
 | [], _ => []
 | c :: r, i => if c = 10 then (i + 1) :: endsOf r (i + 1) else endsOf r (i + 1)
def ints (l : List Nat) : List Value := l.map fun (i : Nat) => Value.int .i64 (i : Int)
theorem ints_app (l : List Nat) (i : Nat) : ints (l ++ [i]) = ints l ++ [Value.int .i64 (i : Int)] := by simp [ints]
structure LSt where
 A : Option Addr
 n : Nat
 c : Nat
 acc : List Nat
 i : Nat
def frE (t : List UInt8) : LSt → Fr
 | ⟨A, n, c, _, i⟩ => [(0, .so (mkB t)), (3, .sl A n c), (4, .io .i64 (i : Int))]
def locE (_ : LSt) : Sx.Loc := []
def GE (w0 : World) (t : List UInt8) (R : List Nat) (x : LSt) (ρ : List Nat) (w : World) : Prop :=
 RowF w0 (fun _ => False) [] w0.heap.size 3 1 x.A x.n x.c (ints x.acc) ρ w ∧ (x.acc ++ endsOf (t.drop x.i) x.i = R ∧ x.i ≤ t.length ∧ x.n = x.acc.length ∧ x.acc.length ≤ x.i)
set_option maxHeartbeats 8000000 in
set_option maxRecDepth 100000 in
theorem ends_any (t : List UInt8) (ht : t.length ≤ 1048576) (w : World) :
  Calls Tryz.prog 14 #[.string (mkB t)] w fun e w' => ∃ A' c', e = .returned (.slice A' (endsOf t 0).length c') ∧ RowF w (fun _ => False) [] w.heap.size 3 1 A' (endsOf t 0).length c' (ints (endsOf t 0)) [] w' := by
 refine enterF (N := w.heap.size) (F := RowF w (fun _ => False) [] w.heap.size 3 1 none 0 0 []) (fn := Tryz.f14) (c := B14) [.so (mkB t)] Tryz.func14 rfl rfl (Nat.le_refl _) ⟨⟨⟨World.ownsRow_nil _ _ _ _, by simp [Value.ownBlock]⟩, Nat.le_refl _⟩, FrameR.start _ [] (by simp), by simp [Value.ownBlock]⟩ ?_
 refine At.toJ (RowF.stable) RowF.fewer 0 300 [0, 3, 4] 0 ⟨.code (sub B14 [1, 1, 0, 1, 4]), [.block 0, .seq (sub B14 pAN5)], [(0, .so (mkB t)), (3, .v (.slice none 0 0)), (4, .v (.int .i64 0))], []⟩ (by kernel_rfl) (by kernel_rfl) ?_
 generalize hR : endsOf t 0 = R
 refine At.canonT [4] _ rfl ?_
 refine At.slFr _ rfl ?_
 refine At.loop (σ := LSt) (sub B14 [1, 1, 0, 1, 4, 4]) (frE t) locE (GE w t R) (fun x => t.length - x.i) ⟨none, 0, 0, [], 0⟩ (by kernel_rfl) (by unfold subFr; kernel_rfl) (by kernel_rfl) (fun _ _ _ _ h => ⟨h, hR, Nat.zero_le _, rfl, Nat.le_refl _⟩) ?_
 clear hR
 rintro ⟨A, n, c, acc, i⟩
 refine At.pure fun ⟨h1, h2, h3, h4⟩ => ?_
 simp only at h1 h2 h3 h4
 refine At.toJ (RowF.stable) RowF.fewer 0 300 [0, 3, 4, 8] 0 ⟨.code (sub B14 [1, 1, 0, 1, 4, 4, 0, 1]), [.seq (sub B14 [1, 1, 0, 1, 4, 4, 1]), .next (Sx.Next w.heap.size w Tryz.f14.ntmps (frE t) locE (GE w t R) (fun x => t.length - x.i) (LSt.mk A n c acc i)), .block 0, .seq (sub B14 pAN5)], [(0, .so (mkB t)), (3, .sl A n c), (4, .io .i64 (↑i : Int)), (8, .bo (decide ((↑i : Int) < (↑(mkB t).size : Int))))], []⟩ (by kernel_rfl) (by kernel_rfl) ?_
 rcases Bool.eq_false_or_eq_true (decide ((↑i : Int) < (↑(mkB t).size : Int))) with b0 | b0
 ·refine At.res 8 (decide ((↑i : Int) < (↑(mkB t).size : Int))) true (by kernel_rfl) b0 ?_
  refine At.toJ (RowF.stable) RowF.fewer 0 300 [0, 3, 4, 11, 12] 0 ⟨pops B14 [1, 1, 0, 1, 4, 4, 1, 0, 4, 0] 2, [.seq (sub B14 pAN2), .block 1, .seq (sub B14 pAN4), .next (Sx.Next w.heap.size w Tryz.f14.ntmps (frE t) locE (GE w t R) (fun x => t.length - x.i) (LSt.mk A n c acc i)), .block 0, .seq (sub B14 pAN5)], [(0, .so (mkB t)), (3, .sl A n c), (4, .io .i64 (↑i : Int)), (11, .so (mkB t)), (12, .io .i64 (↑i : Int))], []⟩ (by kernel_rfl) (by kernel_rfl) ?_
  have hi : i < t.length := by have := of_decide_eq_true b0; rw [mkB_size] at this; omega
  clear b0
  obtain ⟨y, hz⟩ : ∃ y, t[i]? = some y := ⟨_, List.getElem?_eq_getElem hi⟩
  have hy := y.toNat_lt
  rw [drop_at hz] at h1
  refine At.six (mkB t) (i : Int) y (by kernel_rfl) (by omega) (by rw [Int.toNat_natCast]; exact hz) RowF.stable ?_
  refine At.toJ (RowF.stable) RowF.fewer 0 300 [0, 3, 4, 14] 0 ⟨.code (sub B14 pAN2), [.block 1, .seq (sub B14 pAN4), .next (Sx.Next w.heap.size w Tryz.f14.ntmps (frE t) locE (GE w t R) (fun x => t.length - x.i) (LSt.mk A n c acc i)), .block 0, .seq (sub B14 pAN5)], [(0, .so (mkB t)), (3, .sl A n c), (4, .io .i64 (↑i : Int)), (14, .bo ((↑y.toNat : Int) == 10))], []⟩ (by kernel_rfl) (by kernel_rfl) ?_
  rcases Bool.eq_false_or_eq_true ((↑y.toNat : Int) == 10) with b0 | b0
  ·refine At.res 14 ((↑y.toNat : Int) == 10) true (by kernel_rfl) b0 ?_
   refine At.toJ (RowF.stable) RowF.fewer 0 300 [0, 4, 15, 18] 1 ⟨pops B14 [1, 1, 0, 1, 4, 4, 1, 0, 4, 1, 2] 4, [.block 1, .seq (sub B14 pAN4), .next (Sx.Next w.heap.size w Tryz.f14.ntmps (frE t) locE (GE w t R) (fun x => t.length - x.i) (LSt.mk A n c acc i)), .block 0, .seq (sub B14 pAN5)], [(0, .so (mkB t)), (4, .io .i64 (↑i : Int)), (15, .sl A n c), (18, .ls 0 0 1 1)], [([.io .i64 (IntKind.i64.wrap ((↑i : Int) + 1))], 3)]⟩ (by kernel_rfl) (by kernel_rfl) ?_
   refine At.app (47) (3) (1) (8) (A) (n) (c) (1) ([.io .i64 (IntKind.i64.wrap ((↑i : Int) + 1))]) _ _ _ _ ([.int .i64 (IntKind.i64.wrap ((↑i : Int) + 1))]) (by kernel_rfl) (fun ρ => by kernel_rfl) (by first | omega | (simp only [Go.maxLen]; omega)) (by first | omega | (simp only [Go.maxLen]; omega)) (by first | omega | (simp only [Go.maxLen]; omega)) fun A1 c1 => ?_
   refine At.toJ (RowF.stable) RowF.fewer 0 300 [0, 3, 4] 0 ⟨.exit .normal, [.next (Sx.Next w.heap.size w Tryz.f14.ntmps (frE t) locE (GE w t R) (fun x => t.length - x.i) (LSt.mk A n c acc i)), .block 0, .seq (sub B14 pAN5)], [(0, .so (mkB t)), (3, .sl A1 (n + 1) c1), (4, .io .i64 (IntKind.i64.wrap ((↑i : Int) + 1)))], []⟩ (by kernel_rfl) (by kernel_rfl) ?_
   have e10 : y = 10 := UInt8.toNat_inj.1 (by simp at b0; show y.toNat = 10; omega)
   simp only [endsOf, if_pos e10] at h1
   have hw3 : IntKind.i64.wrap ((i : Int) + 1) = ((i + 1 : Nat) : Int) := by
    rw [wrap63 (by omega) (by omega)]
    omega
   rw [hw3]
   refine At.next (σ := LSt) ⟨A1, n + 1, c1, acc ++ [i + 1], i + 1⟩ rfl rfl (by unfold subFr; kernel_rfl) (by kernel_rfl) ?_ ?_
   ·intro ρ a' w' hi' hf
    exact ⟨by rw [ints_app]; exact hf, by rw [← h1, List.append_assoc]; rfl, (show i + 1 ≤ t.length by omega), by simp only [List.length_append, List.length_singleton]; omega, by simp only [List.length_append, List.length_singleton]; omega⟩
   ·show t.length - (i + 1) < t.length - i
    omega
  ·refine At.res 14 ((↑y.toNat : Int) == 10) false (by kernel_rfl) b0 ?_
   refine At.toJ (RowF.stable) RowF.fewer 0 300 [0, 3, 4] 0 ⟨.exit .normal, [.next (Sx.Next w.heap.size w Tryz.f14.ntmps (frE t) locE (GE w t R) (fun x => t.length - x.i) (LSt.mk A n c acc i)), .block 0, .seq (sub B14 pAN5)], [(0, .so (mkB t)), (3, .sl A n c), (4, .io .i64 (IntKind.i64.wrap ((↑i : Int) + 1)))], []⟩ (by kernel_rfl) (by kernel_rfl) ?_
   have n10 : y ≠ 10 := fun e => by subst e; exact absurd b0 (by decide)
   simp only [endsOf, if_neg n10] at h1
   have hw3 : IntKind.i64.wrap ((i : Int) + 1) = ((i + 1 : Nat) : Int) := by
    rw [wrap63 (by omega) (by omega)]
    omega
   rw [hw3]
   refine At.next (σ := LSt) ⟨A, n, c, acc, i + 1⟩ rfl rfl (by unfold subFr; kernel_rfl) (by kernel_rfl) ?_ ?_
   ·intro ρ a' w' hi' hf
    exact ⟨hf, h1, (show i + 1 ≤ t.length by omega), h3, (show acc.length ≤ i + 1 by omega)⟩
   ·show t.length - (i + 1) < t.length - i
    omega
 ·refine At.res 8 (decide ((↑i : Int) < (↑(mkB t).size : Int))) false (by kernel_rfl) b0 ?_
  refine At.toJ (RowF.stable) RowF.fewer 0 300 [2] 0 ⟨.exit .ret, [], [(2, .sl A n c)], []⟩ (by kernel_rfl) (by kernel_rfl) ?_
  refine At.ret (by kernel_rfl) (.sl A n c) (by kernel_rfl) ?_
  have hi : ¬ (i : Int) < ((mkB t).size : Int) := of_decide_eq_false b0
  rw [mkB_size] at hi
  rw [List.drop_eq_nil_of_le (by omega)] at h1
  simp only [endsOf, List.append_nil] at h1
  subst h1
  intro ρ w9 hm' hf
  rw [← h3]
  exact ⟨A, c, rfl, RowF.fewer _ _ 0 (Nat.zero_le _) hf⟩
end Go.Proofs.YthfpekhpeiebjaaGreatDoor
end
section
namespace Go.Proofs.YthfpekhpeiebjaaGreatDoor
open Go.RowKit Go.Sx
def keepsitems (x : St) : Bool := x.kd == 1
def itemsOf (xs : List St) : List St := xs.filter keepsitems
theorem itemsOf_cons (x : St) (xs : List St) : itemsOf (x :: xs) = if keepsitems x = true then x :: itemsOf xs else itemsOf xs := List.filter_cons
def St.it : St → List Value
 | ⟨_, ik, key, t, v, src, _, _, _, _⟩ => [.int .i64 ik, .string (mkB key), .int .i64 t, .int .i64 v, .int .i64 src]
def itW (l : List St) : List Value := l.flatMap St.it
theorem itW_app (l : List St) (x : St) : itW (l ++ [x]) = itW l ++ x.it := by simp [itW]
structure ITSt where
 A : Option Addr
 m : Nat
 c : Nat
 acc : List St
 i : Nat
def frIT (A : Option Addr) (n cap : Nat) : ITSt → Fr
 | ⟨Ao, m, c, _, i⟩ => [(3, .sl Ao m c), (7, .sl A n cap), (8, .io .i64 (n : Int)), (9, .io .i64 (i : Int))]
def locIT (_ : ITSt) : Sx.Loc := []
noncomputable def B16 : Code := (Tryz.f16.body).getD .skip
def GIitems (w0 : World) (xs R : List St) (x : ITSt) (ρ : List Nat) (w : World) : Prop :=
 RowF w0 (fun _ => False) [] w0.heap.size 38 5 x.A x.m x.c (itW x.acc) ρ w ∧ (x.acc ++ itemsOf (xs.drop x.i) = R ∧ x.i ≤ xs.length ∧ x.m = x.acc.length ∧ x.acc.length ≤ x.i)
set_option maxHeartbeats 8000000 in
set_option maxRecDepth 100000 in
theorem items_any (g s k sz sl of gp lt ea : Int) (d : Bool) (wk : Int) (A : Option Addr) (n cap : Nat) (xs : List St) (w : World) (hS : SlS w A n xs) (hn : n ≤ 1048576) :
  Calls Tryz.prog 16 #[.agg #[.int .i64 g, .int .i64 s, .int .i64 k, .int .i64 sz, .int .i64 sl, .int .i64 of, .int .i64 gp, .int .i64 lt, .int .i64 ea, .bool d, .int .i64 wk, .slice A n cap]] w fun e w' => ∃ A' c', e = .returned (.slice A' (itemsOf xs).length c') ∧ RowF w (fun _ => False) [] w.heap.size 38 5 A' (itemsOf xs).length c' (itW (itemsOf xs)) [] w' := by
 have hl := hS.1
 refine enterF (N := w.heap.size) (F := RowF w (fun _ => False) [] w.heap.size 38 5 none 0 0 []) (fn := Tryz.f16) (c := B16) [.agg (cwAN g s k sz sl of gp lt ea d wk A n cap)] Tryz.func16 rfl rfl (Nat.le_refl _) ⟨⟨⟨World.ownsRow_nil _ _ _ _, by simp [Value.ownBlock]⟩, Nat.le_refl _⟩, FrameR.start _ [] (by simp), by simp [Value.ownBlock]⟩ ?_
 refine At.toJ (RowF.stable) RowF.fewer 0 300 [3, 7, 8, 9] 0 ⟨.code (sub B16 [1, 1, 0, 1, 4]), [.block 0, .seq (sub B16 pAN5)], [(3, .v (.slice none 0 0)), (7, .sl A n cap), (8, .io .i64 (↑n : Int)), (9, .v (.int .i64 0))], []⟩ (by kernel_rfl) (by kernel_rfl) ?_
 generalize hR : itemsOf xs = R
 refine At.canonT [9] _ rfl ?_
 refine At.slFr _ rfl ?_
 refine At.loop (σ := ITSt) (sub B16 [1, 1, 0, 1, 4, 4]) (frIT A n cap) locIT (GIitems w xs R) (fun x => n - x.i) ⟨none, 0, 0, [], 0⟩ (by kernel_rfl) (by unfold subFr; kernel_rfl) (by kernel_rfl) (fun _ _ _ _ h => ⟨h, hR, Nat.zero_le _, rfl, Nat.le_refl _⟩) ?_
 clear hR
 rintro ⟨Ao, m, c, acc, i⟩
 refine At.pure fun ⟨h1, h2, h3, h4⟩ => ?_
 simp only at h1 h2 h3 h4
 refine At.toJ (RowF.stable) RowF.fewer 0 300 [3, 7, 8, 9, 10] 0 ⟨.code (sub B16 [1, 1, 0, 1, 4, 4, 1, 0]), [.seq (sub B16 pAN4), .next (Sx.Next w.heap.size w Tryz.f16.ntmps (frIT A n cap) locIT (GIitems w xs R) (fun x => n - x.i) (ITSt.mk Ao m c acc i)), .block 0, .seq (sub B16 pAN5)], [(3, .sl Ao m c), (7, .sl A n cap), (8, .io .i64 (↑n : Int)), (9, .io .i64 (↑i : Int)), (10, .bo (decide ((↑i : Int) < (↑n : Int))))], []⟩ (by kernel_rfl) (by kernel_rfl) ?_
 rcases Bool.eq_false_or_eq_true (decide ((↑i : Int) < (↑n : Int))) with b0 | b0
 ·refine At.res 10 (decide ((↑i : Int) < (↑n : Int))) true (by kernel_rfl) b0 ?_
  refine At.toJ (RowF.stable) RowF.fewer 0 300 [3, 7, 8, 9] 0 ⟨pops B16 [1, 1, 0, 1, 4, 4, 1, 1, 0, 4, 0] 0, [.seq (sub B16 [1, 1, 0, 1, 4, 4, 1, 1, 0, 4, 1]), .block 1, .seq (sub B16 pAN3), .next (Sx.Next w.heap.size w Tryz.f16.ntmps (frIT A n cap) locIT (GIitems w xs R) (fun x => n - x.i) (ITSt.mk Ao m c acc i)), .block 0, .seq (sub B16 pAN5)], [(3, .sl Ao m c), (7, .sl A n cap), (8, .io .i64 (↑n : Int)), (9, .io .i64 (↑i : Int))], []⟩ (by kernel_rfl) (by kernel_rfl) ?_
  have hi : i < n := by have := of_decide_eq_true b0; omega
  clear b0
  obtain ⟨x, hx⟩ : ∃ x, xs[i]? = some x := ⟨_, List.getElem?_eq_getElem (by rw [← hS.1]; exact hi)⟩
  obtain ⟨a, rfl, hcell⟩ := hS.get hx
  rw [drop_at hx] at h1
  obtain ⟨kd, ik, key, ti, v, src, wk2, wks, bit, mask⟩ := x
  refine At.idx a n 10 (i : Int) (by kernel_rfl) (by omega) (by omega) RowF.stable ?_
  refine At.lda (a.add ((i : Int).toNat * 10)) 10 [.io .i64 kd, .io .i64 ik, .so (mkB key), .io .i64 ti, .io .i64 v, .io .i64 src, .io .i64 wk2, .io .i64 wks, .io .i64 bit, .io .u32 mask] (by kernel_rfl) rfl RowF.stable (fun ρ w1 hm' hf j v2 hj => cell_below (hcell j v2 hj) hm'.below) ?_
  refine At.toJ (RowF.stable) RowF.fewer 0 300 [3, 5, 7, 8, 9, 15] 1 ⟨.code (sub B16 [1, 1, 0, 1, 4, 4, 1, 1, 0, 4, 1, 1]), [.block 1, .seq (sub B16 pAN3), .next (Sx.Next w.heap.size w Tryz.f16.ntmps (frIT (some a) n cap) locIT (GIitems w xs R) (fun x => n - x.i) (ITSt.mk Ao m c acc i)), .block 0, .seq (sub B16 pAN5)], [(3, .sl Ao m c), (5, .lp 0 0), (7, .sl (some a) n cap), (8, .io .i64 (↑n : Int)), (9, .io .i64 (↑i : Int)), (15, .bo (kd == 1))], [([.io .i64 kd, .io .i64 ik, .so (mkB key), .io .i64 ti, .io .i64 v, .io .i64 src, .io .i64 wk2, .io .i64 wks, .io .i64 bit, .io IntKind.u32 mask], 41)]⟩ (by kernel_rfl) (by kernel_rfl) ?_
  rcases Bool.eq_false_or_eq_true (kd == 1) with b0 | b0
  ·refine At.res 15 (kd == 1) true (by kernel_rfl) b0 ?_
   refine At.toJ (RowF.stable) RowF.fewer 0 300 [7, 8, 9, 16, 19] 2 ⟨pops B16 [1, 1, 0, 1, 4, 4, 1, 1, 0, 4, 1, 1, 2] 4, [.block 1, .seq (sub B16 pAN3), .next (Sx.Next w.heap.size w Tryz.f16.ntmps (frIT (some a) n cap) locIT (GIitems w xs R) (fun x => n - x.i) (ITSt.mk Ao m c acc i)), .block 0, .seq (sub B16 pAN5)], [(7, .sl (some a) n cap), (8, .io .i64 (↑n : Int)), (9, .io .i64 (↑i : Int)), (16, .sl Ao m c), (19, .ls 1 0 1 1)], [([.io .i64 kd, .io .i64 ik, .so (mkB key), .io .i64 ti, .io .i64 v, .io .i64 src, .io .i64 wk2, .io .i64 wks, .io .i64 bit, .io IntKind.u32 mask], 41), ([.io .i64 ik, .so (mkB key), .io .i64 ti, .io .i64 v, .io .i64 src], 38)]⟩ (by kernel_rfl) (by kernel_rfl) ?_
   refine At.app (52) (38) (5) (48) (Ao) (m) (c) (1) ([.io .i64 ik, .so (mkB key), .io .i64 ti, .io .i64 v, .io .i64 src]) _ _ _ _ ([.int .i64 ik, .string (mkB key), .int .i64 ti, .int .i64 v, .int .i64 src]) (by kernel_rfl) (fun ρ => by kernel_rfl) (by first | omega | (simp only [Go.maxLen]; omega)) (by first | omega | (simp only [Go.maxLen]; omega)) (by first | omega | (simp only [Go.maxLen]; omega)) fun A1 c1 => ?_
   refine At.toJ (RowF.stable) RowF.fewer 0 300 [3, 7, 8, 9] 0 ⟨.exit .normal, [.next (Sx.Next w.heap.size w Tryz.f16.ntmps (frIT (some a) n cap) locIT (GIitems w xs R) (fun x => n - x.i) (ITSt.mk Ao m c acc i)), .block 0, .seq (sub B16 pAN5)], [(3, .sl A1 (m + 1) c1), (7, .sl (some a) n cap), (8, .io .i64 (↑n : Int)), (9, .io .i64 (IntKind.i64.wrap ((↑i : Int) + 1)))], []⟩ (by kernel_rfl) (by kernel_rfl) ?_
   have hk : keepsitems ⟨kd, ik, key, ti, v, src, wk2, wks, bit, mask⟩ = true := b0
   rw [itemsOf_cons, if_pos hk] at h1
   have hw3 : IntKind.i64.wrap ((i : Int) + 1) = ((i + 1 : Nat) : Int) := by
    rw [wrap63 (by omega) (by omega)]
    omega
   rw [hw3]
   refine At.next (σ := ITSt) ⟨A1, m + 1, c1, acc ++ [⟨kd, ik, key, ti, v, src, wk2, wks, bit, mask⟩], i + 1⟩ rfl rfl (by unfold subFr; kernel_rfl) (by kernel_rfl) ?_ ?_
   ·intro ρ a' w' hi' hf
    exact ⟨by rw [itW_app]; exact hf, by rw [← h1, List.append_assoc]; rfl, (show i + 1 ≤ xs.length by omega), by simp only [List.length_append, List.length_singleton]; omega, by simp only [List.length_append, List.length_singleton]; omega⟩
   ·show n - (i + 1) < n - i
    omega
  ·refine At.res 15 (kd == 1) false (by kernel_rfl) b0 ?_
   refine At.toJ (RowF.stable) RowF.fewer 0 300 [3, 7, 8, 9] 0 ⟨.exit .normal, [.next (Sx.Next w.heap.size w Tryz.f16.ntmps (frIT (some a) n cap) locIT (GIitems w xs R) (fun x => n - x.i) (ITSt.mk Ao m c acc i)), .block 0, .seq (sub B16 pAN5)], [(3, .sl Ao m c), (7, .sl (some a) n cap), (8, .io .i64 (↑n : Int)), (9, .io .i64 (IntKind.i64.wrap ((↑i : Int) + 1)))], []⟩ (by kernel_rfl) (by kernel_rfl) ?_
   have hk : ¬ keepsitems ⟨kd, ik, key, ti, v, src, wk2, wks, bit, mask⟩ = true := by intro h; rw [show (kd == _) = true from h] at b0; cases b0
   rw [itemsOf_cons, if_neg hk] at h1
   have hw3 : IntKind.i64.wrap ((i : Int) + 1) = ((i + 1 : Nat) : Int) := by
    rw [wrap63 (by omega) (by omega)]
    omega
   rw [hw3]
   refine At.next (σ := ITSt) ⟨Ao, m, c, acc, i + 1⟩ rfl rfl (by unfold subFr; kernel_rfl) (by kernel_rfl) ?_ ?_
   ·intro ρ a' w' hi' hf
    exact ⟨hf, h1, (show i + 1 ≤ xs.length by omega), h3, (show acc.length ≤ i + 1 by omega)⟩
   ·show n - (i + 1) < n - i
    omega
 ·refine At.res 10 (decide ((↑i : Int) < (↑n : Int))) false (by kernel_rfl) b0 ?_
  refine At.toJ (RowF.stable) RowF.fewer 0 300 [2] 0 ⟨.exit .ret, [], [(2, .sl Ao m c)], []⟩ (by kernel_rfl) (by kernel_rfl) ?_
  refine At.ret (by kernel_rfl) (.sl Ao m c) (by kernel_rfl) ?_
  have hi : ¬ (i : Int) < (n : Int) := of_decide_eq_false b0
  rw [List.drop_eq_nil_of_le (by rw [← hS.1]; omega), show itemsOf [] = [] from rfl, List.append_nil] at h1
  subst h1
  intro ρ w9 hm' hf
  rw [← h3]
  exact ⟨Ao, c, rfl, RowF.fewer _ _ 0 (Nat.zero_le _) hf⟩
end Go.Proofs.YthfpekhpeiebjaaGreatDoor
end
section
/- Several rows of one's own, each in memory of its own. -/
namespace Go.Sx
open Go.RowKit
structure Rw where
 e : Nat
 size : Nat
 A : Option Addr
 n : Nat
 c : Nat
 xs : List Value
def Rw.own (x : Rw) : Option Nat := (Value.slice x.A x.n x.c).ownBlock
def Apart (x y : Rw) : Prop := ∀ g, x.own = some g → y.own ≠ some g
theorem Apart.symm {x y : Rw} (h : Apart x y) : Apart y x := fun g hg he => h g he hg
/-- Rows, each in memory of its own. -/
def Rws (b : Nat) (L : List Rw) (ρ : List Nat) (w : World) : Prop := (∀ x ∈ L, Row b x.e x.size x.A x.n x.c x.xs ρ w) ∧ L.Pairwise Apart
theorem Rws.none (b : Nat) (ρ : List Nat) (w : World) : Rws b [] ρ w := ⟨fun x h => (by cases h), List.Pairwise.nil⟩
theorem Rws.stable {b : Nat} {L : List Rw} : Stable (Rws b L) := fun ρ w ρ' w' hg hk h => ⟨fun x hx => (h.1 x hx).keep hg hk, h.2⟩
theorem Rws.fewer {b : Nat} {L : List Rw} : FewerK 0 (Rws b L) := fun ρ w k _ h => ⟨fun x hx => Row.fewer _ _ _ _ _ _ _ ρ w k (h.1 x hx), h.2⟩
theorem Rws.sub {b : Nat} {L L' : List Rw} {ρ : List Nat} {w : World} (h : Rws b L ρ w) (hs : L'.Sublist L) : Rws b L' ρ w := ⟨fun x hx => h.1 x (hs.subset hx), h.2.sublist hs⟩
theorem Rws.nil {b : Nat} {L : List Rw} {ρ : List Nat} {w : World} (h : Rws b L ρ w) (e size : Nat) : Rws b (⟨e, size, .none, 0, 0, []⟩ :: L) ρ w :=
 ⟨fun x hx => by
  rcases List.mem_cons.1 hx with rfl | hx
  ·exact Row.nil b e size ρ w
  ·exact h.1 x hx, List.pairwise_cons.2 ⟨fun y _ g hg => by simp [Rw.own, Value.ownBlock] at hg, h.2⟩⟩
theorem Rws.len {b : Nat} {L : List Rw} {x : Rw} {ρ : List Nat} {w : World} (h : Rws b L ρ w) (hx : x ∈ L) : x.xs.length = x.n * x.size := (h.1 x hx).1.1
theorem Rws.cap {b : Nat} {L : List Rw} {x : Rw} {ρ : List Nat} {w : World} (h : Rws b L ρ w) (hx : x ∈ L) : x.n ≤ x.c := by
 rcases (h.1 x hx).1.2 with ⟨h2, h3⟩ | ⟨g, cap, cur, hv, _, _, hnc, _⟩
 ·omega
 ·injection hv with _ _ hcc
  omega
theorem Rws.some {b : Nat} {L : List Rw} {x : Rw} {ρ : List Nat} {w : World} (h : Rws b L ρ w) (hx : x ∈ L) (hn : 0 < x.n) : ∃ a, x.A = Option.some a := by
 rcases (h.1 x hx).1.2 with ⟨h2, h3⟩ | ⟨g, cap, cur, hv, _⟩
 ·omega
 ·injection hv with hv _ _
  exact ⟨_, hv⟩
theorem Rws.isNil {b : Nat} {L : List Rw} {x : Rw} {ρ : List Nat} {w : World} (h : Rws b L ρ w) (hx : x ∈ L) (hA : x.A = Option.none) : x.n = 0 ∧ x.xs = [] := by
 rcases (h.1 x hx).1.2 with ⟨h2, h3⟩ | ⟨g, cap, cur, hv, _⟩
 ·exact ⟨h3, List.eq_nil_of_length_eq_zero (by rw [(h.1 x hx).1.1, h3, Nat.zero_mul])⟩
 ·injection hv with hv _ _
  rw [hA] at hv
  cases hv
theorem Rws.src {b : Nat} {L : List Rw} {x : Rw} {ρ : List Nat} {w : World} (h : Rws b L ρ w) (hx : x ∈ L) {a : Addr} (ha : x.A = Option.some a) : Src w a x.xs := by
 intro j u hj
 have hj' := (List.getElem?_eq_some_iff.1 hj).1
 obtain ⟨g, hg, hc⟩ := (h.1 x hx).cell (j := j) (by have := (h.1 x hx).1.1; omega)
 rw [ha] at hg
 injection hg with hg
 subst hg
 rw [add_ok, Nat.zero_add, hc]
 exact hj
theorem own_base' {w : World} {b b' e size n : Nat} {v : Value} {xs : List Value} (h : w.ownsRow b e size v n xs) (hb : b' ≤ b) : w.ownsRow b' e size v n xs := by
 refine ⟨h.1, ?_⟩
 rcases h.2 with h2 | ⟨g, cap, cur, hv, hg, h3⟩
 ·exact .inl h2
 ·exact .inr ⟨g, cap, cur, hv, Nat.le_trans hb hg, h3⟩
/-- What a change of other blocks leaves of a row. -/
theorem Row.chg' {b e size : Nat} {A : Option Addr} {n c : Nat} {xs : List Value} {ρ : List Nat} {w w' : World} (h : Row b e size A n c xs ρ w) (hc : ∀ g, (Value.slice A n c).ownBlock = some g → w'.heap[g]? = w.heap[g]?) : Row b e size A n c xs ρ w' := by
 have hlt := h.1.lt
 refine ⟨⟨h.1.1, ?_⟩, h.2⟩
 rcases h.1.2 with h2 | ⟨g, cap, cur, hv, hb, hcur, hr⟩
 ·exact .inl h2
 ·have hg : (Value.slice A n c).ownBlock = some g := by rw [hv]; rfl
  exact .inr ⟨g, cap, cur, hv, hb, by rw [hc g hg]; exact hcur, hr⟩
/-- The first row grows or is written; the others stay. -/
theorem Rws.grown {b : Nat} {L : List Rw} {x y : Rw} {ρ : List Nat} {w w' : World} (h : Rws b (x :: L) ρ w) (hy : Row b y.e y.size y.A y.n y.c y.xs ρ w') (hg : w.grownBy w' x.own) (ho : y.own = x.own ∨ y.own = Option.some w.heap.size ∨ y.own = Option.none) : Rws b (y :: L) ρ w' := by
 obtain ⟨h1, h2⟩ := h
 have h2 := List.pairwise_cons.1 h2
 refine ⟨fun z hz => ?_, List.pairwise_cons.2 ⟨fun z hz g hg' he => ?_, h2.2⟩⟩
 ·rcases List.mem_cons.1 hz with rfl | hz
  ·exact hy
  ·have hz' := h1 z (List.mem_cons_of_mem _ hz)
   exact hz'.chg' fun g hg' => hg.block g (hz'.1.lt g hg').2 fun e => h2.1 z hz g e.symm hg'
 ·rcases ho with ho | ho | ho
  ·exact h2.1 z hz g (ho ▸ hg') he
  ·rw [ho] at hg'
   injection hg' with hg'
   have := ((h1 z (List.mem_cons_of_mem _ hz)).1.lt g he).2
   omega
  ·rw [ho] at hg'
   cases hg'
section
variable {P : Program} {Q : Exit → Act → World → Prop} {N : Nat} {w0 : World} {ntm : Nat} {F : List Nat → World → Prop}
variable [Md]
/-- A call that makes one more row. -/
theorem At.rowCall {s : S} {L : List Rw} {e size : Nat} (g : FuncId) (vs : List SV) (xs : List Value) (rv : Option Addr → Nat → Nat → SV) (hc : s.call? = some (g, vs)) (hb : bodied P g = true) (hd : s.dstOk ntm = true) (hq : (match s.pc with | .ops .. => true | _ => false) = true)
  (hr : ∀ ρ w, WInv N w0 ρ s.loc w → Rws N L ρ w → Calls P g (SV.denL ρ vs).toArray w fun e' w' => ∃ A n c, e' = .returned ((rv A n c).den ρ) ∧ RowF w (fun _ => False) [] w.heap.size e size A n c xs [] w')
  (h : ∀ A n c, xs.length = n * size → At P Q N w0 ntm (Rws N (⟨e, size, A, n, c, xs⟩ :: L)) (s.tail ntm (rv A n c))) : At P Q N w0 ntm (Rws N L) s := by
 refine At.callx (X := Option Addr × Nat × Nat) Rws.stable g vs (fun x => rv x.1 x.2.1 x.2.2) (fun x ρ w => Rws N (⟨e, size, x.1, x.2.1, x.2.2, xs⟩ :: L) ρ w) (fun x => Rws.stable) hc hb hd hq (fun ρ a w hi hf => (hr ρ w hi.mem hf).mono ?_) (fun x => At.mono (F' := fun ρ w => Rws N (⟨e, size, x.1, x.2.1, x.2.2, xs⟩ :: L) ρ w ∧ xs.length = x.2.1 * size) (fun ρ w h => ⟨h.2, h.2.len (x := ⟨e, size, x.1, x.2.1, x.2.2, xs⟩) (List.mem_cons_self ..)⟩) (At.pure fun hl => h x.1 x.2.1 x.2.2 hl))
 rintro e' w' ⟨A, n, c, rfl, ⟨⟨h1, h2⟩, h3, h4⟩⟩
 have hbel : Below w.heap.size w w' := ⟨h3.1.os, h3.1.tape, h3.1.output, h3.1.size, fun k hk => h3.1.block k hk (fun h => h)⟩
 have hnew : ∀ g, (Value.slice A n c).ownBlock = some g → w.heap.size ≤ g := fun g hg => (h4 g hg).resolve_left fun h => h
 refine ⟨(A, n, c), rfl, hbel, fun x hx => ?_, List.pairwise_cons.2 ⟨fun y hy g hg => ?_, hf.2⟩⟩
 ·rcases List.mem_cons.1 hx with rfl | hx
  ·refine ⟨own_base' h1.1 hi.mem.hN, fun g hg hm => ?_⟩
   have h5 := hnew g hg
   have h6 := (hi.mem.ge g hm).2
   omega
  ·exact (hf.1 x hx).keep (Grow.refl _ _) (Keep.of_below hbel)
 ·intro he
  have h5 := hnew g hg
  have h6 := ((hf.1 y hy).1.lt g he).2
  omega
/-- 'append' of a slice, wherever it lies, to the first row. -/
theorem At.appR {s : S} (e size bytes : Nat) (A : Option Addr) (n c : Nat) (B : Option Addr) (m k : Nat) (xs news : List Value) (L : List Rw) (hq : outI P ntm s = some (e, size, bytes, A, n, c, B, m, k)) (hl : news.length = m * size) (h1 : ∀ u ∈ news, u.oneCell' = true)
  (hn : B = none → m = 0) (hsrc : ∀ b, B = some b → ∀ ρ w, WInv N w0 ρ s.loc w → Rws N (⟨e, size, A, n, c, xs⟩ :: L) ρ w → Src w b news)
  (hbytes : (n + m) * bytes ≤ 140737488355328) (h63 : n + m ≤ maxLen)
  (h : ∀ (A' : Option Addr) (c' : Nat), n + m ≤ c' → At P Q N w0 ntm (Rws N (⟨e, size, A', n + m, c', xs ++ news⟩ :: L)) (s.tail ntm (.sl A' (n + m) c'))) : At P Q N w0 ntm (Rws N (⟨e, size, A, n, c, xs⟩ :: L)) s := by
 unfold outI at hq
 obtain ⟨⟨o, t, e', size', bytes', A', n', c', B', m', k'⟩, hq1, hq2⟩ := Option.map_eq_some_iff.1 hq
 simp only [Prod.mk.injEq] at hq2
 obtain ⟨rfl, rfl, rfl, rfl, rfl, rfl, rfl, rfl, rfl⟩ := hq2
 unfold outQ at hq1
 split at hq1
 ·rename_i o' ho
  split at hq1
  ·rename_i t' A1 n1 c1 sy ha
   split at hq1
   ·rename_i e1 size1 bytes1 B1 m1 k1 ht hsy hpd
    simp only [Option.some.injEq, Prod.mk.injEq] at hq1
    obtain ⟨rfl, rfl, rfl, rfl, rfl, rfl, rfl, rfl, rfl, rfl, rfl⟩ := hq1
    simp only [Bool.and_eq_true] at hpd
    refine At.opx o' (fun x : Option Addr × Nat => .sl x.1 (n1 + m1) x.2) (fun x ρ w => Rws N (⟨e1, size1, x.1, n1 + m1, x.2, xs ++ news⟩ :: L) ρ w) ho hpd.2 hpd.1 ?_ (fun x => At.mono (F' := fun ρ w => Rws N (⟨e1, size1, x.1, n1 + m1, x.2, xs ++ news⟩ :: L) ρ w ∧ n1 + m1 ≤ x.2) (fun ρ w h => ⟨h, h.cap (x := ⟨e1, size1, x.1, n1 + m1, x.2, xs ++ news⟩) (List.mem_cons_self ..)⟩) (At.pure fun hl => h x.1 x.2 hl))
    intro ρ a w hi hf
    have hrow := hf.1 _ (List.mem_cons_self ..)
    have hden : sy.den ρ = .slice B1 m1 k1 := by rw [← SV.asSl_den, hsy]; rfl
    cases B1 with
    | some b =>
     obtain ⟨A', c', w', r1, r2, r3, r4⟩ := run_append_row (P := P) (ty := o'.type) ht hrow hi.mem.hN (fun b hb => (hi.mem.ge b hb).2) b m1 k1 news hl (hsrc b rfl ρ w hi.mem hf) h1 hbytes h63
     exact ⟨(A', c'), w', run_appS hi.act ha (by rw [hden]; exact r1), hi.mem.grown r3 (fun g hg => ⟨(hrow.1.lt g hg).1, hrow.2 g hg⟩), hf.grown r2 r3 (r4.imp id .inl)⟩
    | none =>
     obtain rfl := hn rfl
     have hnil : news = [] := List.eq_nil_of_length_eq_zero (by rw [hl, Nat.zero_mul])
     subst hnil
     have hr := run_append_none (P := P) t' o'.type e1 size1 bytes1 ht N A1 n1 c1 xs w hrow.1 k1
     refine ⟨(A1, c1), w, run_appS hi.act ha (by rw [hden]; exact hr), hi.mem, ?_⟩
     rw [List.append_nil]
     exact hf
   ·cases hq1
  ·cases hq1
 ·cases hq1
/-- A new row that a call has made, among rows of one's own. -/
theorem rws_new {w0 w w' : World} {N : Nat} {ρ : List Nat} {loc : Loc} {e size n c : Nat} {A : Option Addr} {xs : List Value} (hm : WInv N w0 ρ loc w) (h : RowF w (fun _ => False) [] w.heap.size e size A n c xs [] w') : Rws N [⟨e, size, A, n, c, xs⟩] ρ w' ∧ Below w.heap.size w w' := by
 obtain ⟨⟨h1, h2⟩, h3, h4⟩ := h
 refine ⟨⟨fun x hx => ?_, List.pairwise_singleton _ _⟩, ⟨h3.1.os, h3.1.tape, h3.1.output, h3.1.size, fun k hk => h3.1.block k hk (fun h => h)⟩⟩
 rw [List.mem_singleton] at hx
 subst hx
 refine ⟨own_base' h1.1 hm.hN, fun g hg hmm => ?_⟩
 have h5 : w.heap.size ≤ g := (h4 g hg).resolve_left fun h => h
 have h6 := (hm.ge g hmm).2
 omega
/-- Several ways that meet in one of a family of states. -/
theorem At.join {σ : Type} {s : S} (G : σ → List Nat → World → Prop) (s' : σ → S) (h1 : (∀ x, At P Q N w0 ntm (G x) (s' x)) → At P Q N w0 ntm F s) (h2 : ∀ x, At P Q N w0 ntm (G x) (s' x)) : At P Q N w0 ntm F s := h1 h2
end
end Go.Sx
end
section
/-! A region that draws its order: each operation's value by itself, whatever went before. -/
namespace Go.Sx
open Go.RowKit
/-- What is known of an operation's value: what it is, or what it is up to x, with facts. -/
inductive Kn where
 | eq (s : SV)
 | ex (X : Type) (r : X → SV) (G : X → List Nat → World → Prop)
def Kn.ok : Kn → List Nat → World → Value → Prop
 | .eq s, ρ, _, v => v = s.den ρ
 | .ex _ r G, ρ, w, v => ∃ x, v = (r x).den ρ ∧ G x ρ w
def Kn.St : Kn → Prop
 | .eq _ => True
 | .ex _ _ G => ∀ x, Stable (G x)
theorem Kn.ok.keep {k : Kn} (hs : k.St) {ρ : List Nat} {w w' : World} {v : Value} (h : k.ok ρ w v) (hb : Below w.heap.size w w') : k.ok ρ w' v := by
 cases k with
 | eq s => exact h
 | ex X r G =>
  obtain ⟨x, hx, hg⟩ := h
  exact ⟨x, hx, hs x ρ w ρ w' (Grow.refl _ _) (Keep.of_below hb) hg⟩
def knOf : List (Nat × Kn) → Nat → Option Kn
 | [], _ => none
 | (k, s) :: l, t => match Nat.beq k t with | true => some s | false => knOf l t
/-- What is known in an act: the slots of the operations that are done. -/
def Done (all : Array Oper) (L0 : Array Bool) (kn : List (Nat × Kn)) (ρ : List Nat) (L : Array Bool) (a : Act) (w : World) : Prop :=
 ∀ i o t k, all[i]? = some o → L0.getD i true = false → L.getD i true = true → o.dst = some t → knOf kn i = some k → ∃ v, a.tmps[t]? = some v ∧ k.ok ρ w v
/-- The frame of what is known beforehand, and of these operations' slots. -/
def eqFr (all : Array Oper) (L0 : Array Bool) (kn : List (Nat × Kn)) : List Nat → Fr → Fr
 | [], fr => fr
 | i :: l, fr => match L0.getD i true, all[i]?, knOf kn i with
  | false, some ⟨some t, _, _, _, _, _⟩, some (.eq s) => (t, s) :: eqFr all L0 kn l fr
  | _, _, _ => eqFr all L0 kn l fr
def onsOf (o : Oper) : List Nat := (o.after.toList.filter (Region.binds .any)).map (·.on)
theorem AInv.moreK {ntm : Nat} {ρ : List Nat} {fr : Fr} {a : Act} (h : AInv ntm ρ fr a) {t : Nat} {s : SV} (hs : a.tmps[t]? = some (s.den ρ)) : AInv ntm ρ ((t, s) :: fr) a := by
 refine ⟨h.defers, h.size, fun t' s' hl => ?_⟩
 simp only [look] at hl
 split at hl
 ·rename_i e
  have e := Nat.eq_of_beq_eq_true e
  subst e
  simp only [Option.some.injEq] at hl
  subst hl
  exact hs
 ·exact h.slot t' s' hl
theorem Done.fr {all : Array Oper} {L0 L : Array Bool} {kn : List (Nat × Kn)} {ρ : List Nat} {a : Act} {w : World} {ntm : Nat} {fr : Fr} (hd : Done all L0 kn ρ L a w) (ha : AInv ntm ρ fr a) : ∀ (l : List Nat), (∀ i ∈ l, L0.getD i true = false → L.getD i true = true) → AInv ntm ρ (eqFr all L0 kn l fr) a
 | [], _ => ha
 | i :: l, hl => by
  have ih := hd.fr ha l fun j hj => hl j (List.mem_cons_of_mem _ hj)
  unfold eqFr
  split
  ·rename_i h1 t op ty pos af g s h2 h3 h4
   obtain ⟨v, hv, hk⟩ := hd i _ t _ h3 h2 (hl i (List.mem_cons_self ..) h2) rfl h4
   exact ih.moreK (by rw [hv]; exact congrArg some hk)
  ·exact ih
section
variable {P : Program} {Q : Exit → Act → World → Prop} {N : Nat} {w0 : World} {ntm : Nat} {F : List Nat → World → Prop}
/-- An operation, whatever went before: it is wanted, its value is known, and new blocks alone come. -/
def StepK (P : Program) (N : Nat) (w0 : World) (ntm : Nat) (F : List Nat → World → Prop) (all : Array Oper) (L0 : Array Bool) (kn : List (Nat × Kn)) (fr0 : Fr) (loc : Loc) (i : Nat) : Prop :=
 ∀ o k, all[i]? = some o → knOf kn i = some k → ∀ ρ L a w, AInv ntm ρ (eqFr all L0 kn (onsOf o) fr0) a → Done all L0 kn ρ L a w → (∀ j ∈ onsOf o, L.getD j true = true) → WInv N w0 ρ loc w → F ρ w →
  Region.wanted o (yielded all a.tmps) = true ∧ o.wp P a w (fun a' w' => ∃ v, a' = a.put o.dst v ∧ k.ok ρ w' v ∧ Below w.heap.size w w') (fun _ _ _ => False)
/-- An operation that leaves the world alone, read off by the kernel. -/
def pureK (P : Program) (all : Array Oper) (L0 : Array Bool) (kn : List (Nat × Kn)) (fr0 : Fr) (loc : Loc) (i : Nat) : Option SV :=
 match all[i]? with
 | some o => match guardS all (eqFr all L0 kn (onsOf o) fr0) o with
  | some true => pureOp P loc (eqFr all L0 kn (onsOf o) fr0) o.op
  | _ => none
 | none => none
theorem StepK.pure {all : Array Oper} {L0 : Array Bool} {kn : List (Nat × Kn)} {fr0 : Fr} {loc : Loc} {i : Nat} {s : SV} (hs : pureK P all L0 kn fr0 loc i = some s) (hk : knOf kn i = some (.eq s)) : StepK P N w0 ntm F all L0 kn fr0 loc i := by
 intro o k ho hk' ρ L a w ha hd hl hw hf
 rw [hk] at hk'
 simp only [Option.some.injEq] at hk'
 subst hk'
 unfold pureK at hs
 simp only [ho] at hs
 split at hs
 ·rename_i hg
  refine ⟨guardS_ok ha hg, ?_⟩
  unfold Oper.wp
  rw [run_pureOp (N := N) (w0 := w0) ha (fun _ => hw) hs]
  exact ⟨_, rfl, rfl, Below.refl _ _⟩
 ·cases hs
/-- .. its value by another name. -/
theorem StepK.pureE {all : Array Oper} {L0 : Array Bool} {kn : List (Nat × Kn)} {fr0 : Fr} {loc : Loc} {i : Nat} {s : SV} (s' : SV) (hs : pureK P all L0 kn fr0 loc i = some s') (hk : knOf kn i = some (.eq s)) (he : ∀ ρ, s'.den ρ = s.den ρ) : StepK P N w0 ntm F all L0 kn fr0 loc i := by
 intro o k ho hk' ρ L a w ha hd hl hw hf
 rw [hk] at hk'
 simp only [Option.some.injEq] at hk'
 subst hk'
 unfold pureK at hs
 simp only [ho] at hs
 split at hs
 ·rename_i hg
  refine ⟨guardS_ok ha hg, ?_⟩
  unfold Oper.wp
  rw [run_pureOp (N := N) (w0 := w0) ha (fun _ => hw) hs]
  exact ⟨_, rfl, he ρ, Below.refl _ _⟩
 ·cases hs
/-- An operation whose run is known. -/
def atK (all : Array Oper) (L0 : Array Bool) (kn : List (Nat × Kn)) (fr0 : Fr) (i : Nat) : Option (Oper × Fr) :=
 match all[i]? with
 | some o => match guardS all (eqFr all L0 kn (onsOf o) fr0) o with
  | some true => some (o, eqFr all L0 kn (onsOf o) fr0)
  | _ => none
 | none => none
theorem StepK.run {all : Array Oper} {L0 : Array Bool} {kn : List (Nat × Kn)} {fr0 fr : Fr} {loc : Loc} {i : Nat} {o : Oper} {s : SV} (ho : atK all L0 kn fr0 i = some (o, fr)) (hk : knOf kn i = some (.eq s))
  (hr : ∀ ρ a w, AInv ntm ρ fr a → WInv N w0 ρ loc w → F ρ w → (execOp a.eval o).run P w = .ok (.value (s.den ρ)) w) : StepK P N w0 ntm F all L0 kn fr0 loc i := by
 intro o' k ho' hk' ρ L a w ha hd hl hw hf
 rw [hk] at hk'
 simp only [Option.some.injEq] at hk'
 subst hk'
 unfold atK at ho
 simp only [ho'] at ho
 split at ho
 ·rename_i hg
  simp only [Option.some.injEq, Prod.mk.injEq] at ho
  obtain ⟨rfl, rfl⟩ := ho
  refine ⟨guardS_ok ha hg, ?_⟩
  unfold Oper.wp
  rw [hr ρ a w ha hw hf]
  exact ⟨_, rfl, rfl, Below.refl _ _⟩
 ·cases ho
/-- Bytes of a row as a string. -/
theorem StepK.cv {all : Array Oper} {L0 : Array Bool} {kn : List (Nat × Kn)} {fr0 : Fr} {loc : Loc} {i : Nat} {s : SV} (A : Option Addr) (n c : Nat) (bs : List Nat) (hq : ((atK all L0 kn fr0 i).bind fun x => cvQ P x.2 x.1) = some (A, n, c)) (hk : knOf kn i = some (.eq s)) (hs : ∀ ρ, s.den ρ = .string (strOf bs))
  (hc : ∀ ρ w, WInv N w0 ρ loc w → F ρ w → bs.length = n ∧ (A = none → bs = []) ∧ ∀ a, A = some a → ∀ (j b : Nat), bs[j]? = some b → w.cell? (a.add j) = some (.int .u8 (b : Int))) : StepK P N w0 ntm F all L0 kn fr0 loc i := by
 obtain ⟨⟨o, fr⟩, ho, hq⟩ := Option.bind_eq_some_iff.1 hq
 refine StepK.run ho hk fun ρ a w ha hw hf => ?_
 obtain ⟨h1, h2, h3⟩ := hc ρ w hw hf
 rw [hs]
 exact run_cvQ ha bs hq h1 h3 h2
/-- The slot of an operation whose value is known up to x. -/
def exAt (all : Array Oper) (L0 : Array Bool) (i j : Nat) : Option Nat :=
 match all[i]?, all[j]?, L0.getD j true with
 | some o, some oj, false => match (onsOf o).contains j with
  | true => oj.dst
  | false => none
 | _, _, _ => none
/-- .. that looks at one value known up to x as well. -/
theorem StepK.runX {all : Array Oper} {L0 : Array Bool} {kn : List (Nat × Kn)} {fr0 fr : Fr} {loc : Loc} {i : Nat} {o : Oper} {s : SV} {X : Type} {r : X → SV} {G : X → List Nat → World → Prop} (j t : Nat) (ho : atK all L0 kn fr0 i = some (o, fr)) (hk : knOf kn i = some (.eq s)) (hj : exAt all L0 i j = some t) (hkj : knOf kn j = some (.ex X r G))
  (hr : ∀ x ρ a w, AInv ntm ρ ((t, r x) :: fr) a → WInv N w0 ρ loc w → F ρ w → G x ρ w → (execOp a.eval o).run P w = .ok (.value (s.den ρ)) w) : StepK P N w0 ntm F all L0 kn fr0 loc i := by
 intro o' k ho' hk' ρ L a w ha hd hl hw hf
 rw [hk] at hk'
 simp only [Option.some.injEq] at hk'
 subst hk'
 unfold atK at ho
 simp only [ho'] at ho
 split at ho
 ·rename_i hg
  simp only [Option.some.injEq, Prod.mk.injEq] at ho
  obtain ⟨rfl, rfl⟩ := ho
  refine ⟨guardS_ok ha hg, ?_⟩
  unfold exAt at hj
  split at hj
  ·rename_i o2 oj h1 h2 h3
   rw [ho'] at h1
   simp only [Option.some.injEq] at h1
   subst h1
   split at hj
   ·rename_i hjo
    obtain ⟨v, hv, x, rfl, hx⟩ := hd j oj t _ h2 h3 (hl j (List.contains_iff_mem.1 hjo)) hj hkj
    unfold Oper.wp
    rw [hr x ρ a w (ha.moreK hv) hw hf hx]
    exact ⟨_, rfl, rfl, Below.refl _ _⟩
   ·cases hj
  ·cases hj
 ·cases ho
/-- An operation that leaves the world alone, and looks at one value known up to x. -/
theorem StepK.pureX {all : Array Oper} {L0 : Array Bool} {kn : List (Nat × Kn)} {fr0 : Fr} {loc : Loc} {i : Nat} {s : SV} {X : Type} {r : X → SV} {G : X → List Nat → World → Prop} (j t : Nat) (hat : (atK all L0 kn fr0 i).isSome = true) (hq : ∀ x, ((atK all L0 kn fr0 i).bind fun y => pureOp P loc ((t, r x) :: y.2) y.1.op) = some s) (hk : knOf kn i = some (.eq s)) (hj : exAt all L0 i j = some t) (hkj : knOf kn j = some (.ex X r G)) : StepK P N w0 ntm F all L0 kn fr0 loc i := by
 obtain ⟨⟨o, fr⟩, ho⟩ := Option.isSome_iff_exists.1 hat
 refine StepK.runX j t ho hk hj hkj fun x ρ a w ha hw hf hx => ?_
 have h := hq x
 rw [ho] at h
 exact run_pureOp (N := N) (w0 := w0) ha (fun _ => hw) h
/-- A call. -/
theorem StepK.call {all : Array Oper} {L0 : Array Bool} {kn : List (Nat × Kn)} {fr0 : Fr} {loc : Loc} {i : Nat} {k : Kn} (g : FuncId) (vs : List SV) (hq : ((atK all L0 kn fr0 i).bind fun x => callS x.2 x.1) = some (g, vs)) (hk : knOf kn i = some k) (hb : bodied P g = true)
  (hr : ∀ ρ w, WInv N w0 ρ loc w → F ρ w → Calls P g (SV.denL ρ vs).toArray w fun e w' => ∃ v, e = .returned v ∧ k.ok ρ w' v ∧ Below w.heap.size w w') : StepK P N w0 ntm F all L0 kn fr0 loc i := by
 obtain ⟨⟨o, fr⟩, ho, hc⟩ := Option.bind_eq_some_iff.1 hq
 intro o' k' ho' hk' ρ L a w ha hd hl hw hf
 rw [hk] at hk'
 simp only [Option.some.injEq] at hk'
 subst hk'
 unfold atK at ho
 simp only [ho'] at ho
 split at ho
 ·rename_i hg
  simp only [Option.some.injEq, Prod.mk.injEq] at ho
  obtain ⟨rfl, rfl⟩ := ho
  refine ⟨guardS_ok ha hg, ?_⟩
  unfold Oper.wp
  rw [run_callS ha hc hb]
  refine (hr ρ w hw hf).mono ?_
  rintro e w' ⟨v, rfl, h1, h2⟩
  exact ⟨v, rfl, h1, h2⟩
 ·cases ho
def cntL (n : Nat) (L : Array Bool) : Nat := ((List.range n).filter fun j => !L.getD j true).length
theorem cntL_set {n i : Nat} {L : Array Bool} (hi : i < n) (h : L.getD i true = false) : cntL n (L.setIfInBounds i true) < cntL n L := by
 have hsz : i < L.size := by
  rcases Nat.lt_or_ge i L.size with h' | h'
  ·exact h'
  ·simp [Array.getElem?_eq_none h'] at h
 have hs : ((List.range n).filter fun j => !(L.setIfInBounds i true).getD j true).Sublist ((List.range n).filter fun j => !L.getD j true) := by
  have e : ((List.range n).filter fun j => !(L.setIfInBounds i true).getD j true) = ((List.range n).filter fun j => !L.getD j true).filter fun j => !(L.setIfInBounds i true).getD j true := by
   rw [List.filter_filter]
   refine List.filter_congr fun j _ => ?_
   by_cases hij : i = j
   ·subst hij; simp [hsz]
   ·rw [getD_set_ne true hij]; simp
  rw [e]
  exact List.filter_sublist
 unfold cntL
 refine Nat.lt_of_le_of_ne hs.length_le fun e => ?_
 have := hs.eq_of_length e
 have hm : i ∈ ((List.range n).filter fun j => !L.getD j true) := List.mem_filter.2 ⟨List.mem_range.2 hi, by rw [h]; rfl⟩
 rw [← this] at hm
 have := (List.mem_filter.1 hm).2
 simp [hsz] at this
/-- Edges lead to what stands ahead. -/
def fwd (all : Array Oper) : Bool := (List.range all.size).all fun i => match all[i]? with
 | some o => (onsOf o).all fun j => Nat.blt j i
 | none => true
theorem ready_nil {all : Array Oper} {L : Array Bool} (hf : fwd all = true) (hs : L.size = all.size) (h : Region.ready .any all L = []) : ∀ i, L.getD i true = true := by
 intro i
 induction i using Nat.strongRecOn with
 | _ i ih =>
  cases hi : L.getD i true with
  | true => rfl
  | false =>
   have hlt : i < L.size := by
    rcases Nat.lt_or_ge i L.size with h' | h'
    ·exact h'
    ·simp [Array.getElem?_eq_none h'] at hi
   have ho : all[i]? = some all[i] := Array.getElem?_eq_getElem (by omega)
   have hm : i ∈ Region.ready .any all L := by
    refine mem_ready.2 ⟨hi, _, ho, fun e he hb => ?_⟩
    have h1 := List.all_eq_true.1 hf i (List.mem_range.2 (by omega))
    rw [ho] at h1
    have h2 := List.all_eq_true.1 h1 e.on (List.mem_map.2 ⟨e, List.mem_filter.2 ⟨by simpa using he, hb⟩, rfl⟩)
    have h3 : e.on < i := by simpa using h2
    have h4 := ih e.on h3
    have hlt2 : e.on < L.size := by omega
    simpa [Array.getElem?_eq_getElem hlt2] using h4
   rw [h] at hm
   cases hm
def pendL (n : Nat) (L0 : Array Bool) : List Nat := (List.range n).filter fun j => !L0.getD j true
/-- The numbers that the rule wants: enough steps, each of them known, each to its own slot. -/
def okK (ntm : Nat) (all : Array Oper) (g : Nat) (L0 : Array Bool) (kn : List (Nat × Kn)) : Bool :=
 fwd all && (Nat.beq L0.size all.size && (Nat.ble (cntL all.size L0) g && ((pendL all.size L0).all (fun i => (knOf kn i).isSome && (match all[i]? with
  | some o => match o.dst with
   | some t => Nat.blt t ntm
   | none => false
  | none => false)) && decide (((pendL all.size L0).filterMap fun i => (all[i]?).bind (·.dst)).Nodup))))
theorem nodup_ne {l : List Nat} {f : Nat → Option Nat} (h : (l.filterMap f).Nodup) {i j t : Nat} (hi : i ∈ l) (hj : j ∈ l) (hij : i ≠ j) (h1 : f i = some t) : f j ≠ some t := by
 induction l with
 | nil => cases hi
 | cons x l ih =>
  intro h2
  rw [List.filterMap_cons] at h
  rcases List.mem_cons.1 hi with hi2 | hi2
  ·subst hi2
   rcases List.mem_cons.1 hj with hj2 | hj2
   ·exact hij hj2.symm
   ·rw [h1] at h
    exact (List.nodup_cons.1 h).1 (List.mem_filterMap.2 ⟨j, hj2, h2⟩)
  ·rcases List.mem_cons.1 hj with hj2 | hj2
   ·subst hj2
    rw [h2] at h
    exact (List.nodup_cons.1 h).1 (List.mem_filterMap.2 ⟨i, hi2, h1⟩)
   ·refine ih ?_ hi2 hj2 h2
    cases hx : f x with
    | none => rw [hx] at h; exact h
    | some y => rw [hx] at h; exact (List.nodup_cons.1 h).2
theorem drawn_all {all : Array Oper} {g : Nat} {L0 : Array Bool} {kn : List (Nat × Kn)} {fr0 : Fr} {ds : List Nat} {fr : Fr} {loc : Loc} (hfr : fr0 = drops ds fr) (hds : ∀ o ∈ unl all L0, ∀ t, o.dst = some t → t ∈ ds) (hok : okK ntm all g L0 kn = true) (hF : Stable F) (hkn : ∀ i k, knOf kn i = some k → k.St)
  (hst : ∀ i, L0.getD i true = false → i < all.size → StepK P N w0 ntm F all L0 kn fr0 loc i) {ρ : List Nat} {Q : Exit → Act → World → Prop}
  (hQ : ∀ a w, AInv ntm ρ fr0 a → Done all L0 kn ρ (Array.replicate all.size true) a w → WInv N w0 ρ loc w → F ρ w → Q .normal a w) :
  ∀ (f : Nat) (L : Array Bool) (a : Act) (w : World), L.size = all.size → (∀ i, L0.getD i true = true → L.getD i true = true) → cntL all.size L ≤ f → AInv ntm ρ fr0 a → Done all L0 kn ρ L a w → WInv N w0 ρ loc w → F ρ w → wpAny P .any all Q f L a w := by
 simp only [okK, Bool.and_eq_true] at hok
 obtain ⟨hfw, hs0, _, hp, hnd⟩ := hok
 have hend : ∀ (L : Array Bool) (a : Act) (w : World), L.size = all.size → Region.ready .any all L = [] → AInv ntm ρ fr0 a → Done all L0 kn ρ L a w → WInv N w0 ρ loc w → F ρ w → Q .normal a w := fun L a w hsz hr ha hd hw hf =>
  hQ a w ha (fun i o t k h1 h2 _ h4 h5 => hd i o t k h1 h2 (ready_nil hfw hsz hr i) h4 h5) hw hf
 intro f
 induction f with
 | zero =>
  intro L a w hsz hsub hc ha hd hw hf
  have hr : Region.ready .any all L = [] := by
   refine List.eq_nil_iff_forall_not_mem.2 fun i hi => ?_
   obtain ⟨h1, o, ho, _⟩ := mem_ready.1 hi
   have := cntL_set (Array.getElem?_eq_some_iff.1 ho).1 h1
   omega
  exact ⟨hr, hend L a w hsz hr ha hd hw hf⟩
 | succ f ih =>
  intro L a w hsz hsub hc ha hd hw hf
  refine ⟨fun hr => hend L a w hsz hr ha hd hw hf, fun i hi => ?_⟩
  obtain ⟨h1, o, ho, hall⟩ := mem_ready.1 hi
  have hlt := (Array.getElem?_eq_some_iff.1 ho).1
  have h0 : L0.getD i true = false := by
   cases h : L0.getD i true with
   | false => rfl
   | true => rw [hsub i h] at h1; cases h1
  have hpi : i ∈ pendL all.size L0 := List.mem_filter.2 ⟨List.mem_range.2 hlt, by rw [h0]; rfl⟩
  have hpp := List.all_eq_true.1 hp i hpi
  rw [ho] at hpp
  simp only [Bool.and_eq_true] at hpp
  obtain ⟨hkk, hdst⟩ := hpp
  obtain ⟨k, hk⟩ := Option.isSome_iff_exists.1 hkk
  obtain ⟨t, ht, htn⟩ : ∃ t, o.dst = some t ∧ t < ntm := by
   split at hdst
   ·rename_i t ht
    exact ⟨t, ht, by simpa using hdst⟩
   ·cases hdst
  have hons : ∀ j ∈ onsOf o, L.getD j true = true := fun j hj => by
   obtain ⟨e, he, rfl⟩ := List.mem_map.1 hj
   obtain ⟨he1, he2⟩ := List.mem_filter.1 he
   have h5 := hall e (by simpa using he1) he2
   rcases Nat.lt_or_ge e.on L.size with h' | h'
   ·simpa [Array.getElem?_eq_getElem h'] using h5
   ·simp [Array.getElem?_eq_none h'] at h5
  obtain ⟨hwn, hwp⟩ := hst i h0 hlt o k ho hk ρ L a w (hd.fr ha _ fun j hj _ => hons j hj) hd hons hw hf
  unfold wpOp
  simp only [ho, hwn, if_true]
  refine .inl (wp_mono2 ?_ (fun _ _ _ h => h.elim) hwp)
  rintro a' w' ⟨v, rfl, hv, hb⟩
  have hat : t < a.tmps.size := by rw [ha.size]; exact htn
  have hput : (a.put o.dst v).tmps = a.tmps.setIfInBounds t v := by rw [ht]; rfl
  refine ih _ _ _ (by simpa using hsz) (fun j hj => ?_) ?_ ?_ ?_ (hw.later hb) (hF ρ w ρ w' (Grow.refl _ _) (Keep.of_below hb) hf)
  ·by_cases hij : i = j
   ·subst hij; simp [show i < L.size by omega]
   ·rw [getD_set_ne true hij]; exact hsub j hj
  ·have := cntL_set (n := all.size) hlt h1
   omega
  ·subst hfr
   exact ha.over (hds o (mem_unl ho h0)) v
  ·intro j oj tj kj hj1 hj2 hj3 hj4 hj5
   rw [hput]
   by_cases hij : i = j
   ·subst hij
    rw [ho] at hj1
    simp only [Option.some.injEq] at hj1
    subst hj1
    rw [ht] at hj4
    simp only [Option.some.injEq] at hj4
    subst hj4
    rw [hk] at hj5
    simp only [Option.some.injEq] at hj5
    subst hj5
    exact ⟨v, by simp [hat], hv⟩
   ·rw [getD_set_ne true hij] at hj3
    obtain ⟨u, hu1, hu2⟩ := hd j oj tj kj hj1 hj2 hj3 hj4 hj5
    have hjp : j ∈ pendL all.size L0 := List.mem_filter.2 ⟨List.mem_range.2 (Array.getElem?_eq_some_iff.1 hj1).1, by rw [hj2]; rfl⟩
    have hne : t ≠ tj := fun e => nodup_ne (of_decide_eq_true hnd) hpi hjp hij (show ((all[i]?).bind (·.dst)) = some t by rw [ho]; exact ht) (show ((all[j]?).bind (·.dst)) = some t by rw [hj1, e]; exact hj4)
    exact ⟨u, by rw [Array.getElem?_setIfInBounds_ne hne]; exact hu1, hu2.keep (hkn j kj hj5) hb⟩
/-- A region that draws its order, op by op. -/
theorem At.drawn {Y : Type} {s : S} {all : Array Oper} {g : Nat} {dn : List Nat} (kn : List (Nat × Kn)) (frY : Y → Fr) (GY : Y → List Nat → World → Prop) (hpc : s.pc = .any all g dn) (hok : okK ntm all g (listedOf all.size dn) kn = true) (hF : Stable F) (hkn : ∀ i k, knOf kn i = some k → k.St)
  (hst : ∀ i ∈ pendL all.size (listedOf all.size dn), StepK P N w0 ntm F all (listedOf all.size dn) kn (drops ((unl all (listedOf all.size dn)).filterMap (·.dst)) s.fr) s.loc i)
  (hfin : ∀ ρ a w, AInv ntm ρ (eqFr all (listedOf all.size dn) kn (pendL all.size (listedOf all.size dn)) (drops ((unl all (listedOf all.size dn)).filterMap (·.dst)) s.fr)) a → Done all (listedOf all.size dn) kn ρ (Array.replicate all.size true) a w → F ρ w → ∃ y, AInv ntm ρ (frY y) a ∧ GY y ρ w)
  (h : ∀ y, At P Q N w0 ntm (GY y) ⟨.exit .normal, s.ks, frY y, s.loc⟩) : At P Q N w0 ntm F s := by
 have hok' := hok
 simp only [okK, Bool.and_eq_true] at hok'
 obtain ⟨_, hs0, hc0, _⟩ := hok'
 have hs0 := Nat.eq_of_beq_eq_true hs0
 have hc0 := Nat.le_of_ble_eq_true hc0
 intro ρ a w hi hf
 rw [hpc]
 refine drawn_all (ds := (unl all (listedOf all.size dn)).filterMap (·.dst)) (fr := s.fr) rfl (fun o ho t ht => List.mem_filterMap.2 ⟨o, ho, ht⟩) hok hF hkn (fun i h0 hlt => hst i (List.mem_filter.2 ⟨List.mem_range.2 hlt, by rw [h0]; rfl⟩)) (ρ := ρ) ?_ g _ a w hs0 (fun _ h => h) hc0 (hi.act.drops_ _) ?_ hi.mem hf
 ·intro a' w' ha hd hw hf'
  obtain ⟨y, hy1, hy2⟩ := hfin ρ a' w' (hd.fr ha _ fun i hi _ => by
   have := List.mem_range.1 (List.mem_filter.1 hi).1
   simp [this]) hd hf'
  exact h y ρ a' w' ⟨hy1, hw⟩ hy2
 ·intro i o t k h1 h2 h3
  rw [h2] at h3
  cases h3
def knSts : List (Nat × Kn) → Prop
 | [] => True
 | p :: l => p.2.St ∧ knSts l
theorem knSt {kn : List (Nat × Kn)} (h : knSts kn) : ∀ i k, knOf kn i = some k → k.St := by
 induction kn with
 | nil => intro i k hk; cases hk
 | cons p l ih =>
  intro i k hk
  simp only [knOf] at hk
  split at hk
  ·simp only [Option.some.injEq] at hk
   subst hk
   exact h.1
  ·exact ih h.2 i k hk
/-- .. the numbers written out. -/
theorem At.drawnY {Y : Type} {s : S} {all : Array Oper} {g : Nat} {dn : List Nat} (kn : List (Nat × Kn)) (js : List Nat) (frY : Y → Fr) (GY : Y → List Nat → World → Prop) (hpc : s.pc = .any all g dn) (hok : okK ntm all g (listedOf all.size dn) kn = true) (hjs : pendL all.size (listedOf all.size dn) = js) (hF : Stable F) (hkn : knSts kn)
  (hst : allOf js fun i => StepK P N w0 ntm F all (listedOf all.size dn) kn (drops ((unl all (listedOf all.size dn)).filterMap (·.dst)) s.fr) s.loc i)
  (hfin : ∀ ρ a w, AInv ntm ρ (eqFr all (listedOf all.size dn) kn js (drops ((unl all (listedOf all.size dn)).filterMap (·.dst)) s.fr)) a → Done all (listedOf all.size dn) kn ρ (Array.replicate all.size true) a w → F ρ w → ∃ y, AInv ntm ρ (frY y) a ∧ GY y ρ w)
  (h : ∀ y, At P Q N w0 ntm (GY y) ⟨.exit .normal, s.ks, frY y, s.loc⟩) : At P Q N w0 ntm F s := by
 subst hjs
 exact At.drawn kn frY GY hpc hok hF (knSt hkn) (fun i hi => hst.mem i hi) hfin h
theorem At.drawn0 {s : S} {all : Array Oper} {g : Nat} {dn : List Nat} (kn : List (Nat × Kn)) (js : List Nat) (fr' : Fr) (hpc : s.pc = .any all g dn) (hok : okK ntm all g (listedOf all.size dn) kn = true) (hjs : pendL all.size (listedOf all.size dn) = js) (hF : Stable F) (hkn : knSts kn)
  (hst : allOf js fun i => StepK P N w0 ntm F all (listedOf all.size dn) kn (drops ((unl all (listedOf all.size dn)).filterMap (·.dst)) s.fr) s.loc i)
  (hsub : subFr fr' (eqFr all (listedOf all.size dn) kn js (drops ((unl all (listedOf all.size dn)).filterMap (·.dst)) s.fr)))
  (h : At P Q N w0 ntm F ⟨.exit .normal, s.ks, fr', s.loc⟩) : At P Q N w0 ntm F s :=
 At.drawnY (Y := Unit) kn js (fun _ => fr') (fun _ => F) hpc hok hjs hF hkn hst (fun ρ a w ha _ hf => ⟨(), ha.sub hsub, hf⟩) (fun _ => h)
end
end Go.Sx
end
