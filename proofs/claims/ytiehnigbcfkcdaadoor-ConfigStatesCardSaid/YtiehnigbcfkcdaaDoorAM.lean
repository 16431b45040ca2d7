/- The law of states, in plain Lean. -/
import Derived.Test.YtiehnigbcfkcdaaDoorAJ
import Derived.Test.YtiehnigbcfkcdaaDoorAL
import Derived.Test.YtiehnigbcfkcdaaDoorSxAA
set_option linter.unusedSimpArgs false
set_option linter.unusedVariables false
namespace Go.Proofs.YtiehnigbcfkcdaaDoor
open Go.RowKit Go.Sx
theorem any_all (ms : List Int) (h : ms ≠ []) : (bif !(ms.any timeB) then (6 : Int) else bif ms.any offT then 6 else 0) = bif ms.all timeB then 0 else 6 := by
  have e : ms.any offT = !(ms.all timeB) := by
    induction ms with
    | nil => rfl
    | cons x l ih =>
      by_cases hl : l = []
      · subst hl
        simp [offT]
      · rw [List.any_cons, List.all_cons, ih hl]
        simp only [offT]
        cases timeB x <;> rfl
  rw [e]
  cases ha : ms.all timeB with
  | false => cases ms.any timeB <;> rfl
  | true =>
    obtain ⟨x, l, rfl⟩ := List.exists_cons_of_ne_nil h
    rw [List.all_cons, Bool.and_eq_true] at ha
    rw [List.any_cons, ha.1]
    rfl
theorem states_alike {g s k sz sl of gp lt ea : Int} {nm : Nat} {ms : List Int} (ks : List Ky) (hl : ms.length = nm) : stateE (wrongF g s k sz sl of gp lt ea) s k nm ms ks = rstateE (wrongF g s k sz sl of gp lt ea) s k nm ms ks := by
  unfold stateE rstateE
  rw [jobE_ne]
  cases hW : (wrongF g s k sz sl of gp lt ea != 0) with
  | true =>
    rw [cond_true, cond_true]
    have : wrongF g s k sz sl of gp lt ea ≠ 0 := by simpa using hW
    exact if_neg this
  | false =>
    rw [cond_false, cond_false]
    have h0 : wrongF g s k sz sl of gp lt ea = 0 := by simpa using hW
    have hs := wrong_s h0
    cases hn : ((nm : Int) != s) with
    | true => rfl
    | false =>
      rw [cond_false, cond_false]
      have hn0 : (nm : Int) = s := by simpa using hn
      have hne : ms ≠ [] := fun h => by rw [h] at hl; simp at hl; omega
      have ha := any_all ms hne
      cases hb : stGo k none ks with
      | true => rw [cond_true]; exact ha
      | false =>
        rw [cond_false]
        cases !(ms.any timeB) <;> cases ms.any offT <;> cases ms.all timeB <;> rfl
theorem go_lk (k : Int) : ∀ (l m : List Ky) (p q : Option Ky), LkL l m → (q.map fun x => x.key) = (p.map fun x => x.key) → stGo k q m = stGo k p l
  | [], [], _, _, _, _ => rfl
  | x :: l, y :: m, p, q, h, hp => by
    obtain ⟨⟨h1, h2, h3, h4, _⟩, hr⟩ := h
    have hpk : prK q y = prK p x := by
      cases p <;> cases q <;> simp at hp
      · rfl
      · simp only [prK, hp, h1]
    simp only [stGo]
    rw [h1, h2, h3, h4, hpk, go_lk k l m (some x) (some y) hr (by simp [h1])]
  | [], _ :: _, _, _, h, _ => h.elim
  | _ :: _, [], _, _, h, _ => h.elim
theorem less_trans : ∀ (a b c : List UInt8), Op.bytesLess a b = true → Op.bytesLess b c = true → Op.bytesLess a c = true
  | a, b, [], _, h => by cases b <;> simp [Op.bytesLess] at h
  | a, [], z :: c, h, _ => by cases a <;> simp [Op.bytesLess] at h
  | [], y :: b, z :: c, _, _ => rfl
  | x :: a, y :: b, z :: c, h1, h2 => by
    simp only [Op.bytesLess, Bool.or_eq_true, Bool.and_eq_true, decide_eq_true_eq, beq_iff_eq] at h1 h2 ⊢
    rcases h1 with h1 | ⟨h1, h3⟩
    · rcases h2 with h2 | ⟨h2, h4⟩
      · exact .inl (UInt8.lt_trans h1 h2)
      · subst h2; exact .inl h1
    · subst h1
      rcases h2 with h2 | ⟨h2, h4⟩
      · exact .inl h2
      · exact .inr ⟨h2, less_trans a b c h3 h4⟩
theorem pr_trans {p : Option Ky} {x y : Ky} (h1 : prK p x = true) (h2 : prK (some x) y = true) : prK p y = true := by
  cases p with
  | none => rfl
  | some l => exact less_trans _ _ _ h1 h2
theorem go_skip {k : Int} {p : Option Ky} {x : Ky} {r : List Ky} (h1 : prK p x = true) (h2 : stGo k (some x) r = true) : stGo k p r = true := by
  cases r with
  | nil => rfl
  | cons y r =>
    simp only [stGo, Bool.and_eq_true] at h2 ⊢
    exact ⟨h2.1, h2.2.1, pr_trans h1 h2.2.2.1, h2.2.2.2⟩
/-- With a key left out a state stays in order. -/
theorem go_out (k : Int) : ∀ (l : List Ky) (i : Nat) (p : Option Ky), stGo k p l = true → stGo k p (l.eraseIdx i) = true
  | [], _, _, h => h
  | x :: r, 0, p, h => by
    simp only [stGo, Bool.and_eq_true] at h
    exact go_skip h.2.2.1 h.2.2.2
  | x :: r, i + 1, p, h => by
    simp only [List.eraseIdx_cons_succ, stGo, Bool.and_eq_true] at h ⊢
    exact ⟨h.1, h.2.1, h.2.2.1, go_out k r i (some x) h.2.2.2⟩
theorem state_out {W S k : Int} {nm nm' : Nat} {ms : List Int} {ks : List Ky} (h : stateE W S k nm ms ks = 0) (i : Nat) : stateE W S k nm ms (ks.eraseIdx i) = 0 := by
  unfold stateE at h ⊢
  cases h1 : (jobE W != 0) with
  | true =>
    rw [h1, cond_true] at h
    rw [h] at h1
    cases h1
  | false =>
    rw [h1, cond_false] at h
    rw [cond_false]
    cases h2 : ((nm : Int) != S) with
    | true => rw [h2, cond_true] at h; cases h
    | false =>
      rw [h2, cond_false] at h
      rw [cond_false]
      cases h3 : !(ms.any timeB) with
      | true => rw [h3, cond_true] at h; cases h
      | false =>
        rw [h3, cond_false] at h
        rw [cond_false]
        cases h4 : ms.any offT with
        | true => rw [h4, cond_true] at h; cases h
        | false =>
          rw [h4, cond_false] at h
          rw [cond_false]
          cases h5 : stGo k none ks with
          | false => rw [h5, cond_false] at h; cases h
          | true => rw [go_out k ks i none h5]; rfl
theorem state_lk {W S k : Int} {nm : Nat} {ms : List Int} {ks ys : List Ky} (h : LkL ks ys) : stateE W S k nm ms ys = stateE W S k nm ms ks := by
  unfold stateE
  rw [go_lk k ks ys none none h rfl]
/-- The place of the key that is left out. -/
theorem out_place (out : Int) {n : Nat} (hn : 0 < n) (hm : n ≤ 140737488355320) : ∃ o : Nat, o < n ∧ (IntKind.i64.wrap (out.tmod n + n)).tmod n = (o : Int) := by
  have h1 : out.tmod n < n := Int.tmod_lt_of_pos _ (by omega)
  have h2 : -(n : Int) < out.tmod n := by
    have := Int.lt_tmod_of_pos out (b := (n : Int)) (by omega)
    omega
  have hw : IntKind.i64.wrap (out.tmod n + n) = out.tmod n + n := wrap63 (by omega) (by omega)
  rw [hw, Int.tmod_eq_emod_of_nonneg (by omega)]
  have h3 := Int.emod_nonneg (out.tmod n + n) (b := (n : Int)) (by omega)
  have h4 := Int.emod_lt_of_pos (out.tmod n + n) (b := (n : Int)) (by omega)
  exact ⟨((out.tmod n + n) % n).toNat, by omega, by omega⟩
/-- What is lent, as it lay when a world was noted. -/
structure LentA (w1 : World) (ρ1 : List Nat) (ms : List Int) (ks : List Ky) (am : Addr) (nm cm : Nat) (ak : Addr) (nk ck : Nat) (ys : List Ky) : Prop where
  capm : nm + 3 ≤ cm
  capk : nk + 3 ≤ ck
  lk : LkL ks ys
  ints : Sx.Aside w1 ρ1 am (iv (ms ++ [-7000, -7001, -7002]))
  keys : Sx.Aside w1 ρ1 ak (kv (ys ++ rooms))
  wins : ∀ y ∈ ys, ∃ a, y.A = some a ∧ Sx.Aside w1 ρ1 a (wv (y.ws ++ marksW))
theorem LentA.now {w1 w : World} {ρ1 ρ : List Nat} {ms : List Int} {ks : List Ky} {am : Addr} {nm cm : Nat} {ak : Addr} {nk ck : Nat} {ys : List Ky} (h : LentA w1 ρ1 ms ks am nm cm ak nk ck ys) (hf : FrameR w1 (fun b => b ∈ ρ1) ρ1 ρ w) (hl : ms.length = nm) (hw : ∀ x ∈ ks, x.ws.length = x.n) : LentS w ms ks am nm cm ak nk ck ys where
  capm := h.capm
  ints := ⟨by rw [List.length_append, hl]; rfl, (fun h => by (cases h)), (fun a ha => by cases ha; exact h.ints.now hf)⟩
  capk := h.capk
  lk := h.lk
  keys := h.keys.now hf
  wins := fun y hy => by
    obtain ⟨a, h1, h2⟩ := h.wins y hy
    refine ⟨a, h1, by rw [List.length_append, h.lk.wlen hw y hy]; rfl, (fun h => by rw [h1] at h; cases h), (fun a' ha => by rw [h1] at ha; cases ha; exact h2.now hf)⟩
theorem LentA.later {w1 w2 : World} {ρ1 ρ2 : List Nat} {ms : List Int} {ks : List Ky} {am : Addr} {nm cm : Nat} {ak : Addr} {nk ck : Nat} {ys : List Ky} (h : LentA w1 ρ1 ms ks am nm cm ak nk ck ys) (ha : ∀ (x : Addr) (xs : List Value), xs ≠ [] → Sx.Aside w1 ρ1 x xs → Sx.Aside w2 ρ2 x xs) : LentA w2 ρ2 ms ks am nm cm ak nk ck ys where
  capm := h.capm
  capk := h.capk
  lk := h.lk
  ints := ha _ _ (by simp [iv]) h.ints
  keys := ha _ _ (fun h => by have := congrArg List.length h; rw [kv_len] at this; simp [rooms] at this) h.keys
  wins := fun y hy => by
    obtain ⟨a, h1, h2⟩ := h.wins y hy
    exact ⟨a, h1, ha _ _ (wvm_ne y.ws) h2⟩
theorem LentA.ofS {w : World} {ρ : List Nat} {B : Nat} {ms : List Int} {ks : List Ky} {am : Addr} {nm cm : Nat} {ak : Addr} {nk ck : Nat} {ys : List Ky} (capm : nm + 3 ≤ cm) (ints : SlI w (some am) (nm + 3) (ms ++ [-7000, -7001, -7002])) (capk : nk + 3 ≤ ck) (lk : LkL ks ys) (keys : Src w ak (kv (ys ++ rooms))) (wins : ∀ y ∈ ys, ∃ a, y.A = some a ∧ SlW w y.A (y.n + 3) (y.ws ++ marksW))
    (h1 : B ≤ am.block) (h2 : B ≤ ak.block) (h3 : ∀ y ∈ ys, ∀ a, y.A = some a → B ≤ a.block) (hρ : ∀ b ∈ ρ, b < B) : LentA w ρ ms ks am nm cm ak nk ck ys where
  capm := capm
  capk := capk
  lk := lk
  ints := ⟨ints.2.2 am rfl, fun hm => by have := hρ _ hm; omega⟩
  keys := ⟨keys, fun hm => by have := hρ _ hm; omega⟩
  wins := fun y hy => by
    obtain ⟨a, e1, e2⟩ := wins y hy
    exact ⟨a, e1, e2.2.2 a e1, fun hm => by have := hρ _ hm; have := h3 y hy a e1; omega⟩
theorem aside_part {w1 : World} {ρ1 : List Nat} {a : Addr} {xs ys zs : List Value} (h : Sx.Aside w1 ρ1 a (xs ++ ys ++ zs)) : Sx.Aside w1 ρ1 (a.add xs.length) ys :=
  ⟨fun j u hj => by
    have hj' := (List.getElem?_eq_some_iff.1 hj).1
    rw [add_add]
    exact h.src _ _ (by rw [List.append_assoc, List.getElem?_append_right (by omega), List.getElem?_append_left (by omega), show xs.length + j - xs.length = j by omega]; exact hj), by rw [add_block]; exact h.out⟩
theorem add_nil (a : Addr) : a.add 0 = a := by simp [Addr.add]
end Go.Proofs.YtiehnigbcfkcdaaDoor
