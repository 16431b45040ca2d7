import Derived.Test.YtiehnigbcfkcdaaDoorSxC
set_option linter.unusedSimpArgs false
set_option linter.unusedVariables false
namespace Go.Sx
open Go.RowKit
section
variable {P : Program}

/-! ### '==' on structs and arrays of scalars -/
def eqFs (g : TypeId → SV → SV → Option (Bool × Bool)) (xs ys : List SV) : List Field → Option (Bool × Bool)
  | [] => some (true, true)
  | f :: fs => match decide (f.name = "_") with
    | true => eqFs g xs ys fs
    | false => match partS P f.type xs f.offset, partS P f.type ys f.offset with
      | some a, some b => match g f.type a b, eqFs g xs ys fs with
        | some (r, l), some (r', l') => some (r && r', l && l')
        | _, _ => none
      | _, _ => none
def eqEs (g : TypeId → SV → SV → Option (Bool × Bool)) (e n : Nat) (xs ys : List SV) : List Nat → Option (Bool × Bool)
  | [] => some (true, true)
  | i :: is => match partS P e xs (i * n), partS P e ys (i * n) with
    | some a, some b => match g e a b, eqEs g e n xs ys is with
      | some (r, l), some (r', l') => some (r && r', l && l')
      | _, _ => none
    | _, _ => none
def eqS (P : Program) : Nat → TypeId → SV → SV → Option (Bool × Bool)
  | 0, _, _, _ => none
  | d + 1, t, x, y => match P.underlying t with
    | some .bool => match litOf x, litOf y with
      | some (.bool a, la), some (.bool b, lb) => some (a == b, la && lb)
      | _, _ => none
    | some (.int _) => match litOf x, litOf y with
      | some (.int k a, la), some (.int k' b, lb) => match decide (k = k') with
        | true => some (a == b, la && lb)
        | false => none
      | _, _ => none
    | some .string => match litOf x, litOf y with
      | some (.string a, la), some (.string b, lb) => some (a.toList == b.toList, la && lb)
      | _, _ => none
    | some (.struct fs) => match x, y, P.stoodInHeld t with
      | .agg xs, .agg ys, false => eqFs (P := P) (eqS P d) xs ys fs.toList
      | _, _, _ => none
    | some (.array len e) => match x, y, sizeT P e with
      | .agg xs, .agg ys, some n => eqEs (P := P) (eqS P d) e n xs ys (List.range len)
      | _, _, _ => none
    | _ => none

theorem run_eqFs {ρ : List Nat} {D : Nat} {g : TypeId → SV → SV → Option (Bool × Bool)} (w : World)
    (hg : ∀ t x y r l, g t x y = some (r, l) → (Op.equalIn D t (x.den ρ) (y.den ρ)).run P w = .ok r w) {xs ys : List SV} :
    ∀ {fs : List Field} {r l : Bool}, eqFs (P := P) g xs ys fs = some (r, l) → (Op.eqFields D (SV.denL ρ xs).toArray (SV.denL ρ ys).toArray fs).run P w = .ok r w
  | [], r, l, h => by simp only [eqFs, Option.some.injEq, Prod.mk.injEq] at h; obtain ⟨rfl, _⟩ := h; rfl
  | f :: fs, r, l, h => by
    simp only [eqFs] at h
    split at h
    · rename_i hn
      have hn' : f.name = "_" := by simpa using hn
      simp only [Op.eqFields, hn', ne_eq, not_true_eq_false, if_false]
      exact run_eqFs w hg h
    · rename_i hn
      have hn' : f.name ≠ "_" := by simpa using hn
      split at h
      · rename_i a b ha hb
        split at h
        · rename_i r1 l1 r2 l2 h1 h2
          simp only [Option.some.injEq, Prod.mk.injEq] at h
          obtain ⟨rfl, _⟩ := h
          have ih := run_eqFs w hg h2
          have h3 := hg _ _ _ _ _ h1
          simp only [Op.eqFields, if_pos hn', Sem.run_bind, run_partS ha w, run_partS hb w, Result.andThen_ok, h3]
          cases r1 <;> simp [ih]
        · cases h
      · cases h

theorem run_equalIn_array (d : Nat) (t : TypeId) {len e n : Nat} (xs ys : Array Value) (ht : P.underlying t = some (.array len e)) (hn : sizeT P e = some n) (w : World) (g : Nat → Option Bool)
    (hg : ∀ i r, g i = some r → ∃ a b, (part e xs (i * n)).run P w = .ok a w ∧ (part e ys (i * n)).run P w = .ok b w ∧ (Op.equalIn d e a b).run P w = .ok r w)
    (hall : ∀ i, i < len → (g i).isSome = true) :
    (Op.equalIn (d + 1) t (.agg xs) (.agg ys)).run P w = .ok ((List.range len).all fun i => (g i).getD true) w := by
  simp only [Op.equalIn, Sem.run_bind, run_underlying ht, Result.andThen_ok, run_sizeT hn]
  simp only [Std.Legacy.Range.forIn_eq_forIn_range', Std.Legacy.Range.size, Nat.sub_zero, Nat.add_sub_cancel, Nat.div_one]
  rw [List.range_eq_range']
  have hL : ∀ i ∈ List.range' 0 len, (g i).isSome = true := fun i hi => hall i (by simp [List.mem_range'] at hi; omega)
  generalize List.range' 0 len = L at hL
  induction L with
  | nil => simp
  | cons i L ih =>
    obtain ⟨r, hr⟩ := Option.isSome_iff_exists.1 (hL i (by simp))
    obtain ⟨a, b, h1, h2, h3⟩ := hg i r hr
    have ih' := ih (fun j hj => hL j (by simp [hj]))
    simp only [List.forIn_cons, Sem.run_bind, h1, h2, h3, Result.andThen_ok, List.all_cons, hr, Option.getD_some]
    cases r
    · simp
    · simpa using ih'

theorem eqEs_get {g : TypeId → SV → SV → Option (Bool × Bool)} {e n : Nat} {xs ys : List SV} : ∀ {is : List Nat} {r l : Bool}, eqEs (P := P) g e n xs ys is = some (r, l) →
    ∃ f : Nat → Option Bool, (∀ i ∈ is, ∃ a b q l', partS P e xs (i * n) = some a ∧ partS P e ys (i * n) = some b ∧ g e a b = some (q, l') ∧ f i = some q) ∧ r = is.all (fun i => (f i).getD true) ∧
      ∀ i, f i = match partS P e xs (i * n), partS P e ys (i * n) with | some a, some b => (g e a b).map (·.1) | _, _ => none
  | is, r, l, h => by
    refine ⟨fun i => match partS P e xs (i * n), partS P e ys (i * n) with | some a, some b => (g e a b).map (·.1) | _, _ => none, ?_, ?_, fun _ => rfl⟩
    · induction is generalizing r l with
      | nil => simp
      | cons i is ih =>
        simp only [eqEs] at h
        split at h
        · rename_i a b ha hb
          split at h
          · rename_i r1 l1 r2 l2 h1 h2
            intro j hj
            rcases List.mem_cons.1 hj with rfl | hj
            · exact ⟨a, b, r1, l1, ha, hb, h1, by simp [ha, hb, h1]⟩
            · exact ih _ _ h2 j hj
          · cases h
        · cases h
    · induction is generalizing r l with
      | nil => simp only [eqEs, Option.some.injEq, Prod.mk.injEq] at h; simp [← h.1]
      | cons i is ih =>
        simp only [eqEs] at h
        split at h
        · rename_i a b ha hb
          split at h
          · rename_i r1 l1 r2 l2 h1 h2
            simp only [Option.some.injEq, Prod.mk.injEq] at h
            have ih2 := ih _ _ h2
            simp only at ih2
            simp [← h.1, ha, hb, h1, ← ih2]
          · cases h
        · cases h

theorem run_eqS {ρ : List Nat} (w : World) : ∀ (d D : Nat) {t : TypeId} {x y : SV} {r l : Bool}, eqS P d t x y = some (r, l) → d ≤ D → (Op.equalIn D t (x.den ρ) (y.den ρ)).run P w = .ok r w
  | 0, _, _, _, _, _, _, h, _ => by simp [eqS] at h
  | d + 1, 0, _, _, _, _, _, _, hD => by omega
  | d + 1, D + 1, t, x, y, r, l, h, hD => by
    simp only [eqS] at h
    split at h
    · rename_i hu
      split at h
      · rename_i a la b lb hx hy
        simp only [Option.some.injEq, Prod.mk.injEq] at h
        rw [litOf_den hx, litOf_den hy, ← h.1]
        exact run_equalIn_bool w D t a b hu
      · cases h
    · rename_i k0 hu
      split at h
      · rename_i k a la k' b lb hx hy
        split at h
        · rename_i hk
          simp only [Option.some.injEq, Prod.mk.injEq] at h
          have : k = k' := by simpa using hk
          subst this
          rw [litOf_den hx, litOf_den hy, ← h.1]
          simp [Op.equalIn, run_underlying hu]
        · cases h
      · cases h
    · rename_i hu
      split at h
      · rename_i a la b lb hx hy
        simp only [Option.some.injEq, Prod.mk.injEq] at h
        rw [litOf_den hx, litOf_den hy, ← h.1]
        exact run_equalIn_string w D t a b hu
      · cases h
    · rename_i fs hu
      split at h
      · rename_i xs ys hst
        have hf : P.fieldsOf t = fs := by simp [Program.fieldsOf, hu]
        have h1 := run_eqFs (ρ := ρ) (D := D) w (fun t' x' y' r' l' hh => run_eqS w d D hh (by omega)) h
        simp only [SV.den]
        rw [run_equalIn_struct w D t _ _ (by rw [hf]; exact hu) hst, hf]
        exact h1
      · cases h
    · rename_i len e hu
      split at h
      · rename_i xs ys n hn
        obtain ⟨f, hf, hr, hfd⟩ := eqEs_get h
        simp only [SV.den]
        rw [hr]
        refine run_equalIn_array D t _ _ hu hn w f ?_ ?_
        · intro i q hq
          rw [hfd] at hq
          split at hq
          · rename_i a b ha hb
            obtain ⟨⟨q', l'⟩, hg, hq'⟩ := Option.map_eq_some_iff.1 hq
            simp only at hq'
            subst hq'
            exact ⟨_, _, run_partS ha w, run_partS hb w, run_eqS w d D hg (by omega)⟩
          · cases hq
        · intro i hi
          obtain ⟨a, b, q, l', _, _, _, hq⟩ := hf i (List.mem_range.2 hi)
          simp [hq]
      · cases h
    · cases h
end
end Go.Sx
