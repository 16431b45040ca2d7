import Derived.Test.YtkjnbafdmjakgaaDoorSxU
set_option linter.unusedSimpArgs false
set_option linter.unusedVariables false
namespace Go.Sx
open Go.RowKit
section
variable {P : Program} {Q : Exit → Act → World → Prop} {N : Nat} {w0 : World} {ntm : Nat} {F : List Nat → World → Prop}

/-- All the ways through a region that draws its order, walked one by one. -/
def leaves (P : Program) (ntm : Nat) : Nat → S → List S
  | 0, s => [s]
  | f + 1, s => match s.pc with
    | .any all g dn => match Region.ready .any all (listedOf all.size dn) with
      | [] => [{ s with pc := .exit .normal }]
      | js => match g with
        | 0 => [s]
        | g + 1 => js.flatMap fun j => leaves P ntm f (srun P ntm 0 3 ⟨.ops all ((all.toList.drop j).take 1), .any all g (j :: dn) :: s.ks, s.fr, s.loc⟩)
    | _ => [s]
theorem At.leaves0 (hF : Stable F) : ∀ (f : Nat) {s : S}, (∀ s' ∈ leaves P ntm f s, At P Q N w0 ntm F s') → At P Q N w0 ntm F s
  | 0, s, h => h s (by simp [leaves])
  | f + 1, s, h => by
    obtain ⟨pc, ks, fr, loc⟩ := s
    unfold leaves at h
    simp only at h
    split at h
    · rename_i all g dn
      split at h
      · rename_i hr
        have hk := h _ (List.mem_singleton.2 rfl)
        intro ρ a w hi hf
        have hk' := hk ρ a w hi hf
        show wpAny P .any all _ g _ a w
        cases g with
        | zero => exact ⟨hr, hk'⟩
        | succ g => exact ⟨fun _ => hk', fun i hi' => (by rw [hr] at hi'; cases hi')⟩
      · split at h
        · exact h _ (List.mem_singleton.2 rfl)
        · rename_i hne g0 g
          intro ρ a w hi hf
          refine ⟨fun h0 => (hne h0).elim, fun j hj => ?_⟩
          refine wpOp_of_list ?_
          have : At P Q N w0 ntm F ⟨.ops all ((all.toList.drop j).take 1), .any all g (j :: dn) :: ks, fr, loc⟩ :=
            At.run hF 0 3 (At.leaves0 hF f fun s' hs' => h s' (List.mem_flatMap.2 ⟨j, hj, hs'⟩))
          exact this ρ a w hi hf
    · exact h _ (List.mem_singleton.2 rfl)
/-- They all end in one state. -/
theorem At.leaves (hF : Stable F) {j : Nat} (hF' : FewerK j F) {s : S} (f n : Nat) (ts : List Nat) (k : Nat) (s' : S) (hl : (leaves P ntm f s).map (fun x => x.keep ts k) = List.replicate n s')
    (hsc : (scopedFr k s'.fr && (scopedLoc k s'.loc && Nat.ble j k)) = true) (h : At P Q N w0 ntm F s') : At P Q N w0 ntm F s := by
  refine At.leaves0 hF f fun x hx => ?_
  have hx' : x.keep ts k ∈ (Go.Sx.leaves P ntm f s).map (fun x => x.keep ts k) := List.mem_map.2 ⟨x, hx, rfl⟩
  rw [hl] at hx'
  have he := List.eq_of_mem_replicate hx'
  intro ρ a w hi hf
  simp only [Bool.and_eq_true] at hsc
  subst he
  exact h _ a w (hi.keep ts k hsc.1 hsc.2.1) (hF' _ _ _ (Nat.le_of_ble_eq_true hsc.2.2) hf)
end
end Go.Sx

set_option linter.unusedSimpArgs false
set_option linter.unusedVariables false
namespace Go.Sx
open Go.RowKit
section
variable {P : Program} {ops : Array Oper} {md : Region.Mode} {Q : Exit → Act → World → Prop}

theorem defer_put (a : Act) (x : Option Tmp) (v : Value) (d : Deferred) : { (a.put x v) with defers := d :: (a.put x v).defers } = ({ a with defers := d :: a.defers } : Act).put x v := by
  cases x <;> rfl
/-- Whether the value of an operation that stands apart is there already makes no difference. -/
theorem wpOp_put (hQ : ∀ e a w, Q e a w → e = .normal) {j : Nat} {oi oj : Oper} {v : Value} (hj : ops[j]? = some oj) (hap : oi.apart ops oj = true) (hsj : ∀ cs b, oj.op ≠ .select cs b) {K : Act → World → Prop} {a : Act} {w : World}
    (h : wpOp P ops Q j K (a.put oi.dst v) w) : wpOp P ops Q j (fun a' w' => K (a'.put oi.dst v) w') a w := by
  obtain ⟨h1, h2, h3⟩ := Oper.apart_spec hap
  unfold wpOp at h ⊢
  simp only [hj] at h ⊢
  rw [wanted_put oj a oi.dst v h1] at h
  split
  · rename_i hw
    rw [if_pos hw] at h
    rcases h with h | ⟨_, a', w', h'⟩
    · refine .inl ?_
      unfold Oper.wp at h ⊢
      rw [execOp_put oj hsj a oi.dst v h1] at h
      generalize (execOp a.eval oj).run P w = r at *
      cases r with
      | ok n w' =>
        cases n <;> simp only [Oper.upon] at h ⊢
        case value u => rw [← Act.put_comm a v u h2]; exact h
        case skip => rw [← Act.put_comm a v undef h2]; exact h
        case defer d =>
          rw [defer_put] at h
          rw [← Act.put_comm _ v undef h2]
          exact h
        case row => exact h.mono fun u w'' hh => by rw [← Act.put_comm a v u h2]; exact hh
        case enter =>
          refine h.mono fun e w'' hh => ?_
          cases e with
          | returned u =>
            show K ((a.put oj.dst u).put oi.dst v) w''
            rw [← Act.put_comm a v u h2]
            exact hh
          | panicked c => exact absurd (hQ _ _ _ hh) (by simp)
          | outgrown =>
            obtain ⟨a', w', h'⟩ := hh
            exact absurd (hQ _ _ _ h') (by simp)
      | halt x w' =>
        cases x <;> simp only [Oper.upon] at h ⊢
        exact absurd (hQ _ _ _ h) (by simp)
    · exact absurd (hQ _ _ _ h') (by simp)
  · rename_i hw
    rw [if_neg hw] at h
    rw [← Act.put_comm a v undef h2]
    exact h

/-- An operation that looks at no memory may be taken first. -/
theorem wpAny_first (hQ : ∀ e a w, Q e a w → e = .normal) {i : Nat} {oi : Oper} {v : Value} (hi : ops[i]? = some oi) (hsel : ∀ (j : Nat) (o : Oper) cs b, ops[j]? = some o → o.op ≠ .select cs b) :
    ∀ (f : Nat) (listed : Array Bool) (a : Act) (w : World),
      (∀ j oj, ops[j]? = some oj → j ≠ i → listed.getD j true = false → (∀ e ∈ oj.after, Region.binds md e = true → e.on ≠ i) → oi.apart ops oj = true) →
      i ∈ Region.ready md ops listed → Region.wanted oi (yielded ops a.tmps) = true → (∀ w, (execOp a.eval oi).run P w = .ok (.value v) w) →
      wpAny P md ops Q f (listed.setIfInBounds i true) (a.put oi.dst v) w → wpAny P md ops Q (f + 1) listed a w := by
  intro f
  induction f with
  | zero =>
    intro listed a w _ hr hw hv H
    refine ⟨fun h => (by rw [h] at hr; cases hr), fun j hj => ?_⟩
    by_cases hji : j = i
    · subst hji
      unfold wpOp
      simp only [hi, hw, if_true]
      refine .inl ?_
      unfold Oper.wp
      rw [hv w]
      exact H
    · have := ready_mono hj hji
      rw [H.1] at this
      cases this
  | succ f ih =>
    intro listed a w hfree hr hw hv H
    refine ⟨fun h => (by rw [h] at hr; cases hr), fun j hj => ?_⟩
    by_cases hji : j = i
    · subst hji
      unfold wpOp
      simp only [hi, hw, if_true]
      refine .inl ?_
      unfold Oper.wp
      rw [hv w]
      exact H
    · have h1 := H.2 j (ready_mono hj hji)
      obtain ⟨hjun, oj, hoj, hall⟩ := mem_ready.1 hj
      have hnot : ∀ e ∈ oj.after, Region.binds md e = true → e.on ≠ i := fun e he hb heq => by
        have h1 := hall e he hb
        rw [heq, getD_both (mem_ready.1 hr).1] at h1
        cases h1
      have hap := hfree j oj hoj hji hjun hnot
      have h2 := wpOp_put hQ hoj hap (fun cs b => hsel j oj cs b hoj) h1
      obtain ⟨a1, a2, a3⟩ := Oper.apart_spec hap
      unfold wpOp at h2 ⊢
      simp only [hoj] at h2 ⊢
      have step : ∀ (u : Value) (w' : World), wpAny P md ops Q f ((listed.setIfInBounds i true).setIfInBounds j true) ((a.put oj.dst u).put oi.dst v) w' → wpAny P md ops Q (f + 1) (listed.setIfInBounds j true) (a.put oj.dst u) w' := by
        intro u w' hh
        refine ih (listed.setIfInBounds j true) (a.put oj.dst u) w' (fun k ok hk hki hun hno => ?_) (ready_mono hr (Ne.symm hji)) ?_ (fun w => ?_) ?_
        · refine hfree k ok hk hki ?_ hno
          by_cases hjk : j = k
          · subst hjk; exact hjun
          · rw [getD_set_ne true hjk] at hun; exact hun
        · rw [wanted_put oi a oj.dst u a3]; exact hw
        · rw [execOp_put oi (fun cs b => hsel i oi cs b hi) a oj.dst u a3]; exact hv w
        · rw [Array.setIfInBounds_comm _ _ hji]
          exact hh
      split
      · rename_i hwj
        rw [if_pos hwj] at h2
        rcases h2 with h2 | ⟨_, a', w', h'⟩
        · refine .inl ?_
          unfold Oper.wp at h2 ⊢
          generalize (execOp a.eval oj).run P w = r at *
          cases r with
          | ok n w' =>
            cases n <;> simp only [Oper.upon] at h2 ⊢
            case value u => exact step u w' h2
            case skip => exact step undef w' h2
            case defer d =>
              refine ih (listed.setIfInBounds j true) _ w' (fun k ok hk hki hun hno => ?_) (ready_mono hr (Ne.symm hji)) ?_ (fun w => ?_) ?_
              · refine hfree k ok hk hki ?_ hno
                by_cases hjk : j = k
                · subst hjk; exact hjun
                · rw [getD_set_ne true hjk] at hun; exact hun
              · rw [wanted_put oi _ oj.dst undef a3]; exact hw
              · rw [execOp_put oi (fun cs b => hsel i oi cs b hi) _ oj.dst undef a3]; exact hv w
              · rw [Array.setIfInBounds_comm _ _ hji]
                exact h2
            case row => exact h2.mono fun u w'' hh => step u w'' hh
            case enter =>
              refine h2.mono fun e w'' hh => ?_
              cases e with
              | returned u => exact step u w'' hh
              | panicked c => exact absurd (hQ _ _ _ hh) (by simp)
              | outgrown =>
                obtain ⟨a', w', h'⟩ := hh
                exact absurd (hQ _ _ _ h') (by simp)
          | halt x w' =>
            cases x <;> simp only [Oper.upon] at h2 ⊢
            exact absurd (hQ _ _ _ h2) (by simp)
        · exact absurd (hQ _ _ _ h') (by simp)
      · rename_i hwj
        rw [if_neg hwj] at h2
        exact step undef w h2

/-- Operations that look at no memory. -/
def addrOp (P : Program) (fr : Fr) : Op → Option SV
  | .load _ _ => none
  | op => pureOp P [] fr op
theorem run_addrOp {ntm : Nat} {ρ : List Nat} {fr : Fr} {a : Act} (ha : AInv ntm ρ fr a) {o : Oper} {s : SV} (h : addrOp P fr o.op = some s) (w : World) : (execOp a.eval o).run P w = .ok (.value (s.den ρ)) w := by
  have hl : ∀ t x, o.op ≠ .load t x := fun t x e => by rw [e] at h; cases h
  have h' : pureOp P [] fr o.op = some s := by
    revert h
    unfold addrOp
    split
    · intro h; cases h
    · exact id
  exact run_pureOp (N := 0) (w0 := w) (loc := []) ha (fun ⟨t, x, e⟩ => absurd e (hl t x)) h'

variable {N : Nat} {w0 : World} {ntm : Nat} {F : List Nat → World → Prop}
def pick (P : Program) (ntm : Nat) (all : Array Oper) (listed : Array Bool) (fr : Fr) : List Nat → Option (Nat × Fr)
  | [] => none
  | j :: js => match all[j]? with
    | some o => match guardS all fr o, Region.free .any all listed j && Region.noSelect all, addrOp P fr o.op with
      | some true, true, some r => match putS ntm fr o.dst r with
        | some fr' => some (j, fr')
        | none => pick P ntm all listed fr js
      | _, _, _ => pick P ntm all listed fr js
    | none => pick P ntm all listed fr js
theorem pick_spec {all : Array Oper} {listed : Array Bool} {fr fr' : Fr} {j : Nat} : ∀ {js : List Nat}, pick P ntm all listed fr js = some (j, fr') →
    j ∈ js ∧ ∃ o r, all[j]? = some o ∧ guardS all fr o = some true ∧ (Region.free .any all listed j && Region.noSelect all) = true ∧ addrOp P fr o.op = some r ∧ putS ntm fr o.dst r = some fr'
  | [], h => by cases h
  | k :: js, h => by
    have more : pick P ntm all listed fr js = some (j, fr') → j ∈ k :: js ∧ ∃ o r, all[j]? = some o ∧ guardS all fr o = some true ∧ (Region.free .any all listed j && Region.noSelect all) = true ∧ addrOp P fr o.op = some r ∧ putS ntm fr o.dst r = some fr' := fun h' =>
      let ⟨h1, h2⟩ := pick_spec h'
      ⟨List.mem_cons_of_mem _ h1, h2⟩
    unfold pick at h
    split at h
    · rename_i o ho
      split at h
      · rename_i r hg hf ha
        split at h
        · rename_i fr1 hp
          simp only [Option.some.injEq, Prod.mk.injEq] at h
          obtain ⟨rfl, rfl⟩ := h
          exact ⟨List.mem_cons_self, o, r, ho, hg, hf, ha, hp⟩
        · exact more h
      · exact more h
    · exact more h
/-- All the ways through a region that draws its order, what looks at no memory first. -/
def leaves2 (P : Program) (ntm : Nat) : Nat → S → List S
  | 0, s => [s]
  | f + 1, s => match s.pc, s.ks with
    | .any all g dn, [] => match Region.ready .any all (listedOf all.size dn) with
      | [] => [{ s with pc := .exit .normal }]
      | js => match g with
        | 0 => [s]
        | g + 1 => match pick P ntm all (listedOf all.size dn) s.fr js with
          | some (j, fr') => leaves2 P ntm f ⟨.any all g (j :: dn), [], fr', s.loc⟩
          | none => js.flatMap fun j => leaves2 P ntm f (srun P ntm 0 3 ⟨.ops all ((all.toList.drop j).take 1), [.any all g (j :: dn)], s.fr, s.loc⟩)
    | _, _ => [s]
theorem At.leaves2_sound (hF : Stable F) (hQ : ∀ e a w, Q e a w → e = .normal) : ∀ (f : Nat) {s : S}, (∀ s' ∈ leaves2 P ntm f s, At P Q N w0 ntm F s') → At P Q N w0 ntm F s
  | 0, s, h => h s (by simp [leaves2])
  | f + 1, s, h => by
    obtain ⟨pc, ks, fr, loc⟩ := s
    unfold leaves2 at h
    simp only at h
    split at h
    · rename_i all g dn
      split at h
      · rename_i hr
        have hk := h _ (List.mem_singleton.2 rfl)
        intro ρ a w hi hf
        have hk' := hk ρ a w hi hf
        show wpAny P .any all _ g _ a w
        cases g with
        | zero => exact ⟨hr, hk'⟩
        | succ g => exact ⟨fun _ => hk', fun i hi' => (by rw [hr] at hi'; cases hi')⟩
      · split at h
        · exact h _ (List.mem_singleton.2 rfl)
        · rename_i hne g0 g
          split at h
          · rename_i j fr' hp
            obtain ⟨hj, o, r, ho, hg, hfs, ha, hput⟩ := pick_spec hp
            simp only [Bool.and_eq_true] at hfs
            have ih := At.leaves2_sound hF hQ f h
            intro ρ a w hi hf
            refine wpAny_first hQ ho (Region.noSelect_spec hfs.2) g _ a w (Region.free_spec ho hfs.1) hj (guardS_ok hi.act hg) (run_addrOp hi.act ha) ?_
            exact ih ρ _ w ⟨putS_ok hi.act hput, hi.mem⟩ hf
          · intro ρ a w hi hf
            refine ⟨fun h0 => (hne h0).elim, fun j hj => ?_⟩
            refine wpOp_of_list ?_
            have : At P Q N w0 ntm F ⟨.ops all ((all.toList.drop j).take 1), [.any all g (j :: dn)], fr, loc⟩ :=
              At.run hF 0 3 (At.leaves2_sound hF hQ f fun s' hs' => h s' (List.mem_flatMap.2 ⟨j, hj, hs'⟩))
            exact this ρ a w hi hf
    · exact h _ (List.mem_singleton.2 rfl)
/-- A region that draws its order, of which all ways end in one state. -/
theorem At.anyOrder (hF : Stable F) {j : Nat} (hF' : FewerK j F) {s : S} {all : Array Oper} {g : Nat} {dn : List Nat} (hpc : s.pc = .any all g dn) (f n : Nat) (ts : List Nat) (k : Nat) (fr : Fr) (loc : Loc)
    (hl : (leaves2 P ntm f ⟨.any all g dn, [], s.fr, s.loc⟩).map (fun x => x.keep ts k) = List.replicate n ⟨.exit .normal, [], fr, loc⟩)
    (hsc : (scopedFr k fr && (scopedLoc k loc && Nat.ble j k)) = true) (h0 : At P Q N w0 ntm F ⟨.exit .normal, s.ks, fr, loc⟩) : At P Q N w0 ntm F s := by
  have h1 : At P (fun e a w => e = .normal ∧ Here1 N w0 ntm fr loc F a w) N w0 ntm F ⟨.any all g dn, [], s.fr, s.loc⟩ := by
    refine At.leaves2_sound hF (fun e a w h => h.1) f fun x hx => ?_
    have hx' : x.keep ts k ∈ (leaves2 P ntm f ⟨.any all g dn, [], s.fr, s.loc⟩).map (fun x => x.keep ts k) := List.mem_map.2 ⟨x, hx, rfl⟩
    rw [hl] at hx'
    have he := List.eq_of_mem_replicate hx'
    intro ρ a w hi hf
    simp only [Bool.and_eq_true] at hsc
    obtain ⟨pc, ks, fr1, loc1⟩ := x
    simp only [S.keep, S.mk.injEq] at he
    obtain ⟨rfl, rfl, e3, e4⟩ := he
    subst e3 e4
    exact ⟨rfl, _, hi.keep (s := ⟨.exit .normal, [], fr1, loc1⟩) ts k hsc.1 hsc.2.1, hF' _ _ _ (Nat.le_of_ble_eq_true hsc.2.2) hf⟩
  intro ρ a w hi hf
  rw [hpc]
  refine wpAny_mono2 (fun e a w h => ?_) _ _ _ _ (h1 ρ a w hi hf)
  obtain ⟨rfl, ρ', hi', hg⟩ := h
  exact h0 ρ' a w hi' hg
/-- What looks at no memory is taken, one after the other. -/
def purify (P : Program) (ntm : Nat) : Nat → S → S
  | 0, s => s
  | f + 1, s => match s.pc, s.ks with
    | .any all (g + 1) dn, [] => match pick P ntm all (listedOf all.size dn) s.fr (Region.ready .any all (listedOf all.size dn)) with
      | some (j, fr') => purify P ntm f ⟨.any all g (j :: dn), [], fr', s.loc⟩
      | none => s
    | _, _ => s
theorem At.purify0 (hQ : ∀ e a w, Q e a w → e = .normal) : ∀ (f : Nat) {s : S}, At P Q N w0 ntm F (purify P ntm f s) → At P Q N w0 ntm F s
  | 0, s, h => h
  | f + 1, s, h => by
    obtain ⟨pc, ks, fr, loc⟩ := s
    unfold purify at h
    simp only at h
    split at h
    · rename_i all g dn
      split at h
      · rename_i j fr' hp
        obtain ⟨hj, o, r, ho, hg, hfs, ha, hput⟩ := pick_spec hp
        simp only [Bool.and_eq_true] at hfs
        have ih := At.purify0 hQ f h
        intro ρ a w hi hf
        refine wpAny_first hQ ho (Region.noSelect_spec hfs.2) g _ a w (Region.free_spec ho hfs.1) hj (guardS_ok hi.act hg) (run_addrOp hi.act ha) ?_
        exact ih ρ _ w ⟨putS_ok hi.act hput, hi.mem⟩ hf
      · exact h
    · exact h
/-- As Q, where the walk ends in the ordinary way alone. -/
def Fin (N : Nat) (w0 : World) (ntm : Nat) {σ : Type} (fr : σ → Fr) (loc : σ → Loc) (G : σ → List Nat → World → Prop) (e : Exit) (a : Act) (w : World) : Prop := e = .normal ∧ Here N w0 ntm fr loc G a w
theorem At.cutN {σ : Type} {s : S} (fr : σ → Fr) (loc : σ → Loc) (G : σ → List Nat → World → Prop) {all : Array Oper} {f : Nat} {dn : List Nat} (hpc : s.pc = .any all f dn)
    (h1 : At P (Fin N w0 ntm fr loc G) N w0 ntm F ⟨.any all f dn, [], s.fr, s.loc⟩) (h2 : ∀ x, At P Q N w0 ntm (G x) ⟨.exit .normal, s.ks, fr x, loc x⟩) : At P Q N w0 ntm F s := by
  intro ρ a w hi hf
  rw [hpc]
  refine wpAny_mono2 (fun e a w h => ?_) _ _ _ _ (h1 ρ a w hi hf)
  obtain ⟨rfl, x, ρ', hi', hg⟩ := h
  exact h2 x ρ' a w hi' hg
/-- Within 'At.cutN': what looks at no memory first; the state written out. -/
theorem At.purify {σ : Type} {fr : σ → Fr} {loc : σ → Loc} {G : σ → List Nat → World → Prop} {s : S} (f : Nat) (ts : List Nat) (k : Nat) {j : Nat} (hF' : FewerK j F) (s' : S) (hs : (Go.Sx.purify P ntm f s).keep ts k = s') (hsc : (scopedFr k s'.fr && (scopedLoc k s'.loc && Nat.ble j k)) = true)
    (h : At P (Fin N w0 ntm fr loc G) N w0 ntm F s') : At P (Fin N w0 ntm fr loc G) N w0 ntm F s := by
  refine At.purify0 (fun e a w h => h.1) f ?_
  intro ρ a w hi hf
  simp only [Bool.and_eq_true] at hsc
  subst hs
  exact h _ a w (hi.keep ts k hsc.1 hsc.2.1) (hF' _ _ _ (Nat.le_of_ble_eq_true hsc.2.2) hf)
theorem At.fin {σ : Type} {s : S} {fr : σ → Fr} {loc : σ → Loc} {G : σ → List Nat → World → Prop} (x : σ) (hp : s.pc = .exit .normal) (hk : s.ks = [])
    (hsub : subFr (fr x) s.fr) (hloc : s.loc = loc x) (hG : ∀ ρ a w, Inv N w0 ntm ρ s.fr s.loc a w → F ρ w → G x ρ w) : At P (Fin N w0 ntm fr loc G) N w0 ntm F s := by
  intro ρ a w hi hf
  rw [hp, hk]
  exact ⟨rfl, x, ρ, ⟨hi.act.sub hsub, hloc ▸ hi.mem⟩, hG ρ a w hi hf⟩
end
end Go.Sx
