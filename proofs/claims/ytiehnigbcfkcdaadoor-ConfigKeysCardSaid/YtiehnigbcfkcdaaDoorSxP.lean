import Derived.Test.YtiehnigbcfkcdaaDoorSxO
import Derived.ScopeJumps
set_option linter.unusedSimpArgs false
set_option linter.unusedVariables false
namespace Go.Sx
open Go.RowKit
section
variable {P : Program} {Q : Exit → Act → World → Prop} {N : Nat} {w0 : World} {ntm : Nat} {F : List Nat → World → Prop}

/-- A scope in which the run jumps to labels, each of which it may reach in some of a family of states; a measure falls from label to label. -/
theorem wp_scope_x {σ : Type} {c : Code} (I : σ → Act → World → Prop) (lab : σ → Nat) (rest : σ → Code) (μ : σ → Nat) (hf : ∀ x, findLabel c (lab x) = some (rest x)) {a : Act} {w : World}
    (first : c.wp P (exJumps (fun l a w => ∃ x, lab x = l ∧ I x a w) Q) a w)
    (pass : ∀ x a w, I x a w → (rest x).wp P (exJumps (fun l a' w' => ∃ x', lab x' = l ∧ I x' a' w' ∧ μ x' < μ x) Q) a w) : (Code.scope c).wp P Q a w := by
  intro b k cs
  have hg : ∀ x, gotoIn (lab x) (.inScope c :: k) = some (.code (rest x) :: .inScope c :: k) := fun x => by simp [gotoIn, hf x]
  have key : ∀ n x a w, μ x = n → I x a w → ∃ e a' w', Q e a' w' ∧ Arrives P (lone (b.at a (.code (rest x) :: .inScope c :: k)) cs w) b k cs e a' w' := by
    intro n
    induction n using Nat.strongRecOn with
    | _ n ih =>
      intro x a w hn hI
      obtain ⟨e, a₁, w₁, hq, harr⟩ := pass x a w hI b (.inScope c :: k) cs
      cases e with
      | normal => exact ⟨.normal, a₁, w₁, hq, Steps.trans harr (.one step_inScope)⟩
      | exit id => exact ⟨.exit id, a₁, w₁, hq, fun k' hk => harr k' (by simp [exitTo, hk])⟩
      | goto l' =>
        obtain ⟨x', rfl, hI', hlt⟩ := hq
        obtain ⟨e₂, a₂, w₂, hq₂, harr₂⟩ := ih _ (by omega) x' a₁ w₁ rfl hI'
        exact ⟨e₂, a₂, w₂, hq₂, .of_steps (harr _ (hg x')) harr₂⟩
      | ret => exact ⟨_, a₁, w₁, hq, harr⟩
      | panic ch => exact ⟨_, a₁, w₁, hq, harr⟩
      | outgrown => exact ⟨_, a₁, w₁, hq, harr⟩
  obtain ⟨e, a₁, w₁, hq, harr⟩ := first b (.inScope c :: k) cs
  cases e with
  | normal => exact ⟨.normal, a₁, w₁, hq, .head step_scope (Steps.trans harr (.one step_inScope))⟩
  | exit id => exact ⟨.exit id, a₁, w₁, hq, fun k' hk => .head step_scope (harr k' (by simp [exitTo, hk]))⟩
  | goto l' =>
    obtain ⟨x, rfl, hI⟩ := hq
    obtain ⟨e₂, a₂, w₂, hq₂, harr₂⟩ := key _ x a₁ w₁ rfl hI
    exact ⟨e₂, a₂, w₂, hq₂, .of_steps (.head step_scope (harr _ (hg x))) harr₂⟩
  | ret => exact ⟨_, a₁, w₁, hq, .of_steps (.one step_scope) harr⟩
  | panic ch => exact ⟨_, a₁, w₁, hq, .of_steps (.one step_scope) harr⟩
  | outgrown => exact ⟨_, a₁, w₁, hq, .of_steps (.one step_scope) harr⟩

/-- A state of the family of which p holds, at its label. -/
def Jump (N : Nat) (w0 : World) (ntm : Nat) {σ : Type} (lab : σ → Nat) (fr : σ → Fr) (loc : σ → Loc) (G : σ → List Nat → World → Prop) (p : σ → Prop) (l : Nat) (a : Act) (w : World) : Prop :=
  ∃ x, lab x = l ∧ (∃ ρ, Inv N w0 ntm ρ (fr x) (loc x) a w ∧ G x ρ w) ∧ p x
theorem At.scope {σ : Type} {s : S} (c : Code) (lab : σ → Nat) (rest : σ → Code) (fr : σ → Fr) (loc : σ → Loc) (G : σ → List Nat → World → Prop) (μ : σ → Nat) (hc : s.pc = .code (.scope c)) (hf : ∀ x, findLabel c (lab x) = some (rest x))
    (first : At P Q N w0 ntm F ⟨.code c, .jump (Jump N w0 ntm lab fr loc G (fun _ => True)) :: s.ks, s.fr, s.loc⟩)
    (pass : ∀ x, At P Q N w0 ntm (G x) ⟨.code (rest x), .jump (Jump N w0 ntm lab fr loc G (fun x' => μ x' < μ x)) :: s.ks, fr x, loc x⟩) : At P Q N w0 ntm F s := by
  intro ρ a w hi hfF
  rw [hc]
  refine wp_scope_x (σ := σ) (fun x a w => ∃ ρ, Inv N w0 ntm ρ (fr x) (loc x) a w ∧ G x ρ w) lab rest μ hf ?_ ?_
  · refine Code.wp_mono ?_ (first ρ a w hi hfF)
    intro e a' w' hq
    cases e with
    | goto l =>
      obtain ⟨x, h1, h2, _⟩ := hq
      exact ⟨x, h1, h2⟩
    | _ => exact hq
  · rintro x a w ⟨ρ, hi, hg⟩
    refine Code.wp_mono ?_ (pass x ρ a w hi hg)
    intro e a' w' hq
    cases e with
    | goto l =>
      obtain ⟨x', h1, h2, h3⟩ := hq
      exact ⟨x', h1, h2, h3⟩
    | _ => exact hq
theorem At.jump {σ : Type} {s : S} {lab : σ → Nat} {fr : σ → Fr} {loc : σ → Loc} {G : σ → List Nat → World → Prop} {p : σ → Prop} {l : Nat} {ks : List K} (x : σ) (hp : s.pc = .exit (.goto l)) (hk : s.ks = .jump (Jump N w0 ntm lab fr loc G p) :: ks) (hl : lab x = l)
    (hsub : subFr (fr x) s.fr) (hloc : s.loc = loc x) (hG : ∀ ρ a w, Inv N w0 ntm ρ s.fr s.loc a w → F ρ w → G x ρ w) (hpx : p x) : At P Q N w0 ntm F s := by
  intro ρ a w hi hf
  rw [hp, hk]
  exact ⟨x, hl, ⟨ρ, ⟨hi.act.sub hsub, hloc ▸ hi.mem⟩, hG ρ a w hi hf⟩, hpx⟩
end
end Go.Sx
