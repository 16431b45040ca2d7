import Derived.Test.YtkjnbafdmjakgaaDoorSxO
import Derived.ScopeJumps
set_option linter.unusedSimpArgs false
set_option linter.unusedVariables false
namespace Go.Sx
open Go.RowKit
section
variable {P : Program} {Q : Exit → Act → World → Prop} {N : Nat} {w0 : World} {ntm : Nat} {F : List Nat → World → Prop}

/-- A scope in which the run jumps to labels, each of which it may reach in some of a family of states; a measure falls from label to label. -/
theorem wp_scope_x {σ : Type} {c : Code} (I : σ → Act → World → Prop) (lab : σ → Nat) (rest : σ → Code) (μ : σ → Nat) (hf : ∀ x, findLabel c (lab x) = some (rest x)) {a : Act} {w : World}
    (first : c.wp P (exJumps (fun l a w => ∃ x, lab x = l ∧ I x a w) Q) a w)
    (pass : ∀ x a w, I x a w → (rest x).wp P (exJumps (fun l a' w' => ∃ x', lab x' = l ∧ I x' a' w' ∧ μ x' < μ x) Q) a w) : (Code.scope c).wp P Q a w := by
  intro b k cs
  have hg : ∀ x, gotoIn (lab x) (.inScope c :: k) = some (.code (rest x) :: .inScope c :: k) := fun x => by simp [gotoIn, hf x]
  have key : ∀ n x a w, μ x = n → I x a w → ∃ e a' w', Q e a' w' ∧ Arrives P (lone (b.at a (.code (rest x) :: .inScope c :: k)) cs w) b k cs e a' w' := by
    intro n
    induction n using Nat.strongRecOn with
    | _ n ih =>
      intro x a w hn hI
      obtain ⟨e, a₁, w₁, hq, harr⟩ := pass x a w hI b (.inScope c :: k) cs
      cases e with
      | normal => exact ⟨.normal, a₁, w₁, hq, Steps.trans harr (.one step_inScope)⟩
      | exit id => exact ⟨.exit id, a₁, w₁, hq, fun k' hk => harr k' (by simp [exitTo, hk])⟩
      | goto l' =>
        obtain ⟨x', rfl, hI', hlt⟩ := hq
        obtain ⟨e₂, a₂, w₂, hq₂, harr₂⟩ := ih _ (by omega) x' a₁ w₁ rfl hI'
        exact ⟨e₂, a₂, w₂, hq₂, .of_steps (harr _ (hg x')) harr₂⟩
      | ret => exact ⟨_, a₁, w₁, hq, harr⟩
      | panic ch => exact ⟨_, a₁, w₁, hq, harr⟩
      | outgrown => exact ⟨_, a₁, w₁, hq, harr⟩
  obtain ⟨e, a₁, w₁, hq, harr⟩ := first b (.inScope c :: k) cs
  cases e with
  | normal => exact ⟨.normal, a₁, w₁, hq, .head step_scope (Steps.trans harr (.one step_inScope))⟩
  | exit id => exact ⟨.exit id, a₁, w₁, hq, fun k' hk => .head step_scope (harr k' (by simp [exitTo, hk]))⟩
  | goto l' =>
    obtain ⟨x, rfl, hI⟩ := hq
    obtain ⟨e₂, a₂, w₂, hq₂, harr₂⟩ := key _ x a₁ w₁ rfl hI
    exact ⟨e₂, a₂, w₂, hq₂, .of_steps (.head step_scope (harr _ (hg x))) harr₂⟩
  | ret => exact ⟨_, a₁, w₁, hq, .of_steps (.one step_scope) harr⟩
  | panic ch => exact ⟨_, a₁, w₁, hq, .of_steps (.one step_scope) harr⟩
  | outgrown => exact ⟨_, a₁, w₁, hq, .of_steps (.one step_scope) harr⟩

/-- A state of the family of which p holds, at its label. -/
def Jump (N : Nat) (w0 : World) (ntm : Nat) {σ : Type} (lab : σ → Nat) (fr : σ → Fr) (loc : σ → Loc) (G : σ → List Nat → World → Prop) (p : σ → Prop) (l : Nat) (a : Act) (w : World) : Prop :=
  ∃ x, lab x = l ∧ (∃ ρ, Inv N w0 ntm ρ (fr x) (loc x) a w ∧ G x ρ w) ∧ p x
theorem At.scope {σ : Type} {s : S} (c : Code) (lab : σ → Nat) (rest : σ → Code) (fr : σ → Fr) (loc : σ → Loc) (G : σ → List Nat → World → Prop) (μ : σ → Nat) (hc : s.pc = .code (.scope c)) (hf : ∀ x, findLabel c (lab x) = some (rest x))
    (first : At P Q N w0 ntm F ⟨.code c, .jump (Jump N w0 ntm lab fr loc G (fun _ => True)) :: s.ks, s.fr, s.loc⟩)
    (pass : ∀ x, At P Q N w0 ntm (G x) ⟨.code (rest x), .jump (Jump N w0 ntm lab fr loc G (fun x' => μ x' < μ x)) :: s.ks, fr x, loc x⟩) : At P Q N w0 ntm F s := by
  intro ρ a w hi hfF
  rw [hc]
  refine wp_scope_x (σ := σ) (fun x a w => ∃ ρ, Inv N w0 ntm ρ (fr x) (loc x) a w ∧ G x ρ w) lab rest μ hf ?_ ?_
  · refine Code.wp_mono ?_ (first ρ a w hi hfF)
    intro e a' w' hq
    cases e with
    | goto l =>
      obtain ⟨x, h1, h2, _⟩ := hq
      exact ⟨x, h1, h2⟩
    | _ => exact hq
  · rintro x a w ⟨ρ, hi, hg⟩
    refine Code.wp_mono ?_ (pass x ρ a w hi hg)
    intro e a' w' hq
    cases e with
    | goto l =>
      obtain ⟨x', h1, h2, h3⟩ := hq
      exact ⟨x', h1, h2, h3⟩
    | _ => exact hq
theorem At.jump {σ : Type} {s : S} {lab : σ → Nat} {fr : σ → Fr} {loc : σ → Loc} {G : σ → List Nat → World → Prop} {p : σ → Prop} {l : Nat} {ks : List K} (x : σ) (hp : s.pc = .exit (.goto l)) (hk : s.ks = .jump (Jump N w0 ntm lab fr loc G p) :: ks) (hl : lab x = l)
    (hsub : subFr (fr x) s.fr) (hloc : s.loc = loc x) (hG : ∀ ρ a w, Inv N w0 ntm ρ s.fr s.loc a w → F ρ w → G x ρ w) (hpx : p x) : At P Q N w0 ntm F s := by
  intro ρ a w hi hf
  rw [hp, hk]
  exact ⟨x, hl, ⟨ρ, ⟨hi.act.sub hsub, hloc ▸ hi.mem⟩, hG ρ a w hi hf⟩, hpx⟩
end
end Go.Sx

set_option linter.unusedSimpArgs false
set_option linter.unusedVariables false
namespace Go.Sx
open Go.RowKit
section
variable {P : Program} {Q : Exit → Act → World → Prop} {N : Nat} {w0 : World} {ntm : Nat} {F : List Nat → World → Prop}

/-- An index into a slice that came in. -/
def idxQ (P : Program) (fr : Fr) (o : Oper) : Option (Addr × Nat × Int × Nat) :=
  match o.op with
  | .indexAddr t x ix => match P.underlying t, evalS fr x, evalS fr ix with
    | some (.slice e), some (.sl (some a) n _), some si => match litOf si, sizeT P e with
      | some (.int _ i, _), some size => some (a, n, i, size)
      | _, _ => none
    | _, _, _ => none
  | _ => none
theorem run_idxQ {ρ : List Nat} {fr : Fr} {act : Act} (ha : AInv ntm ρ fr act) {o : Oper} {a : Addr} {n size : Nat} {i : Int} (h : idxQ P fr o = some (a, n, i, size)) (h0 : 0 ≤ i) (hn : i < n) (w : World) :
    (execOp act.eval o).run P w = .ok (.value (.pointer (some (a.add (i.toNat * size))))) w := by
  obtain ⟨dst, op, ty, pos, after, guard⟩ := o
  unfold idxQ at h
  simp only at h
  split at h
  · split at h
    · rename_i e a' n' c' si hu hx hi
      split at h
      · rename_i k i' lf size' hl hs
        simp only [Option.some.injEq, Prod.mk.injEq] at h
        obtain ⟨rfl, rfl, rfl, rfl⟩ := h
        have hsi := litOf_den (ρ := ρ) hl
        have hb : 0 ≤ i' ∧ i' < (n' : Int) := ⟨h0, hn⟩
        simp [execOp, evalS_sound ha hx, evalS_sound ha hi, hsi, SV.den, Instr.indexAt, asIntOf, run_underlying hu, hb, run_sizeT hs]
      · cases h
    · cases h
  · cases h
/-- A load of one cell that lies outside the local blocks. -/
def ldQ (P : Program) (fr : Fr) (o : Oper) : Option Addr :=
  match o.op with
  | .load t x => match evalS fr x, isAggT P t with
    | some (.v (.pointer (some a))), some false => some a
    | _, _ => none
  | _ => none
theorem run_ldQ {ρ : List Nat} {fr : Fr} {act : Act} (ha : AInv ntm ρ fr act) {o : Oper} {a : Addr} {v : Value} {w : World} (h : ldQ P fr o = some a) (hc : w.cell? a = some v) :
    (execOp act.eval o).run P w = .ok (.value v) w := by
  obtain ⟨dst, op, ty, pos, after, guard⟩ := o
  unfold ldQ at h
  simp only at h
  split at h
  · split at h
    · rename_i a' hx hb
      simp only [Option.some.injEq] at h
      subst h
      simp [execOp, evalS_sound ha hx, SV.den, Instr.loadAt, Instr.sureAddr, loadVar, run_isAggT hb, hc]
    · cases h
  · cases h
def idxI (P : Program) (ntm : Nat) (s : S) : Option (Addr × Nat × Int × Nat) :=
  match s.head?, s.dstOk ntm with
  | some o, true => idxQ P s.fr o
  | _, _ => none
def ldI (P : Program) (ntm : Nat) (s : S) : Option Addr :=
  match s.head?, s.dstOk ntm with
  | some o, true => ldQ P s.fr o
  | _, _ => none
theorem At.idx {s : S} (a : Addr) (n size : Nat) (i : Int) (hq : idxI P ntm s = some (a, n, i, size)) (h0 : 0 ≤ i) (hn : i < n)
    (hF : Stable F) (h : At P Q N w0 ntm F (s.tail ntm (.v (.pointer (some (a.add (i.toNat * size))))))) : At P Q N w0 ntm F s := by
  unfold idxI at hq
  split at hq
  · rename_i o ho hd
    exact At.op hF o (.v (.pointer (some (a.add (i.toNat * size))))) ho hd (fun ρ act w hi _ => run_idxQ hi.act hq h0 hn w) h
  · cases hq
theorem At.ldx {s : S} (a : Addr) (r : SV) (hq : ldI P ntm s = some a) (hF : Stable F) (hr : ∀ ρ w, WInv N w0 ρ s.loc w → F ρ w → w.cell? a = some (r.den ρ))
    (h : At P Q N w0 ntm F (s.tail ntm r)) : At P Q N w0 ntm F s := by
  unfold ldI at hq
  split at hq
  · rename_i o ho hd
    exact At.op hF o r ho hd (fun ρ act w hi hf => run_ldQ hi.act hq (hr ρ w hi.mem hf)) h
  · cases hq

/-- A shift to the left by a number that is open. -/
def shlQ (P : Program) (ntm : Nat) (s : S) : Option (IntKind × Int × Int) :=
  match s.head?, s.dstOk ntm with
  | some o, true => match o.op with
    | .binOp .shl t x y _ => match evalS s.fr x, evalS s.fr y with
      | some sx, some sy => match litOf sx, litOf sy, sx.calm with
        | some (.int k a, _), some (.int _ b, _), true => some (k, a, b)
        | _, _, _ => none
      | _, _ => none
    | _ => none
  | _, _ => none
theorem At.shl {s : S} (k : IntKind) (a b : Int) (hq : shlQ P ntm s = some (k, a, b)) (h0 : 0 ≤ b) (hF : Stable F)
    (h : At P Q N w0 ntm F (s.tail ntm (.io k (k.wrap (a * 2 ^ (min b.toNat k.bits)))))) : At P Q N w0 ntm F s := by
  unfold shlQ at hq
  split at hq
  · rename_i o ho hd
    split at hq
    · rename_i t x y t2 hop
      split at hq
      · rename_i sx sy hx hy
        split at hq
        · rename_i k' a' l1 k2 b' l2 h1 h2 hcalm
          simp only [Option.some.injEq, Prod.mk.injEq] at hq
          obtain ⟨rfl, rfl, rfl⟩ := hq
          refine At.op hF o (.io k' (k'.wrap (a' * 2 ^ (min b'.toNat k'.bits)))) ho hd (fun ρ act w hi _ => ?_) h
          obtain ⟨dst, op, ty, pos, after, guard⟩ := o
          simp only at hop
          subst hop
          have hr : (binOp .shl t (.int k' a') (.int k2 b')).run P w = .ok (.int k' (k'.wrap (a' * 2 ^ (min b'.toNat k'.bits)))) w :=
            run_shiftS (P := P) (op := .shl) (by simp only [shiftS]; rw [decide_eq_false (by omega)]) t w
          have hg := run_eqGuard_calm (P := P) (ρ := ρ) hcalm .shl t x y (sy.den ρ) w
          rw [litOf_den h1, litOf_den h2] at hg
          simp [execOp, evalS_sound hi.act hx, evalS_sound hi.act hy, litOf_den h1, litOf_den h2, SV.den, hg, hr]
        · cases hq
      · cases hq
    · cases hq
  · cases hq

def SV.canon : SV → SV
  | .v (.int k n) => .io k n
  | .v (.bool b) => .bo b
  | .v (.string x) => .so x
  | s => s
theorem SV.canon_den (ρ : List Nat) : ∀ s : SV, s.canon.den ρ = s.den ρ := by
  intro s
  cases s with
  | v x => cases x <;> rfl
  | _ => rfl
def canonFr (fr : Fr) : Fr := fr.map fun p => (p.1, p.2.canon)
theorem look_canon : ∀ {fr : Fr} {t : Nat} {s : SV}, look (canonFr fr) t = some s → ∃ s', look fr t = some s' ∧ s = s'.canon
  | [], t, s, h => by simp [canonFr, look] at h
  | (k, x) :: l, t, s, h => by
    simp only [canonFr, List.map_cons, look] at h ⊢
    split at h
    · exact ⟨x, rfl, by simpa using h.symm⟩
    · exact look_canon h
/-- What is known may be taken as open. -/
theorem At.canon {s : S} (s' : S) (hs : { s with fr := canonFr s.fr } = s') (h : At P Q N w0 ntm F s') : At P Q N w0 ntm F s := by
  subst hs
  intro ρ a w hi hf
  refine h ρ a w ⟨⟨hi.act.defers, hi.act.size, fun t x hl => ?_⟩, hi.mem⟩ hf
  obtain ⟨x', h1, rfl⟩ := look_canon hl
  rw [SV.canon_den]
  exact hi.act.slot t x' h1
end
end Go.Sx
