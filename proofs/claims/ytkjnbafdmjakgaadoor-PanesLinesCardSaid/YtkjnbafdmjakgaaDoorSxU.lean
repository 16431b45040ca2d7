import Derived.Test.YtkjnbafdmjakgaaDoorSxS
set_option linter.unusedSimpArgs false
set_option linter.unusedVariables false
namespace Go.Sx
open Go.RowKit
section
variable {P : Program} {Q : Exit → Act → World → Prop} {N : Nat} {w0 : World} {ntm : Nat} {F : List Nat → World → Prop}

def allOf {α : Type} : List α → (α → Prop) → Prop
  | [], _ => True
  | x :: l, p => p x ∧ allOf l p
theorem allOf.nil {α : Type} {p : α → Prop} : allOf [] p := trivial
theorem allOf.cons {α : Type} {x : α} {l : List α} {p : α → Prop} (h : p x) (hl : allOf l p) : allOf (x :: l) p := ⟨h, hl⟩
theorem allOf.mem {α : Type} {p : α → Prop} : ∀ {l : List α}, allOf l p → ∀ x ∈ l, p x
  | [], _, x, h => by cases h
  | y :: l, h, x, hx => by
    rcases List.mem_cons.1 hx with rfl | hx
    · exact h.1
    · exact allOf.mem h.2 x hx
/-- In a region that draws its order: whichever operation comes up. -/
theorem At.fork {s : S} {all : Array Oper} {f : Nat} {dn : List Nat} (js : List Nat) (hpc : s.pc = .any all (f + 1) dn) (hr : Region.ready .any all (listedOf all.size dn) = js) (hne : js.isEmpty = false)
    (h : allOf js fun j => At P Q N w0 ntm F ⟨.ops all ((all.toList.drop j).take 1), .any all f (j :: dn) :: s.ks, s.fr, s.loc⟩) : At P Q N w0 ntm F s := by
  intro ρ a w hi hf
  rw [hpc]
  refine ⟨fun h0 => ?_, fun j hj => ?_⟩
  · rw [hr] at h0
    rw [h0] at hne
    cases hne
  · rw [hr] at hj
    exact wpOp_of_list (h.mem j hj ρ a w hi hf)

theorem wp_mono2 {o : Oper} {a : Act} {w : World} {K K' : Act → World → Prop} {Q Q' : Exit → Act → World → Prop} (hK : ∀ a w, K a w → K' a w) (hQ : ∀ e a w, Q e a w → Q' e a w) (h : o.wp P a w K Q) : o.wp P a w K' Q' := by
  unfold Oper.wp at *
  generalize (execOp a.eval o).run P w = r at *
  cases r with
  | ok n w' =>
    cases n <;> simp only [Oper.upon] at h ⊢
    case value => exact hK _ _ h
    case skip => exact hK _ _ h
    case defer => exact hK _ _ h
    case row => exact h.mono fun _ _ hh => hK _ _ hh
    case enter =>
      refine h.mono fun e w'' hh => ?_
      cases e with
      | returned v => exact hK _ _ hh
      | panicked c => exact hQ _ _ _ hh
      | outgrown =>
        obtain ⟨a', w', h'⟩ := hh
        exact ⟨a', w', hQ _ _ _ h'⟩
  | halt x w' =>
    cases x <;> simp only [Oper.upon] at h ⊢
    exact hQ _ _ _ h
theorem wpAny_mono2 {md : Region.Mode} {ops : Array Oper} {Q Q' : Exit → Act → World → Prop} (hQ : ∀ e a w, Q e a w → Q' e a w) : ∀ (f : Nat) (listed : Array Bool) (a : Act) (w : World), wpAny P md ops Q f listed a w → wpAny P md ops Q' f listed a w
  | 0, _, _, _, h => ⟨h.1, hQ _ _ _ h.2⟩
  | f + 1, listed, a, w, h => ⟨fun h0 => hQ _ _ _ (h.1 h0), fun i hi => by
    have hk := h.2 i hi
    unfold wpOp at hk ⊢
    split
    · rename_i ho
      simp only [ho] at hk
      exact wpAny_mono2 hQ f _ _ _ hk
    · rename_i o ho
      simp only [ho] at hk
      split
      · rename_i hw
        rw [if_pos hw] at hk
        rcases hk with hk | ⟨h1, a', w', h2⟩
        · exact .inl (wp_mono2 (fun a w hh => wpAny_mono2 hQ f _ a w hh) hQ hk)
        · exact .inr ⟨h1, a', w', hQ _ _ _ h2⟩
      · rename_i hw
        rw [if_neg hw] at hk
        exact wpAny_mono2 hQ f _ _ _ hk⟩
def Here (N : Nat) (w0 : World) (ntm : Nat) {σ : Type} (fr : σ → Fr) (loc : σ → Loc) (G : σ → List Nat → World → Prop) (a : Act) (w : World) : Prop := ∃ x ρ, Inv N w0 ntm ρ (fr x) (loc x) a w ∧ G x ρ w
/-- Behind a region that draws its order the walk stands in one of a family of states, whatever the order. -/
theorem At.cut {σ : Type} {s : S} (fr : σ → Fr) (loc : σ → Loc) (G : σ → List Nat → World → Prop) {all : Array Oper} {f : Nat} {dn : List Nat} (hpc : s.pc = .any all f dn)
    (h1 : At P Q N w0 ntm F ⟨.any all f dn, .next (Here N w0 ntm fr loc G) :: s.ks, s.fr, s.loc⟩) (h2 : ∀ x, At P Q N w0 ntm (G x) ⟨.exit .normal, s.ks, fr x, loc x⟩) : At P Q N w0 ntm F s := by
  intro ρ a w hi hf
  rw [hpc]
  refine wpAny_mono2 (fun e a w h => ?_) _ _ _ _ (h1 ρ a w hi hf)
  cases e with
  | normal =>
    obtain ⟨x, ρ', hi', hg⟩ := h
    exact h2 x ρ' a w hi' hg
  | exit id => exact h
  | goto l => exact h
  | ret => exact h
  | panic c => exact h
  | outgrown => exact h
theorem At.here {σ : Type} {s : S} {fr : σ → Fr} {loc : σ → Loc} {G : σ → List Nat → World → Prop} (x : σ) {ks : List K} (hp : s.pc = .exit .normal) (hk : s.ks = .next (Here N w0 ntm fr loc G) :: ks)
    (hsub : subFr (fr x) s.fr) (hloc : s.loc = loc x) (hG : ∀ ρ a w, Inv N w0 ntm ρ s.fr s.loc a w → F ρ w → G x ρ w) : At P Q N w0 ntm F s := by
  intro ρ a w hi hf
  rw [hp, hk]
  exact ⟨x, ρ, ⟨hi.act.sub hsub, hloc ▸ hi.mem⟩, hG ρ a w hi hf⟩
def Here1 (N : Nat) (w0 : World) (ntm : Nat) (fr : Fr) (loc : Loc) (F : List Nat → World → Prop) (a : Act) (w : World) : Prop := ∃ ρ, Inv N w0 ntm ρ fr loc a w ∧ F ρ w
theorem At.cut1 {s : S} (fr : Fr) (loc : Loc) {all : Array Oper} {f : Nat} {dn : List Nat} (hpc : s.pc = .any all f dn)
    (h1 : At P Q N w0 ntm F ⟨.any all f dn, .next (Here1 N w0 ntm fr loc F) :: s.ks, s.fr, s.loc⟩) (h2 : At P Q N w0 ntm F ⟨.exit .normal, s.ks, fr, loc⟩) : At P Q N w0 ntm F s := by
  intro ρ a w hi hf
  rw [hpc]
  refine wpAny_mono2 (fun e a w h => ?_) _ _ _ _ (h1 ρ a w hi hf)
  cases e with
  | normal =>
    obtain ⟨ρ', hi', hg⟩ := h
    exact h2 ρ' a w hi' hg
  | exit id => exact h
  | goto l => exact h
  | ret => exact h
  | panic c => exact h
  | outgrown => exact h
theorem At.here1 {s : S} {fr : Fr} {loc : Loc} {ks : List K} (hp : s.pc = .exit .normal) (hk : s.ks = .next (Here1 N w0 ntm fr loc F) :: ks) (hsub : subFr fr s.fr) (hloc : s.loc = loc) : At P Q N w0 ntm F s := by
  intro ρ a w hi hf
  rw [hp, hk]
  exact ⟨ρ, ⟨hi.act.sub hsub, hloc ▸ hi.mem⟩, hf⟩
/-- What is open and yet written out may be taken as known. -/
def SV.lit : SV → SV
  | .io k n => .v (.int k n)
  | .bo b => .v (.bool b)
  | .so x => .v (.string x)
  | s => s
theorem SV.lit_den (ρ : List Nat) : ∀ s : SV, s.lit.den ρ = s.den ρ := by
  intro s
  cases s <;> rfl
def litAll (loc : Loc) : Loc := loc.map fun p => (p.1.map SV.lit, p.2)
theorem At.litAll {s : S} (h : At P Q N w0 ntm F { s with loc := litAll s.loc }) : At P Q N w0 ntm F s := by
  intro ρ a w hi hf
  refine h ρ a w ⟨hi.act, hi.mem.below, hi.mem.hN, by rw [hi.mem.len]; simp [Go.Sx.litAll], hi.mem.nodup, hi.mem.ge, fun i c t hc => ?_⟩ hf
  simp only [Go.Sx.litAll, List.getElem?_map, Option.map_eq_some_iff] at hc
  obtain ⟨⟨c', t'⟩, h1, h2⟩ := hc
  simp only [Prod.mk.injEq] at h2
  obtain ⟨rfl, rfl⟩ := h2
  have := hi.mem.cells i c' t' h1
  rw [this]
  simp only [SV.denL_eq, List.map_map]
  congr 4
  funext x
  simp only [Function.comp]
  exact (SV.lit_den ρ x).symm
end
end Go.Sx

set_option linter.unusedSimpArgs false
set_option linter.unusedVariables false
namespace Go.Sx
open Go.RowKit
section
variable {P : Program} {Q : Exit → Act → World → Prop} {N : Nat} {w0 : World} {ntm : Nat} {F : List Nat → World → Prop}

/-- A call that makes a row, its value built of the row, and else changes nothing. -/
theorem At.mkrowv {s : S} {base e size : Nat} (g : FuncId) (vs : List SV) (rv : Option Addr → Nat → Nat → SV) (ok : Nat → Prop) (ρ0 : List Nat) (xs : List Value) (hc : s.call? = some (g, vs)) (hb : bodied P g = true) (hd : s.dstOk ntm = true) (hp : s.plain = true) (hsc : scopedFr s.loc.length s.fr = true)
    (hF : ∀ ρ w, F ρ w → FrameR w0 ok ρ0 ρ w) (hbase : base ≤ w0.heap.size)
    (hr : ∀ ρ w, WInv N w0 ρ s.loc w → F ρ w → Calls P g (SV.denL ρ vs).toArray w fun e' w' => ∃ A' n' c', e' = .returned ((rv A' n' c').den ρ) ∧ RowF w (fun _ => False) [] w.heap.size e size A' n' c' xs [] w')
    (h : ∀ A' n' c', At P Q N w0 ntm (RowF w0 ok ρ0 base e size A' n' c' xs) (s.tail ntm (rv A' n' c'))) : At P Q N w0 ntm F s := by
  refine At.callg (X := Option Addr × Nat × Nat) g vs (fun x => rv x.1 x.2.1 x.2.2) (fun _ => s.loc) (fun x => RowF w0 ok ρ0 base e size x.1 x.2.1 x.2.2 xs) hc hb hd hp hsc ?_ (fun x => ?_)
  · intro ρ w hm hf
    have hfr := hF ρ w hf
    refine (hr ρ w hm hf).mono ?_
    rintro e' w' ⟨A', n', c', rfl, k⟩
    have hsz := hfr.1.size
    refine ⟨(A', n', c'), ρ, rfl, Grow.refl _ _, hm.step k.2.1.1 (fun g _ hg => hg.elim) rfl (fun i c t hi => hm.kept k.2.1.1 hi fun hg => hg), ⟨⟨ownsRow_mono k.1.1.1 (by omega), fun g hg hm' => ?_⟩, by have := k.2.1.1.size; omega⟩, hfr.chg k.2.1.1 (fun g _ hg => hg.elim), fun g hg => ?_⟩
    · have := (k.1.1.1.lt g hg).1
      have := (hm.ge g hm').2
      omega
    · have := (k.1.1.1.lt g hg).1
      exact .inr (by omega)
  · rw [tail_withLoc]
    exact h x.1 x.2.1 x.2.2
/-- The bytes of a row that lies outside, as a string: what is asked of the row may come of the facts. -/
theorem At.cvy {s : S} (A : Option Addr) (n c : Nat) (bs : List Nat) (r : SV) (hq : cvI P ntm s = some (A, n, c)) (hF : Stable F) (hr : ∀ ρ, r.den ρ = .string (strOf bs))
    (hc : ∀ ρ w, WInv N w0 ρ s.loc w → F ρ w → bs.length = n ∧ (A = none → bs = []) ∧ ∀ a, A = some a → ∀ (j b : Nat), bs[j]? = some b → w.cell? (a.add j) = some (.int .u8 (b : Int)))
    (h : At P Q N w0 ntm F (s.tail ntm r)) : At P Q N w0 ntm F s := by
  unfold cvI at hq
  split at hq
  · rename_i o ho hd
    exact At.op hF o r ho hd (fun ρ act w hi hf => by
      obtain ⟨h1, h2, h3⟩ := hc ρ w hi.mem hf
      rw [hr]
      exact run_cvQ hi.act bs hq h1 h3 h2) h
  · cases hq
/-- The row's content by a name. -/
theorem At.nameRow {s : S} {ok : Nat → Prop} {ρ0 : List Nat} {base e size : Nat} {A : Option Addr} {n c : Nat} {xs : List Value} (h : ∀ ys, ys = xs → At P Q N w0 ntm (RowF w0 ok ρ0 base e size A n c ys) s) : At P Q N w0 ntm (RowF w0 ok ρ0 base e size A n c xs) s := h xs rfl
end
end Go.Sx
