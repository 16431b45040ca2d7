import Derived.Test.YtiehnigbcfkcdaaDoorSxT
set_option linter.unusedSimpArgs false
set_option linter.unusedVariables false
namespace Go.Sx
open Go.RowKit
section
variable {P : Program} {Q : Exit → Act → World → Prop} {N : Nat} {w0 : World} {ntm : Nat} {F : List Nat → World → Prop}

/-- A call that makes a row, its value built of the row, and else changes nothing. -/
theorem At.mkrowv {s : S} {base e size : Nat} (g : FuncId) (vs : List SV) (rv : Option Addr → Nat → Nat → SV) (ok : Nat → Prop) (ρ0 : List Nat) (xs : List Value) (hc : s.call? = some (g, vs)) (hb : bodied P g = true) (hd : s.dstOk ntm = true) (hp : s.plain = true) (hsc : scopedFr s.loc.length s.fr = true)
    (hF : ∀ ρ w, F ρ w → FrameR w0 ok ρ0 ρ w) (hbase : base ≤ w0.heap.size)
    (hr : ∀ ρ w, WInv N w0 ρ s.loc w → F ρ w → Calls P g (SV.denL ρ vs).toArray w fun e' w' => ∃ A' n' c', e' = .returned ((rv A' n' c').den ρ) ∧ RowF w (fun _ => False) [] w.heap.size e size A' n' c' xs [] w')
    (h : ∀ A' n' c', At P Q N w0 ntm (RowF w0 ok ρ0 base e size A' n' c' xs) (s.tail ntm (rv A' n' c'))) : At P Q N w0 ntm F s := by
  refine At.callg (X := Option Addr × Nat × Nat) g vs (fun x => rv x.1 x.2.1 x.2.2) (fun _ => s.loc) (fun x => RowF w0 ok ρ0 base e size x.1 x.2.1 x.2.2 xs) hc hb hd hp hsc ?_ (fun x => ?_)
  · intro ρ w hm hf
    have hfr := hF ρ w hf
    refine (hr ρ w hm hf).mono ?_
    rintro e' w' ⟨A', n', c', rfl, k⟩
    have hsz := hfr.1.size
    refine ⟨(A', n', c'), ρ, rfl, Grow.refl _ _, hm.step k.2.1.1 (fun g _ hg => hg.elim) rfl (fun i c t hi => hm.kept k.2.1.1 hi fun hg => hg), ⟨⟨ownsRow_mono k.1.1.1 (by omega), fun g hg hm' => ?_⟩, by have := k.2.1.1.size; omega⟩, hfr.chg k.2.1.1 (fun g _ hg => hg.elim), fun g hg => ?_⟩
    · have := (k.1.1.1.lt g hg).1
      have := (hm.ge g hm').2
      omega
    · have := (k.1.1.1.lt g hg).1
      exact .inr (by omega)
  · rw [tail_withLoc]
    exact h x.1 x.2.1 x.2.2
/-- The bytes of a row that lies outside, as a string: what is asked of the row may come of the facts. -/
theorem At.cvy {s : S} (A : Option Addr) (n c : Nat) (bs : List Nat) (r : SV) (hq : cvI P ntm s = some (A, n, c)) (hF : Stable F) (hr : ∀ ρ, r.den ρ = .string (strOf bs))
    (hc : ∀ ρ w, WInv N w0 ρ s.loc w → F ρ w → bs.length = n ∧ (A = none → bs = []) ∧ ∀ a, A = some a → ∀ (j b : Nat), bs[j]? = some b → w.cell? (a.add j) = some (.int .u8 (b : Int)))
    (h : At P Q N w0 ntm F (s.tail ntm r)) : At P Q N w0 ntm F s := by
  unfold cvI at hq
  split at hq
  · rename_i o ho hd
    exact At.op hF o r ho hd (fun ρ act w hi hf => by
      obtain ⟨h1, h2, h3⟩ := hc ρ w hi.mem hf
      rw [hr]
      exact run_cvQ hi.act bs hq h1 h3 h2) h
  · cases hq
/-- The row's content by a name. -/
theorem At.nameRow {s : S} {ok : Nat → Prop} {ρ0 : List Nat} {base e size : Nat} {A : Option Addr} {n c : Nat} {xs : List Value} (h : ∀ ys, ys = xs → At P Q N w0 ntm (RowF w0 ok ρ0 base e size A n c ys) s) : At P Q N w0 ntm (RowF w0 ok ρ0 base e size A n c xs) s := h xs rfl
end
end Go.Sx
