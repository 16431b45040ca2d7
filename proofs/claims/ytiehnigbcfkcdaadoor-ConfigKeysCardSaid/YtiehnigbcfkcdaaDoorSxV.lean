import Derived.Test.YtiehnigbcfkcdaaDoorSxU
set_option linter.unusedSimpArgs false
set_option linter.unusedVariables false
namespace Go.Sx
open Go.RowKit
section
variable {P : Program} {Q : Exit → Act → World → Prop} {N : Nat} {w0 : World} {ntm : Nat} {F : List Nat → World → Prop}

/-- All the ways through a region that draws its order, walked one by one. -/
def leaves (P : Program) (ntm : Nat) : Nat → S → List S
  | 0, s => [s]
  | f + 1, s => match s.pc with
    | .any all g dn => match Region.ready .any all (listedOf all.size dn) with
      | [] => [{ s with pc := .exit .normal }]
      | js => match g with
        | 0 => [s]
        | g + 1 => js.flatMap fun j => leaves P ntm f (srun P ntm 0 3 ⟨.ops all ((all.toList.drop j).take 1), .any all g (j :: dn) :: s.ks, s.fr, s.loc⟩)
    | _ => [s]
theorem At.leaves0 (hF : Stable F) : ∀ (f : Nat) {s : S}, (∀ s' ∈ leaves P ntm f s, At P Q N w0 ntm F s') → At P Q N w0 ntm F s
  | 0, s, h => h s (by simp [leaves])
  | f + 1, s, h => by
    obtain ⟨pc, ks, fr, loc⟩ := s
    unfold leaves at h
    simp only at h
    split at h
    · rename_i all g dn
      split at h
      · rename_i hr
        have hk := h _ (List.mem_singleton.2 rfl)
        intro ρ a w hi hf
        have hk' := hk ρ a w hi hf
        show wpAny P .any all _ g _ a w
        cases g with
        | zero => exact ⟨hr, hk'⟩
        | succ g => exact ⟨fun _ => hk', fun i hi' => (by rw [hr] at hi'; cases hi')⟩
      · split at h
        · exact h _ (List.mem_singleton.2 rfl)
        · rename_i hne g0 g
          intro ρ a w hi hf
          refine ⟨fun h0 => (hne h0).elim, fun j hj => ?_⟩
          refine wpOp_of_list ?_
          have : At P Q N w0 ntm F ⟨.ops all ((all.toList.drop j).take 1), .any all g (j :: dn) :: ks, fr, loc⟩ :=
            At.run hF 0 3 (At.leaves0 hF f fun s' hs' => h s' (List.mem_flatMap.2 ⟨j, hj, hs'⟩))
          exact this ρ a w hi hf
    · exact h _ (List.mem_singleton.2 rfl)
/-- They all end in one state. -/
theorem At.leaves (hF : Stable F) {j : Nat} (hF' : FewerK j F) {s : S} (f n : Nat) (ts : List Nat) (k : Nat) (s' : S) (hl : (leaves P ntm f s).map (fun x => x.keep ts k) = List.replicate n s')
    (hsc : (scopedFr k s'.fr && (scopedLoc k s'.loc && Nat.ble j k)) = true) (h : At P Q N w0 ntm F s') : At P Q N w0 ntm F s := by
  refine At.leaves0 hF f fun x hx => ?_
  have hx' : x.keep ts k ∈ (Go.Sx.leaves P ntm f s).map (fun x => x.keep ts k) := List.mem_map.2 ⟨x, hx, rfl⟩
  rw [hl] at hx'
  have he := List.eq_of_mem_replicate hx'
  intro ρ a w hi hf
  simp only [Bool.and_eq_true] at hsc
  subst he
  exact h _ a w (hi.keep ts k hsc.1 hsc.2.1) (hF' _ _ _ (Nat.le_of_ble_eq_true hsc.2.2) hf)
end
end Go.Sx
