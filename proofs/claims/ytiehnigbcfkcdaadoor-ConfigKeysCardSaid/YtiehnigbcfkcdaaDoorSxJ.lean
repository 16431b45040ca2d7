import Derived.Test.YtiehnigbcfkcdaaDoorSxI
set_option linter.unusedSimpArgs false
set_option linter.unusedVariables false
namespace Go.Sx
open Go.RowKit

/-- The part of a body at a path: 0, 1: of a sequence; 2, 3: of a test; 4: of a block, a loop, a scope. -/
def sub : Code → List Nat → Code
  | c, [] => c
  | .seq a b, n :: p => match n with | 0 => sub a p | _ => sub b p
  | .cond _ x y, n :: p => match n with | 2 => sub x p | _ => sub y p
  | .block _ c, _ :: p => sub c p
  | .loop c, _ :: p => sub c p
  | .scope c, _ :: p => sub c p
  | _, _ => .skip
def opsOf : Code → Array Oper
  | .region _ ops _ => ops
  | _ => #[]
/-- The operations of the region at a path, from number k on. -/
def pops (c : Code) (p : List Nat) (k : Nat) : PC := .ops (opsOf (sub c p)) ((opsOf (sub c p)).toList.drop k)
def pqops (c : Code) (p : List Nat) (k : Nat) : PC := .qops (opsOf (sub c p)) ((opsOf (sub c p)).toList.drop k)

section
variable {P : Program} {Q : Exit → Act → World → Prop} {N : Nat} {w0 : World} {ntm : Nat} {F : List Nat → World → Prop}

def keepFr (fr : Fr) : List Nat → Fr
  | [] => []
  | t :: l => match look fr t with
    | some s => (t, s) :: keepFr fr l
    | none => keepFr fr l
/-- What is still of use: some slots; the first k local blocks. -/
def S.keep (s : S) (ts : List Nat) (k : Nat) : S := { s with fr := keepFr s.fr ts, loc := s.loc.take k }
theorem look_keepFr {fr : Fr} : ∀ {ts : List Nat} {t : Nat} {s : SV}, look (keepFr fr ts) t = some s → look fr t = some s
  | [], t, s, h => by simp [keepFr, look] at h
  | t' :: l, t, s, h => by
    simp only [keepFr] at h
    split at h
    · rename_i s' hs
      simp only [look] at h
      split at h
      · rename_i hb
        have := Nat.eq_of_beq_eq_true hb
        subst this
        rw [hs, h]
      · exact look_keepFr h
    · exact look_keepFr h

mutual
theorem SV.den_take (ρ : List Nat) (k : Nat) : ∀ s : SV, s.inBlk k = true → s.den (ρ.take k) = s.den ρ
  | .v _, _ => rfl
  | .bo _, _ => rfl
  | .io _ _, _ => rfl
  | .so _, _ => rfl
  | .sl _ _ _, _ => rfl
  | .lp i off, h => by
    have h' : i < k := by simpa [SV.inBlk] using h
    simp [SV.den, nth, List.getD, h']
  | .ls i off _ _, h => by
    have h' : i < k := by simpa [SV.inBlk] using h
    simp [SV.den, nth, List.getD, h']
  | .agg l, h => by simp only [SV.den, SV.denL_take ρ k l (by simpa [SV.inBlk] using h)]
  | .tup l, h => by simp only [SV.den, SV.denL_take ρ k l (by simpa [SV.inBlk] using h)]
  | .fn f cs, h => by simp only [SV.den, SV.denL_take ρ k cs (by simpa [SV.inBlk] using h)]
theorem SV.denL_take (ρ : List Nat) (k : Nat) : ∀ l : List SV, SV.scopedL k l = true → SV.denL (ρ.take k) l = SV.denL ρ l
  | [], _ => rfl
  | s :: l, h => by
    simp only [SV.scopedL, Bool.and_eq_true] at h
    simp only [SV.denL, SV.den_take ρ k s h.1, SV.denL_take ρ k l h.2]
end
/-- Facts that hold with fewer local blocks, too. -/
def Fewer (F : List Nat → World → Prop) : Prop := ∀ ρ w k, F ρ w → F (ρ.take k) w
theorem noF_fewer : Fewer noF := fun _ _ _ _ => trivial

theorem Inv.keep {ρ : List Nat} {s : S} {a : Act} {w : World} (h : Inv N w0 ntm ρ s.fr s.loc a w) (ts : List Nat) (k : Nat) (h1 : scopedFr k (s.keep ts k).fr = true) (h2 : scopedLoc k (s.keep ts k).loc = true) :
    Inv N w0 ntm (ρ.take k) (s.keep ts k).fr (s.keep ts k).loc a w := by
  refine ⟨⟨h.act.defers, h.act.size, fun t x hl => ?_⟩, ⟨h.mem.below, h.mem.hN, by simp [S.keep, h.mem.len], h.mem.nodup.sublist (List.take_sublist _ _), fun b hb => h.mem.ge b (List.mem_of_mem_take hb), fun i c t hi => ?_⟩⟩
  · rw [SV.den_take ρ k x (scopedFr_look h1 hl)]
    exact h.act.slot t x (look_keepFr hl)
  · have hs := scopedLoc_get h2 hi
    have hik : i < k := by
      have := (List.getElem?_eq_some_iff.1 hi).1
      simp [S.keep] at this
      omega
    have hi' : s.loc[i]? = some (c, t) := by
      simpa [S.keep, List.getElem?_take, hik] using hi
    rw [SV.denL_take ρ k c hs]
    have hn : nth (ρ.take k) i = nth ρ i := by simp [nth, List.getD, hik]
    rw [hn]
    exact h.mem.cells i c t hi'
/-- A stretch, and what of its end is kept, written out. -/
theorem At.to (hF : Stable F) (hF' : Fewer F) (u n : Nat) (ts : List Nat) (k : Nat) {s : S} (s' : S) (hs : (srun P ntm u n s).keep ts k = s') (hsc : (scopedFr k s'.fr && scopedLoc k s'.loc) = true) (h : At P Q N w0 ntm F s') : At P Q N w0 ntm F s := by
  refine At.run hF u n ?_
  intro ρ a w hi hf
  simp only [Bool.and_eq_true] at hsc
  subst hs
  exact h _ a w (hi.keep ts k hsc.1 hsc.2) (hF' _ _ _ hf)
end
end Go.Sx
