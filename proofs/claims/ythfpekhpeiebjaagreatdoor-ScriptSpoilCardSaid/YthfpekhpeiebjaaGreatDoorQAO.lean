/- Joined texts: AF, VA, UB. -/
import Derived.Test.YthfpekhpeiebjaaGreatDoorQAM
import Derived.Test.YthfpekhpeiebjaaGreatDoorQAN
import Derived.Test.YthfpekhpeiebjaaGreatDoorQAJ
import Derived.Test.YthfpekhpeiebjaaGreatDoorQAD
import Derived.SizedLaws
import Derived.ChangeSlices
set_option linter.unusedSimpArgs false
set_option linter.unusedVariables false
namespace Go.Sx
open Go
def pAO0 : List Nat := [1, 1, 1, 1, 1, 1, 1, 1, 0, 0]
def pAO1 : List Nat := [1, 1, 1, 1, 1, 1, 1, 1, 0, 1]
def pAO2 : List Nat := [1, 1, 1, 1, 1, 1, 1, 1, 1, 1]
def pAO3 : List Nat := [1, 1, 1, 1, 1, 1, 1, 1, 1]
def pAO4 : List Nat := [1, 1, 1, 1, 1, 1, 1, 1]
end Go.Sx
section
/-! A region that draws its order: each operation's value by itself, whatever went before. -/
namespace Go.Sx
open Go.RowKit
/-- What is known of an operation's value: what it is, or what it is up to x, with facts. -/
inductive Kn where
 | eq (s : SV)
 | ex (X : Type) (r : X → SV) (G : X → List Nat → World → Prop)
def Kn.ok : Kn → List Nat → World → Value → Prop
 | .eq s, ρ, _, v => v = s.den ρ
 | .ex _ r G, ρ, w, v => ∃ x, v = (r x).den ρ ∧ G x ρ w
def Kn.St : Kn → Prop
 | .eq _ => True
 | .ex _ _ G => ∀ x, Stable (G x)
theorem Kn.ok.keep {k : Kn} (hs : k.St) {ρ : List Nat} {w w' : World} {v : Value} (h : k.ok ρ w v) (hb : Below w.heap.size w w') : k.ok ρ w' v := by
 cases k with
 | eq s => exact h
 | ex X r G =>
  obtain ⟨x, hx, hg⟩ := h
  exact ⟨x, hx, hs x ρ w ρ w' (Grow.refl _ _) (Keep.of_below hb) hg⟩
def knOf : List (Nat × Kn) → Nat → Option Kn
 | [], _ => none
 | (k, s) :: l, t => match Nat.beq k t with | true => some s | false => knOf l t
/-- What is known in an act: the slots of the operations that are done. -/
def Done (all : Array Oper) (L0 : Array Bool) (kn : List (Nat × Kn)) (ρ : List Nat) (L : Array Bool) (a : Act) (w : World) : Prop :=
 ∀ i o t k, all[i]? = some o → L0.getD i true = false → L.getD i true = true → o.dst = some t → knOf kn i = some k → ∃ v, a.tmps[t]? = some v ∧ k.ok ρ w v
/-- The frame of what is known beforehand, and of these operations' slots. -/
def eqFr (all : Array Oper) (L0 : Array Bool) (kn : List (Nat × Kn)) : List Nat → Fr → Fr
 | [], fr => fr
 | i :: l, fr => match L0.getD i true, all[i]?, knOf kn i with
  | false, some ⟨some t, _, _, _, _, _⟩, some (.eq s) => (t, s) :: eqFr all L0 kn l fr
  | _, _, _ => eqFr all L0 kn l fr
def onsOf (o : Oper) : List Nat := (o.after.toList.filter (Region.binds .any)).map (·.on)
theorem AInv.moreK {ntm : Nat} {ρ : List Nat} {fr : Fr} {a : Act} (h : AInv ntm ρ fr a) {t : Nat} {s : SV} (hs : a.tmps[t]? = some (s.den ρ)) : AInv ntm ρ ((t, s) :: fr) a := by
 refine ⟨h.defers, h.size, fun t' s' hl => ?_⟩
 simp only [look] at hl
 split at hl
 ·rename_i e
  have e := Nat.eq_of_beq_eq_true e
  subst e
  simp only [Option.some.injEq] at hl
  subst hl
  exact hs
 ·exact h.slot t' s' hl
theorem Done.fr {all : Array Oper} {L0 L : Array Bool} {kn : List (Nat × Kn)} {ρ : List Nat} {a : Act} {w : World} {ntm : Nat} {fr : Fr} (hd : Done all L0 kn ρ L a w) (ha : AInv ntm ρ fr a) : ∀ (l : List Nat), (∀ i ∈ l, L0.getD i true = false → L.getD i true = true) → AInv ntm ρ (eqFr all L0 kn l fr) a
 | [], _ => ha
 | i :: l, hl => by
  have ih := hd.fr ha l fun j hj => hl j (List.mem_cons_of_mem _ hj)
  unfold eqFr
  split
  ·rename_i h1 t op ty pos af g s h2 h3 h4
   obtain ⟨v, hv, hk⟩ := hd i _ t _ h3 h2 (hl i (List.mem_cons_self ..) h2) rfl h4
   exact ih.moreK (by rw [hv]; exact congrArg some hk)
  ·exact ih
section
variable {P : Program} {Q : Exit → Act → World → Prop} {N : Nat} {w0 : World} {ntm : Nat} {F : List Nat → World → Prop}
/-- An operation, whatever went before: it is wanted, its value is known, and new blocks alone come. -/
def StepK (P : Program) (N : Nat) (w0 : World) (ntm : Nat) (F : List Nat → World → Prop) (all : Array Oper) (L0 : Array Bool) (kn : List (Nat × Kn)) (fr0 : Fr) (loc : Loc) (i : Nat) : Prop :=
 ∀ o k, all[i]? = some o → knOf kn i = some k → ∀ ρ L a w, AInv ntm ρ (eqFr all L0 kn (onsOf o) fr0) a → Done all L0 kn ρ L a w → (∀ j ∈ onsOf o, L.getD j true = true) → WInv N w0 ρ loc w → F ρ w →
  Region.wanted o (yielded all a.tmps) = true ∧ o.wp P a w (fun a' w' => ∃ v, a' = a.put o.dst v ∧ k.ok ρ w' v ∧ Below w.heap.size w w') (fun _ _ _ => False)
/-- An operation that leaves the world alone, read off by the kernel. -/
def pureK (P : Program) (all : Array Oper) (L0 : Array Bool) (kn : List (Nat × Kn)) (fr0 : Fr) (loc : Loc) (i : Nat) : Option SV :=
 match all[i]? with
 | some o => match guardS all (eqFr all L0 kn (onsOf o) fr0) o with
  | some true => pureOp P loc (eqFr all L0 kn (onsOf o) fr0) o.op
  | _ => none
 | none => none
theorem StepK.pure {all : Array Oper} {L0 : Array Bool} {kn : List (Nat × Kn)} {fr0 : Fr} {loc : Loc} {i : Nat} {s : SV} (hs : pureK P all L0 kn fr0 loc i = some s) (hk : knOf kn i = some (.eq s)) : StepK P N w0 ntm F all L0 kn fr0 loc i := by
 intro o k ho hk' ρ L a w ha hd hl hw hf
 rw [hk] at hk'
 simp only [Option.some.injEq] at hk'
 subst hk'
 unfold pureK at hs
 simp only [ho] at hs
 split at hs
 ·rename_i hg
  refine ⟨guardS_ok ha hg, ?_⟩
  unfold Oper.wp
  rw [run_pureOp (N := N) (w0 := w0) ha (fun _ => hw) hs]
  exact ⟨_, rfl, rfl, Below.refl _ _⟩
 ·cases hs
/-- .. its value by another name. -/
theorem StepK.pureE {all : Array Oper} {L0 : Array Bool} {kn : List (Nat × Kn)} {fr0 : Fr} {loc : Loc} {i : Nat} {s : SV} (s' : SV) (hs : pureK P all L0 kn fr0 loc i = some s') (hk : knOf kn i = some (.eq s)) (he : ∀ ρ, s'.den ρ = s.den ρ) : StepK P N w0 ntm F all L0 kn fr0 loc i := by
 intro o k ho hk' ρ L a w ha hd hl hw hf
 rw [hk] at hk'
 simp only [Option.some.injEq] at hk'
 subst hk'
 unfold pureK at hs
 simp only [ho] at hs
 split at hs
 ·rename_i hg
  refine ⟨guardS_ok ha hg, ?_⟩
  unfold Oper.wp
  rw [run_pureOp (N := N) (w0 := w0) ha (fun _ => hw) hs]
  exact ⟨_, rfl, he ρ, Below.refl _ _⟩
 ·cases hs
/-- An operation whose run is known. -/
def atK (all : Array Oper) (L0 : Array Bool) (kn : List (Nat × Kn)) (fr0 : Fr) (i : Nat) : Option (Oper × Fr) :=
 match all[i]? with
 | some o => match guardS all (eqFr all L0 kn (onsOf o) fr0) o with
  | some true => some (o, eqFr all L0 kn (onsOf o) fr0)
  | _ => none
 | none => none
theorem StepK.run {all : Array Oper} {L0 : Array Bool} {kn : List (Nat × Kn)} {fr0 fr : Fr} {loc : Loc} {i : Nat} {o : Oper} {s : SV} (ho : atK all L0 kn fr0 i = some (o, fr)) (hk : knOf kn i = some (.eq s))
  (hr : ∀ ρ a w, AInv ntm ρ fr a → WInv N w0 ρ loc w → F ρ w → (execOp a.eval o).run P w = .ok (.value (s.den ρ)) w) : StepK P N w0 ntm F all L0 kn fr0 loc i := by
 intro o' k ho' hk' ρ L a w ha hd hl hw hf
 rw [hk] at hk'
 simp only [Option.some.injEq] at hk'
 subst hk'
 unfold atK at ho
 simp only [ho'] at ho
 split at ho
 ·rename_i hg
  simp only [Option.some.injEq, Prod.mk.injEq] at ho
  obtain ⟨rfl, rfl⟩ := ho
  refine ⟨guardS_ok ha hg, ?_⟩
  unfold Oper.wp
  rw [hr ρ a w ha hw hf]
  exact ⟨_, rfl, rfl, Below.refl _ _⟩
 ·cases ho
/-- Bytes of a row as a string. -/
theorem StepK.cv {all : Array Oper} {L0 : Array Bool} {kn : List (Nat × Kn)} {fr0 : Fr} {loc : Loc} {i : Nat} {s : SV} (A : Option Addr) (n c : Nat) (bs : List Nat) (hq : ((atK all L0 kn fr0 i).bind fun x => cvQ P x.2 x.1) = some (A, n, c)) (hk : knOf kn i = some (.eq s)) (hs : ∀ ρ, s.den ρ = .string (strOf bs))
  (hc : ∀ ρ w, WInv N w0 ρ loc w → F ρ w → bs.length = n ∧ (A = none → bs = []) ∧ ∀ a, A = some a → ∀ (j b : Nat), bs[j]? = some b → w.cell? (a.add j) = some (.int .u8 (b : Int))) : StepK P N w0 ntm F all L0 kn fr0 loc i := by
 obtain ⟨⟨o, fr⟩, ho, hq⟩ := Option.bind_eq_some_iff.1 hq
 refine StepK.run ho hk fun ρ a w ha hw hf => ?_
 obtain ⟨h1, h2, h3⟩ := hc ρ w hw hf
 rw [hs]
 exact run_cvQ ha bs hq h1 h3 h2
/-- The slot of an operation whose value is known up to x. -/
def exAt (all : Array Oper) (L0 : Array Bool) (i j : Nat) : Option Nat :=
 match all[i]?, all[j]?, L0.getD j true with
 | some o, some oj, false => match (onsOf o).contains j with
  | true => oj.dst
  | false => none
 | _, _, _ => none
/-- .. that looks at one value known up to x as well. -/
theorem StepK.runX {all : Array Oper} {L0 : Array Bool} {kn : List (Nat × Kn)} {fr0 fr : Fr} {loc : Loc} {i : Nat} {o : Oper} {s : SV} {X : Type} {r : X → SV} {G : X → List Nat → World → Prop} (j t : Nat) (ho : atK all L0 kn fr0 i = some (o, fr)) (hk : knOf kn i = some (.eq s)) (hj : exAt all L0 i j = some t) (hkj : knOf kn j = some (.ex X r G))
  (hr : ∀ x ρ a w, AInv ntm ρ ((t, r x) :: fr) a → WInv N w0 ρ loc w → F ρ w → G x ρ w → (execOp a.eval o).run P w = .ok (.value (s.den ρ)) w) : StepK P N w0 ntm F all L0 kn fr0 loc i := by
 intro o' k ho' hk' ρ L a w ha hd hl hw hf
 rw [hk] at hk'
 simp only [Option.some.injEq] at hk'
 subst hk'
 unfold atK at ho
 simp only [ho'] at ho
 split at ho
 ·rename_i hg
  simp only [Option.some.injEq, Prod.mk.injEq] at ho
  obtain ⟨rfl, rfl⟩ := ho
  refine ⟨guardS_ok ha hg, ?_⟩
  unfold exAt at hj
  split at hj
  ·rename_i o2 oj h1 h2 h3
   rw [ho'] at h1
   simp only [Option.some.injEq] at h1
   subst h1
   split at hj
   ·rename_i hjo
    obtain ⟨v, hv, x, rfl, hx⟩ := hd j oj t _ h2 h3 (hl j (List.contains_iff_mem.1 hjo)) hj hkj
    unfold Oper.wp
    rw [hr x ρ a w (ha.moreK hv) hw hf hx]
    exact ⟨_, rfl, rfl, Below.refl _ _⟩
   ·cases hj
  ·cases hj
 ·cases ho
theorem StepK.cvX {all : Array Oper} {L0 : Array Bool} {kn : List (Nat × Kn)} {fr0 : Fr} {loc : Loc} {i : Nat} {s : SV} {X : Type} {r : X → SV} {G : X → List Nat → World → Prop} (j t : Nat) (A : X → Option Addr) (n : Nat) (c : X → Nat) (bs : List Nat) (hat : (atK all L0 kn fr0 i).isSome = true) (hq : ∀ x, ((atK all L0 kn fr0 i).bind fun y => cvQ P ((t, r x) :: y.2) y.1) = some (A x, n, c x)) (hk : knOf kn i = some (.eq s)) (hj : exAt all L0 i j = some t) (hkj : knOf kn j = some (.ex X r G)) (hs : ∀ ρ, s.den ρ = .string (strOf bs))
  (hc : ∀ x ρ w, WInv N w0 ρ loc w → F ρ w → G x ρ w → bs.length = n ∧ (A x = none → bs = []) ∧ ∀ a, A x = some a → ∀ (j b : Nat), bs[j]? = some b → w.cell? (a.add j) = some (.int .u8 (b : Int))) : StepK P N w0 ntm F all L0 kn fr0 loc i := by
 obtain ⟨⟨o, fr⟩, ho⟩ := Option.isSome_iff_exists.1 hat
 refine StepK.runX j t ho hk hj hkj fun x ρ a w ha hw hf hx => ?_
 have h := hq x
 rw [ho] at h
 obtain ⟨h1, h2, h3⟩ := hc x ρ w hw hf hx
 rw [hs]
 exact run_cvQ ha bs h h1 h3 h2
/-- A call. -/
theorem StepK.call {all : Array Oper} {L0 : Array Bool} {kn : List (Nat × Kn)} {fr0 : Fr} {loc : Loc} {i : Nat} {k : Kn} (g : FuncId) (vs : List SV) (hq : ((atK all L0 kn fr0 i).bind fun x => callS x.2 x.1) = some (g, vs)) (hk : knOf kn i = some k) (hb : bodied P g = true)
  (hr : ∀ ρ w, WInv N w0 ρ loc w → F ρ w → Calls P g (SV.denL ρ vs).toArray w fun e w' => ∃ v, e = .returned v ∧ k.ok ρ w' v ∧ Below w.heap.size w w') : StepK P N w0 ntm F all L0 kn fr0 loc i := by
 obtain ⟨⟨o, fr⟩, ho, hc⟩ := Option.bind_eq_some_iff.1 hq
 intro o' k' ho' hk' ρ L a w ha hd hl hw hf
 rw [hk] at hk'
 simp only [Option.some.injEq] at hk'
 subst hk'
 unfold atK at ho
 simp only [ho'] at ho
 split at ho
 ·rename_i hg
  simp only [Option.some.injEq, Prod.mk.injEq] at ho
  obtain ⟨rfl, rfl⟩ := ho
  refine ⟨guardS_ok ha hg, ?_⟩
  unfold Oper.wp
  rw [run_callS ha hc hb]
  refine (hr ρ w hw hf).mono ?_
  rintro e w' ⟨v, rfl, h1, h2⟩
  exact ⟨v, rfl, h1, h2⟩
 ·cases ho
def cntL (n : Nat) (L : Array Bool) : Nat := ((List.range n).filter fun j => !L.getD j true).length
theorem cntL_set {n i : Nat} {L : Array Bool} (hi : i < n) (h : L.getD i true = false) : cntL n (L.setIfInBounds i true) < cntL n L := by
 have hsz : i < L.size := by
  rcases Nat.lt_or_ge i L.size with h' | h'
  ·exact h'
  ·simp [Array.getElem?_eq_none h'] at h
 have hs : ((List.range n).filter fun j => !(L.setIfInBounds i true).getD j true).Sublist ((List.range n).filter fun j => !L.getD j true) := by
  have e : ((List.range n).filter fun j => !(L.setIfInBounds i true).getD j true) = ((List.range n).filter fun j => !L.getD j true).filter fun j => !(L.setIfInBounds i true).getD j true := by
   rw [List.filter_filter]
   refine List.filter_congr fun j _ => ?_
   by_cases hij : i = j
   ·subst hij; simp [hsz]
   ·rw [getD_set_ne true hij]; simp
  rw [e]
  exact List.filter_sublist
 unfold cntL
 refine Nat.lt_of_le_of_ne hs.length_le fun e => ?_
 have := hs.eq_of_length e
 have hm : i ∈ ((List.range n).filter fun j => !L.getD j true) := List.mem_filter.2 ⟨List.mem_range.2 hi, by rw [h]; rfl⟩
 rw [← this] at hm
 have := (List.mem_filter.1 hm).2
 simp [hsz] at this
/-- Edges lead to what stands ahead. -/
def fwd (all : Array Oper) : Bool := (List.range all.size).all fun i => match all[i]? with
 | some o => (onsOf o).all fun j => Nat.blt j i
 | none => true
theorem ready_nil {all : Array Oper} {L : Array Bool} (hf : fwd all = true) (hs : L.size = all.size) (h : Region.ready .any all L = []) : ∀ i, L.getD i true = true := by
 intro i
 induction i using Nat.strongRecOn with
 | _ i ih =>
  cases hi : L.getD i true with
  | true => rfl
  | false =>
   have hlt : i < L.size := by
    rcases Nat.lt_or_ge i L.size with h' | h'
    ·exact h'
    ·simp [Array.getElem?_eq_none h'] at hi
   have ho : all[i]? = some all[i] := Array.getElem?_eq_getElem (by omega)
   have hm : i ∈ Region.ready .any all L := by
    refine mem_ready.2 ⟨hi, _, ho, fun e he hb => ?_⟩
    have h1 := List.all_eq_true.1 hf i (List.mem_range.2 (by omega))
    rw [ho] at h1
    have h2 := List.all_eq_true.1 h1 e.on (List.mem_map.2 ⟨e, List.mem_filter.2 ⟨by simpa using he, hb⟩, rfl⟩)
    have h3 : e.on < i := by simpa using h2
    have h4 := ih e.on h3
    have hlt2 : e.on < L.size := by omega
    simpa [Array.getElem?_eq_getElem hlt2] using h4
   rw [h] at hm
   cases hm
def pendL (n : Nat) (L0 : Array Bool) : List Nat := (List.range n).filter fun j => !L0.getD j true
/-- The numbers that the rule wants: enough steps, each of them known, each to its own slot. -/
def okK (ntm : Nat) (all : Array Oper) (g : Nat) (L0 : Array Bool) (kn : List (Nat × Kn)) : Bool :=
 fwd all && (Nat.beq L0.size all.size && (Nat.ble (cntL all.size L0) g && ((pendL all.size L0).all (fun i => (knOf kn i).isSome && (match all[i]? with
  | some o => match o.dst with
   | some t => Nat.blt t ntm
   | none => false
  | none => false)) && decide (((pendL all.size L0).filterMap fun i => (all[i]?).bind (·.dst)).Nodup))))
theorem nodup_ne {l : List Nat} {f : Nat → Option Nat} (h : (l.filterMap f).Nodup) {i j t : Nat} (hi : i ∈ l) (hj : j ∈ l) (hij : i ≠ j) (h1 : f i = some t) : f j ≠ some t := by
 induction l with
 | nil => cases hi
 | cons x l ih =>
  intro h2
  rw [List.filterMap_cons] at h
  rcases List.mem_cons.1 hi with hi2 | hi2
  ·subst hi2
   rcases List.mem_cons.1 hj with hj2 | hj2
   ·exact hij hj2.symm
   ·rw [h1] at h
    exact (List.nodup_cons.1 h).1 (List.mem_filterMap.2 ⟨j, hj2, h2⟩)
  ·rcases List.mem_cons.1 hj with hj2 | hj2
   ·subst hj2
    rw [h2] at h
    exact (List.nodup_cons.1 h).1 (List.mem_filterMap.2 ⟨i, hi2, h1⟩)
   ·refine ih ?_ hi2 hj2 h2
    cases hx : f x with
    | none => rw [hx] at h; exact h
    | some y => rw [hx] at h; exact (List.nodup_cons.1 h).2
theorem drawn_all {all : Array Oper} {g : Nat} {L0 : Array Bool} {kn : List (Nat × Kn)} {fr0 : Fr} {ds : List Nat} {fr : Fr} {loc : Loc} (hfr : fr0 = drops ds fr) (hds : ∀ o ∈ unl all L0, ∀ t, o.dst = some t → t ∈ ds) (hok : okK ntm all g L0 kn = true) (hF : Stable F) (hkn : ∀ i k, knOf kn i = some k → k.St)
  (hst : ∀ i, L0.getD i true = false → i < all.size → StepK P N w0 ntm F all L0 kn fr0 loc i) {ρ : List Nat} {Q : Exit → Act → World → Prop}
  (hQ : ∀ a w, AInv ntm ρ fr0 a → Done all L0 kn ρ (Array.replicate all.size true) a w → WInv N w0 ρ loc w → F ρ w → Q .normal a w) :
  ∀ (f : Nat) (L : Array Bool) (a : Act) (w : World), L.size = all.size → (∀ i, L0.getD i true = true → L.getD i true = true) → cntL all.size L ≤ f → AInv ntm ρ fr0 a → Done all L0 kn ρ L a w → WInv N w0 ρ loc w → F ρ w → wpAny P .any all Q f L a w := by
 simp only [okK, Bool.and_eq_true] at hok
 obtain ⟨hfw, hs0, _, hp, hnd⟩ := hok
 have hend : ∀ (L : Array Bool) (a : Act) (w : World), L.size = all.size → Region.ready .any all L = [] → AInv ntm ρ fr0 a → Done all L0 kn ρ L a w → WInv N w0 ρ loc w → F ρ w → Q .normal a w := fun L a w hsz hr ha hd hw hf =>
  hQ a w ha (fun i o t k h1 h2 _ h4 h5 => hd i o t k h1 h2 (ready_nil hfw hsz hr i) h4 h5) hw hf
 intro f
 induction f with
 | zero =>
  intro L a w hsz hsub hc ha hd hw hf
  have hr : Region.ready .any all L = [] := by
   refine List.eq_nil_iff_forall_not_mem.2 fun i hi => ?_
   obtain ⟨h1, o, ho, _⟩ := mem_ready.1 hi
   have := cntL_set (Array.getElem?_eq_some_iff.1 ho).1 h1
   omega
  exact ⟨hr, hend L a w hsz hr ha hd hw hf⟩
 | succ f ih =>
  intro L a w hsz hsub hc ha hd hw hf
  refine ⟨fun hr => hend L a w hsz hr ha hd hw hf, fun i hi => ?_⟩
  obtain ⟨h1, o, ho, hall⟩ := mem_ready.1 hi
  have hlt := (Array.getElem?_eq_some_iff.1 ho).1
  have h0 : L0.getD i true = false := by
   cases h : L0.getD i true with
   | false => rfl
   | true => rw [hsub i h] at h1; cases h1
  have hpi : i ∈ pendL all.size L0 := List.mem_filter.2 ⟨List.mem_range.2 hlt, by rw [h0]; rfl⟩
  have hpp := List.all_eq_true.1 hp i hpi
  rw [ho] at hpp
  simp only [Bool.and_eq_true] at hpp
  obtain ⟨hkk, hdst⟩ := hpp
  obtain ⟨k, hk⟩ := Option.isSome_iff_exists.1 hkk
  obtain ⟨t, ht, htn⟩ : ∃ t, o.dst = some t ∧ t < ntm := by
   split at hdst
   ·rename_i t ht
    exact ⟨t, ht, by simpa using hdst⟩
   ·cases hdst
  have hons : ∀ j ∈ onsOf o, L.getD j true = true := fun j hj => by
   obtain ⟨e, he, rfl⟩ := List.mem_map.1 hj
   obtain ⟨he1, he2⟩ := List.mem_filter.1 he
   have h5 := hall e (by simpa using he1) he2
   rcases Nat.lt_or_ge e.on L.size with h' | h'
   ·simpa [Array.getElem?_eq_getElem h'] using h5
   ·simp [Array.getElem?_eq_none h'] at h5
  obtain ⟨hwn, hwp⟩ := hst i h0 hlt o k ho hk ρ L a w (hd.fr ha _ fun j hj _ => hons j hj) hd hons hw hf
  unfold wpOp
  simp only [ho, hwn, if_true]
  refine .inl (wp_mono2 ?_ (fun _ _ _ h => h.elim) hwp)
  rintro a' w' ⟨v, rfl, hv, hb⟩
  have hat : t < a.tmps.size := by rw [ha.size]; exact htn
  have hput : (a.put o.dst v).tmps = a.tmps.setIfInBounds t v := by rw [ht]; rfl
  refine ih _ _ _ (by simpa using hsz) (fun j hj => ?_) ?_ ?_ ?_ (hw.later hb) (hF ρ w ρ w' (Grow.refl _ _) (Keep.of_below hb) hf)
  ·by_cases hij : i = j
   ·subst hij; simp [show i < L.size by omega]
   ·rw [getD_set_ne true hij]; exact hsub j hj
  ·have := cntL_set (n := all.size) hlt h1
   omega
  ·subst hfr
   exact ha.over (hds o (mem_unl ho h0)) v
  ·intro j oj tj kj hj1 hj2 hj3 hj4 hj5
   rw [hput]
   by_cases hij : i = j
   ·subst hij
    rw [ho] at hj1
    simp only [Option.some.injEq] at hj1
    subst hj1
    rw [ht] at hj4
    simp only [Option.some.injEq] at hj4
    subst hj4
    rw [hk] at hj5
    simp only [Option.some.injEq] at hj5
    subst hj5
    exact ⟨v, by simp [hat], hv⟩
   ·rw [getD_set_ne true hij] at hj3
    obtain ⟨u, hu1, hu2⟩ := hd j oj tj kj hj1 hj2 hj3 hj4 hj5
    have hjp : j ∈ pendL all.size L0 := List.mem_filter.2 ⟨List.mem_range.2 (Array.getElem?_eq_some_iff.1 hj1).1, by rw [hj2]; rfl⟩
    have hne : t ≠ tj := fun e => nodup_ne (of_decide_eq_true hnd) hpi hjp hij (show ((all[i]?).bind (·.dst)) = some t by rw [ho]; exact ht) (show ((all[j]?).bind (·.dst)) = some t by rw [hj1, e]; exact hj4)
    exact ⟨u, by rw [Array.getElem?_setIfInBounds_ne hne]; exact hu1, hu2.keep (hkn j kj hj5) hb⟩
/-- A region that draws its order, op by op. -/
theorem At.drawn {Y : Type} {s : S} {all : Array Oper} {g : Nat} {dn : List Nat} (kn : List (Nat × Kn)) (frY : Y → Fr) (GY : Y → List Nat → World → Prop) (hpc : s.pc = .any all g dn) (hok : okK ntm all g (listedOf all.size dn) kn = true) (hF : Stable F) (hkn : ∀ i k, knOf kn i = some k → k.St)
  (hst : ∀ i ∈ pendL all.size (listedOf all.size dn), StepK P N w0 ntm F all (listedOf all.size dn) kn (drops ((unl all (listedOf all.size dn)).filterMap (·.dst)) s.fr) s.loc i)
  (hfin : ∀ ρ a w, AInv ntm ρ (eqFr all (listedOf all.size dn) kn (pendL all.size (listedOf all.size dn)) (drops ((unl all (listedOf all.size dn)).filterMap (·.dst)) s.fr)) a → Done all (listedOf all.size dn) kn ρ (Array.replicate all.size true) a w → F ρ w → ∃ y, AInv ntm ρ (frY y) a ∧ GY y ρ w)
  (h : ∀ y, At P Q N w0 ntm (GY y) ⟨.exit .normal, s.ks, frY y, s.loc⟩) : At P Q N w0 ntm F s := by
 have hok' := hok
 simp only [okK, Bool.and_eq_true] at hok'
 obtain ⟨_, hs0, hc0, _⟩ := hok'
 have hs0 := Nat.eq_of_beq_eq_true hs0
 have hc0 := Nat.le_of_ble_eq_true hc0
 intro ρ a w hi hf
 rw [hpc]
 refine drawn_all (ds := (unl all (listedOf all.size dn)).filterMap (·.dst)) (fr := s.fr) rfl (fun o ho t ht => List.mem_filterMap.2 ⟨o, ho, ht⟩) hok hF hkn (fun i h0 hlt => hst i (List.mem_filter.2 ⟨List.mem_range.2 hlt, by rw [h0]; rfl⟩)) (ρ := ρ) ?_ g _ a w hs0 (fun _ h => h) hc0 (hi.act.drops_ _) ?_ hi.mem hf
 ·intro a' w' ha hd hw hf'
  obtain ⟨y, hy1, hy2⟩ := hfin ρ a' w' (hd.fr ha _ fun i hi _ => by
   have := List.mem_range.1 (List.mem_filter.1 hi).1
   simp [this]) hd hf'
  exact h y ρ a' w' ⟨hy1, hw⟩ hy2
 ·intro i o t k h1 h2 h3
  rw [h2] at h3
  cases h3
def knSts : List (Nat × Kn) → Prop
 | [] => True
 | p :: l => p.2.St ∧ knSts l
theorem knSt {kn : List (Nat × Kn)} (h : knSts kn) : ∀ i k, knOf kn i = some k → k.St := by
 induction kn with
 | nil => intro i k hk; cases hk
 | cons p l ih =>
  intro i k hk
  simp only [knOf] at hk
  split at hk
  ·simp only [Option.some.injEq] at hk
   subst hk
   exact h.1
  ·exact ih h.2 i k hk
/-- .. the numbers written out. -/
theorem At.drawnY {Y : Type} {s : S} {all : Array Oper} {g : Nat} {dn : List Nat} (kn : List (Nat × Kn)) (js : List Nat) (frY : Y → Fr) (GY : Y → List Nat → World → Prop) (hpc : s.pc = .any all g dn) (hok : okK ntm all g (listedOf all.size dn) kn = true) (hjs : pendL all.size (listedOf all.size dn) = js) (hF : Stable F) (hkn : knSts kn)
  (hst : allOf js fun i => StepK P N w0 ntm F all (listedOf all.size dn) kn (drops ((unl all (listedOf all.size dn)).filterMap (·.dst)) s.fr) s.loc i)
  (hfin : ∀ ρ a w, AInv ntm ρ (eqFr all (listedOf all.size dn) kn js (drops ((unl all (listedOf all.size dn)).filterMap (·.dst)) s.fr)) a → Done all (listedOf all.size dn) kn ρ (Array.replicate all.size true) a w → F ρ w → ∃ y, AInv ntm ρ (frY y) a ∧ GY y ρ w)
  (h : ∀ y, At P Q N w0 ntm (GY y) ⟨.exit .normal, s.ks, frY y, s.loc⟩) : At P Q N w0 ntm F s := by
 subst hjs
 exact At.drawn kn frY GY hpc hok hF (knSt hkn) (fun i hi => hst.mem i hi) hfin h
theorem At.drawn0 {s : S} {all : Array Oper} {g : Nat} {dn : List Nat} (kn : List (Nat × Kn)) (js : List Nat) (fr' : Fr) (hpc : s.pc = .any all g dn) (hok : okK ntm all g (listedOf all.size dn) kn = true) (hjs : pendL all.size (listedOf all.size dn) = js) (hF : Stable F) (hkn : knSts kn)
  (hst : allOf js fun i => StepK P N w0 ntm F all (listedOf all.size dn) kn (drops ((unl all (listedOf all.size dn)).filterMap (·.dst)) s.fr) s.loc i)
  (hsub : subFr fr' (eqFr all (listedOf all.size dn) kn js (drops ((unl all (listedOf all.size dn)).filterMap (·.dst)) s.fr)))
  (h : At P Q N w0 ntm F ⟨.exit .normal, s.ks, fr', s.loc⟩) : At P Q N w0 ntm F s :=
 At.drawnY (Y := Unit) kn js (fun _ => fr') (fun _ => F) hpc hok hjs hF hkn hst (fun ρ a w ha _ hf => ⟨(), ha.sub hsub, hf⟩) (fun _ => h)
end
end Go.Sx
end
section
namespace Go.Proofs.YthfpekhpeiebjaaGreatDoor
open Go.RowKit Go.Sx
theorem slb_pre {b n c m : Nat} {a : Addr} {L : List Rw} {bs : List UInt8} {ys : List Value} {ρ : List Nat} {w : World} (h : Rws b L ρ w) (hx : (⟨5, 1, some a, m, c, bw bs ++ ys⟩ : Rw) ∈ L) (hn : n = bs.length) : SlB w (some a) n bs :=
 ⟨hn, fun e => (by cases e), fun a' ha => by
  injection ha with ha
  subst ha
  exact src_pre (h.src hx rfl)⟩
theorem slb_row {b n c : Nat} {A : Option Addr} {L : List Rw} {bs : List UInt8} {ρ : List Nat} {w : World} (h : Rws b L ρ w) (hx : (⟨5, 1, A, n, c, bw bs⟩ : Rw) ∈ L) : SlB w A n bs := by
 have hl := h.len hx
 simp only [bw_len, Nat.mul_one] at hl
 refine ⟨hl.symm, fun e => ?_, fun a ha => h.src hx ha⟩
 have := (h.isNil hx e).2
 simp only at this
 exact List.length_eq_zero_iff.1 (by rw [← bw_len, this]; rfl)
theorem slb_cw {w : World} {A : Option Addr} {n : Nat} {bs : List UInt8} (h : SlB w A n bs) : (bs.map UInt8.toNat).length = n ∧ (A = none → bs.map UInt8.toNat = []) ∧ ∀ a, A = some a → ∀ (j b : Nat), (bs.map UInt8.toNat)[j]? = some b → w.cell? (a.add j) = some (.int .u8 (b : Int)) := by
 refine ⟨by rw [List.length_map, h.1], fun e => by rw [h.2.1 e]; rfl, fun a ha j b hj => ?_⟩
 refine h.2.2 a ha j _ ?_
 rw [List.getElem?_map] at hj
 obtain ⟨y, hy, rfl⟩ := Option.map_eq_some_iff.1 hj
 rw [bw, List.getElem?_map, hy]
 rfl
theorem wrap_u32 (x : Int) : 0 ≤ IntKind.u32.wrap x ∧ IntKind.u32.wrap x < 4294967296 := by
 have e : IntKind.u32.wrap x = x % 4294967296 := by simp [IntKind.wrap, IntKind.signed, IntKind.bits]
 rw [e]
 omega
theorem SlB.below {w w' : World} {A : Option Addr} {n : Nat} {bs : List UInt8} (h : SlB w A n bs) (hb : Below w.heap.size w w') : SlB w' A n bs := ⟨h.1, h.2.1, fun a ha => src_low (h.2.2 a ha) hb⟩
def frVA (B : Option Addr) (n cap : Nat) (bit mask : Int) (am : Addr) (c1 : Nat) (G1 : Option Addr) (gc : Nat) (G2 : Option Addr) (tc : Nat) (G3 : Option Addr) (wc : Nat) : Nat × List Value → Fr
 | (i, _) => [(0, .sl B n cap), (2, .io .i64 bit), (7, .io .u32 mask), (8, .sl (some am) n c1), (9, .sl G1 n gc), (10, .sl G2 n tc), (11, .sl G3 n wc), (12, .io .i64 (i : Int))]
def locVA (_ : Nat × List Value) : Sx.Loc := []
noncomputable def B6 : Code := (Tryz.f6.body).getD .skip
set_option maxHeartbeats 20000000 in
set_option maxRecDepth 100000 in
theorem spoil_true (B : Option Addr) (n cap : Nat) (bs key : List UInt8) (bit : Int) (w : World) (hw : Wd w) (hB : SlB w B n bs) (hb : in64 bit) :
  Calls Tryz.prog 6 #[.slice B n cap, .string (mkB key), .int .i64 bit] w fun e w' => e = .returned (.bool true) ∧ Below w.heap.size w w' := by
 refine enterF (N := w.heap.size) (F := Rws w.heap.size []) (fn := Tryz.f6) (c := B6) [.sl B n cap, .so (mkB key), .io .i64 bit] Tryz.func6 rfl rfl (Nat.le_refl _) (Rws.none _ _ _) ?_
 refine At.toJ (Rws.stable) Rws.fewer 0 14 [0, 1, 2, 16] 0 ⟨pops B6 [1, 0, 0] 4, [.seq (sub B6 [1, 0, 1]), .seq (sub B6 [1, 1])], [(0, .sl B n cap), (1, .so (mkB key)), (2, .io .i64 bit), (16, .bo (decide ((↑n : Int) > 20000)))], []⟩ (by kernel_rfl) (by kernel_rfl) ?_
 rcases Bool.eq_false_or_eq_true (decide ((↑n : Int) > 20000)) with b0 | b0
 ·refine At.res 16 (decide ((↑n : Int) > 20000)) true (by kernel_rfl) b0 ?_
  refine At.toJ (Rws.stable) Rws.fewer 0 14 [] 0 ⟨pops B6 [1, 0, 1, 2, 0] 0, [.seq (sub B6 [1, 0, 1, 2, 1]), .seq (sub B6 [1, 1])], [], []⟩ (by kernel_rfl) (by kernel_rfl) ?_
  refine At.call Rws.stable 8 [] (.v (.bool true)) (by kernel_rfl) (by kernel_rfl) (by kernel_rfl) (fun _ _ w1 hi _ => known_true w1 (hw.below hi.mem.below)) ?_
  refine At.toJ (Rws.stable) Rws.fewer 0 300 [6] 0 ⟨.exit .ret, [], [(6, .v (.bool true))], []⟩ (by kernel_rfl) (by kernel_rfl) ?_
  refine At.ret (by kernel_rfl) (.v (.bool true)) (by kernel_rfl) ?_
  intro ρ w9 hm' hf
  exact ⟨rfl, hm'.below⟩
 ·refine At.res 16 (decide ((↑n : Int) > 20000)) false (by kernel_rfl) b0 ?_
  refine At.toJ (Rws.stable) Rws.fewer 0 14 [0, 1, 2, 20] 0 ⟨.code (sub B6 [1, 0, 1]), [.seq (sub B6 [1, 1])], [(0, .sl B n cap), (1, .so (mkB key)), (2, .io .i64 bit), (20, .bo (decide ((↑(mkB key).size : Int) > 20000)))], []⟩ (by kernel_rfl) (by kernel_rfl) ?_
  rcases Bool.eq_false_or_eq_true (decide ((↑(mkB key).size : Int) > 20000)) with b1 | b1
  ·refine At.res 20 (decide ((↑(mkB key).size : Int) > 20000)) true (by kernel_rfl) b1 ?_
   refine At.toJ (Rws.stable) Rws.fewer 0 300 [] 0 ⟨pops B6 [1, 0, 1, 2, 0] 0, [.seq (sub B6 [1, 0, 1, 2, 1]), .seq (sub B6 [1, 1])], [], []⟩ (by kernel_rfl) (by kernel_rfl) ?_
   refine At.call Rws.stable 8 [] (.v (.bool true)) (by kernel_rfl) (by kernel_rfl) (by kernel_rfl) (fun _ _ w1 hi _ => known_true w1 (hw.below hi.mem.below)) ?_
   refine At.toJ (Rws.stable) Rws.fewer 0 300 [6] 0 ⟨.exit .ret, [], [(6, .v (.bool true))], []⟩ (by kernel_rfl) (by kernel_rfl) ?_
   refine At.ret (by kernel_rfl) (.v (.bool true)) (by kernel_rfl) ?_
   intro ρ w9 hm' hf
   exact ⟨rfl, hm'.below⟩
  ·refine At.res 20 (decide ((↑(mkB key).size : Int) > 20000)) false (by kernel_rfl) b1 ?_
   refine At.toJ (Rws.stable) Rws.fewer 0 8 [0, 1, 2, 24] 0 ⟨pops B6 [1, 1, 0] 3, [.seq (sub B6 [1, 1, 1])], [(0, .sl B n cap), (1, .so (mkB key)), (2, .io .i64 bit), (24, .io IntKind.u32 (IntKind.u32.wrap (↑(mkB key).size : Int)))], []⟩ (by kernel_rfl) (by kernel_rfl) ?_
   have hn : n ≤ 20000 := by have := of_decide_eq_false b0; omega
   have hk : key.length ≤ 20000 := by have := of_decide_eq_false b1; rw [mkB_size] at this; omega
   clear b0 b1
   obtain ⟨m1, hm1⟩ : ∃ m, binInt .mul .u32 (IntKind.u32.wrap (↑(mkB key).size : Int)) 2654435761 = some (.int .u32 m) := ⟨_, rfl⟩
   refine At.bix .mul .u32 (IntKind.u32.wrap (↑(mkB key).size : Int)) 2654435761 m1 (by kernel_rfl) hm1 Rws.stable ?_
   refine At.toJ (Rws.stable) Rws.fewer 0 2 [0, 1, 2, 25, 27] 0 ⟨pops B6 [1, 1, 0] 6, [.seq (sub B6 [1, 1, 1])], [(0, .sl B n cap), (1, .so (mkB key)), (2, .io .i64 bit), (25, .io IntKind.u32 m1), (27, .io IntKind.u32 (IntKind.u32.wrap bit))], []⟩ (by kernel_rfl) (by kernel_rfl) ?_
   obtain ⟨mask, hmk, hmb⟩ : ∃ m, binInt .xor .u32 m1 (IntKind.u32.wrap bit) = some (.int .u32 m) ∧ 0 ≤ m ∧ m < 4294967296 := ⟨_, rfl, wrap_u32 _⟩
   refine At.bix .xor .u32 m1 (IntKind.u32.wrap bit) mask (by kernel_rfl) hmk Rws.stable ?_
   clear hmk hm1
   refine At.toJ (Rws.stable) Rws.fewer 0 300 [0, 1, 2, 7, 29] 0 ⟨pops B6 [1, 1, 1, 0] 1, [.seq (sub B6 [1, 1, 1, 1])], [(0, .sl B n cap), (1, .so (mkB key)), (2, .io .i64 bit), (7, .io IntKind.u32 mask), (29, .sl B n cap)], []⟩ (by kernel_rfl) (by kernel_rfl) ?_
   obtain ⟨T, hT⟩ : ∃ T, T = turnB (onM mask) bit (List.range' 0 32) bs := ⟨_, rfl⟩
   have hTl : T.length = n := by rw [hT, turnB_len, hB.1]
   refine At.mono (F' := Rws w.heap.size [⟨5, 1, none, 0, 0, []⟩]) (fun ρ w1 h => h.nil _ _) ?_
   refine At.appR 5 1 1 none 0 0 B n cap [] (bw bs) [] (by kernel_rfl) (by rw [bw_len, ← hB.1, Nat.mul_one]) (bw_one bs) (fun e => by have h9 := hB.1; rw [hB.2.1 e] at h9; exact h9) (fun b hb ρ w1 hm _ => src_low (hB.2.2 b hb) hm.below) (by omega) (by simp only [maxLen]; omega) (fun M c0 hc0 => ?_)
   rw [Nat.zero_add, List.nil_append]
   refine At.toJ (Rws.stable) Rws.fewer 0 300 [0, 1, 2, 7, 30, 31] 1 ⟨pops B6 [1, 1, 1, 0] 3, [.seq (sub B6 [1, 1, 1, 1])], [(0, .sl B n cap), (1, .so (mkB key)), (2, .io .i64 bit), (7, .io IntKind.u32 mask), (30, .sl M n c0), (31, .ls 0 0 1 1)], [([.v (.int IntKind.u8 165)], 5)]⟩ (by kernel_rfl) (by kernel_rfl) ?_
   refine At.appV 55 5 1 1 M n c0 1 [.v (.int .u8 165)] (bw bs) [.int .u8 165] [] (by kernel_rfl) (fun _ => rfl) (by omega) (by simp only [maxLen]; omega) (fun M c1 hc1 => ?_)
   refine At.learn (p := ∃ a, M = some a) (fun ρ w1 hf => hf.some (.head _) (Nat.succ_pos n)) ?_
   rintro ⟨am, rfl⟩
   refine At.toJ (Rws.stable) Rws.fewer 0 300 [0, 1, 2, 7, 32, 34] 0 ⟨pops B6 [1, 1, 1, 0] 6, [.seq (sub B6 [1, 1, 1, 1])], [(0, .sl B n cap), (1, .so (mkB key)), (2, .io .i64 bit), (7, .io IntKind.u32 mask), (32, .sl (some am) (n + 1) c1), (34, .io .i64 (↑n : Int))], []⟩ (by kernel_rfl) (by kernel_rfl) ?_
   refine At.slx (some am) (n + 1) c1 none (n : Int) 1 (.sl (some am) n c1) (by kernel_rfl) Rws.stable (by simp) (by simp) (fun ρ w1 hm hf => ⟨by omega, by simp [SV.den, Addr.add]⟩) ?_
   refine At.toJ (Rws.stable) Rws.fewer 0 300 [0, 1, 2, 7, 8, 36, 37, 38] 0 ⟨pops B6 [1, 1, 1, 1, 0] 3, [.seq (sub B6 [1, 1, 1, 1, 1])], [(0, .sl B n cap), (1, .so (mkB key)), (2, .io .i64 bit), (7, .io IntKind.u32 mask), (8, .sl (some am) n c1), (36, .sl (some am) n c1), (37, .io .i64 bit), (38, .io IntKind.u32 mask)], []⟩ (by kernel_rfl) (by kernel_rfl) ?_
   refine At.rowCall (e := 5) (size := 1) 17 [.sl (some am) n c1, .io .i64 bit, .io .u32 mask] (bw T) (fun A n' c' => .sl A n' c') (by kernel_rfl) (by kernel_rfl) (by kernel_rfl) rfl (fun ρ w1 hm hf => (spoil_any bit mask w1 (slb_pre hf (.head _) hB.1) (by omega) hb hmb).mono fun e w2 h => by rw [hT]; obtain ⟨A', c', h1, h2⟩ := h; exact ⟨A', n, c', h1, h2⟩) (fun G1 n1 gc hl => ?_)
   obtain rfl : n = n1 := by rw [bw_len, hTl] at hl; omega
   refine At.toJ (Rws.stable) Rws.fewer 0 300 [0, 1, 2, 7, 8, 9, 40, 41, 42] 0 ⟨pops B6 [1, 1, 1, 1, 1, 0] 3, [.seq (sub B6 [1, 1, 1, 1, 1, 1])], [(0, .sl B n cap), (1, .so (mkB key)), (2, .io .i64 bit), (7, .io IntKind.u32 mask), (8, .sl (some am) n c1), (9, .sl G1 n gc), (40, .sl (some am) n c1), (41, .io .i64 bit), (42, .io IntKind.u32 mask)], []⟩ (by kernel_rfl) (by kernel_rfl) ?_
   refine At.rowCall (e := 5) (size := 1) 17 [.sl (some am) n c1, .io .i64 bit, .io .u32 mask] (bw T) (fun A n' c' => .sl A n' c') (by kernel_rfl) (by kernel_rfl) (by kernel_rfl) rfl (fun ρ w1 hm hf => (spoil_any bit mask w1 (slb_pre hf (.tail _ (.head _)) hB.1) (by omega) hb hmb).mono fun e w2 h => by rw [hT]; obtain ⟨A', c', h1, h2⟩ := h; exact ⟨A', n, c', h1, h2⟩) (fun G2 n2 tc hl2 => ?_)
   obtain rfl : n = n2 := by rw [bw_len, hTl] at hl2; omega
   refine At.toJ (Rws.stable) Rws.fewer 0 300 [0, 1, 2, 7, 8, 9, 10, 44] 0 ⟨pops B6 [1, 1, 1, 1, 1, 1, 0] 1, [.seq (sub B6 [1, 1, 1, 1, 1, 1, 1])], [(0, .sl B n cap), (1, .so (mkB key)), (2, .io .i64 bit), (7, .io IntKind.u32 mask), (8, .sl (some am) n c1), (9, .sl G1 n gc), (10, .sl G2 n tc), (44, .sl B n cap)], []⟩ (by kernel_rfl) (by kernel_rfl) ?_
   refine At.mono (F' := Rws w.heap.size (⟨5, 1, none, 0, 0, []⟩ :: [⟨5, 1, G2, n, tc, bw T⟩, ⟨5, 1, G1, n, gc, bw T⟩, ⟨5, 1, some am, n + 1, c1, bw bs ++ [.int .u8 165]⟩])) (fun ρ w1 h => h.nil _ _) ?_
   refine At.appR 5 1 1 none 0 0 B n cap [] (bw bs) [⟨5, 1, G2, n, tc, bw T⟩, ⟨5, 1, G1, n, gc, bw T⟩, ⟨5, 1, some am, n + 1, c1, bw bs ++ [.int .u8 165]⟩] (by kernel_rfl) (by rw [bw_len, ← hB.1, Nat.mul_one]) (bw_one bs) (fun e => by have h9 := hB.1; rw [hB.2.1 e] at h9; exact h9) (fun b hb ρ w1 hm _ => src_low (hB.2.2 b hb) hm.below) (by omega) (by simp only [maxLen]; omega) (fun G3 wc hwc => ?_)
   rw [Nat.zero_add, List.nil_append]
   refine At.join (σ := Option Addr × Nat) (fun x => Rws w.heap.size ([⟨5, 1, G1, n, gc, bw T⟩, ⟨5, 1, x.1, n, x.2, bw T⟩, ⟨5, 1, G2, n, tc, bw T⟩, ⟨5, 1, some am, n + 1, c1, bw bs ++ [.int .u8 165]⟩])) (fun x => ⟨pops B6 pAO0 1, [.seq (sub B6 pAO1), .seq (sub B6 pAO3)], [(0, .sl B n cap), (1, .so (mkB key)), (2, .io .i64 bit), (7, .io IntKind.u32 mask), (8, .sl (some am) n c1), (9, .sl G1 n gc), (10, .sl G2 n tc), (11, .sl x.1 n x.2), (56, .sl G1 n gc)], []⟩) (fun rest => ?_) (fun x => ?_)
   ·refine At.toJ (Rws.stable) Rws.fewer 0 300 [0, 1, 2, 7, 8, 9, 10, 11, 48] 0 ⟨pops B6 [1, 1, 1, 1, 1, 1, 1, 0, 0] 3, [.seq (sub B6 [1, 1, 1, 1, 1, 1, 1, 0, 1]), .seq (sub B6 pAO4)], [(0, .sl B n cap), (1, .so (mkB key)), (2, .io .i64 bit), (7, .io IntKind.u32 mask), (8, .sl (some am) n c1), (9, .sl G1 n gc), (10, .sl G2 n tc), (11, .sl G3 n wc), (48, .bo (decide (bit > -32)))], []⟩ (by kernel_rfl) (by kernel_rfl) ?_
    rcases Bool.eq_false_or_eq_true (decide (bit > -32)) with b0 | b0
    ·refine At.res 48 (decide (bit > -32)) true (by kernel_rfl) b0 ?_
     refine At.toJ (Rws.stable) Rws.fewer 0 300 [0, 1, 2, 7, 8, 9, 10, 11, 51] 0 ⟨.code (sub B6 [1, 1, 1, 1, 1, 1, 1, 0, 1]), [.seq (sub B6 pAO4)], [(0, .sl B n cap), (1, .so (mkB key)), (2, .io .i64 bit), (7, .io IntKind.u32 mask), (8, .sl (some am) n c1), (9, .sl G1 n gc), (10, .sl G2 n tc), (11, .sl G3 n wc), (51, .bo (decide (bit < 200000)))], []⟩ (by kernel_rfl) (by kernel_rfl) ?_
     rcases Bool.eq_false_or_eq_true (decide (bit < 200000)) with b1 | b1
     ·refine At.res 51 (decide (bit < 200000)) true (by kernel_rfl) b1 ?_
      refine At.toJ (Rws.stable) Rws.fewer 0 300 [0, 1, 2, 7, 8, 9, 10, 52, 53, 54] 0 ⟨pops B6 [1, 1, 1, 1, 1, 1, 1, 0, 1, 2] 3, [.seq (sub B6 pAO4)], [(0, .sl B n cap), (1, .so (mkB key)), (2, .io .i64 bit), (7, .io IntKind.u32 mask), (8, .sl (some am) n c1), (9, .sl G1 n gc), (10, .sl G2 n tc), (52, .sl B n cap), (53, .io .i64 bit), (54, .io IntKind.u32 mask)], []⟩ (by kernel_rfl) (by kernel_rfl) ?_
      refine At.rowCall (e := 5) (size := 1) 18 [.sl B n cap, .io .i64 bit, .io .u32 mask] (bw T) (fun A n' c' => .sl A n' c') (by kernel_rfl) (by kernel_rfl) (by kernel_rfl) rfl (fun ρ w1 hm hf => (rspoil_any bit mask w1 (hB.below hm.below) (by omega) ⟨of_decide_eq_true b0, of_decide_eq_true b1⟩ hmb).mono fun e w2 h => by rw [hT]; obtain ⟨A', c', h1, h2⟩ := h; exact ⟨A', n, c', h1, h2⟩) (fun G4 n4 wc4 hl4 => ?_)
      obtain rfl : n = n4 := by rw [bw_len, hTl] at hl4; omega
      refine At.toJ (Rws.stable) Rws.fewer 0 300 [0, 1, 2, 7, 8, 9, 10, 11, 56] 0 ⟨pops B6 pAO0 1, [.seq (sub B6 pAO1), .seq (sub B6 pAO3)], [(0, .sl B n cap), (1, .so (mkB key)), (2, .io .i64 bit), (7, .io IntKind.u32 mask), (8, .sl (some am) n c1), (9, .sl G1 n gc), (10, .sl G2 n tc), (11, .sl G4 n wc4), (56, .sl G1 n gc)], []⟩ (by kernel_rfl) (by kernel_rfl) ?_
      exact At.mono (fun ρ w1 h => (h.sub (.cons_cons _ (.cons _ (.refl _)))).perm (List.perm_middle (l₁ := [_, _])).symm) (rest (G4, wc4))
     ·refine At.res 51 (decide (bit < 200000)) false (by kernel_rfl) b1 ?_
      refine At.toJ (Rws.stable) Rws.fewer 0 300 [0, 1, 2, 7, 8, 9, 10, 11, 56] 0 ⟨pops B6 pAO0 1, [.seq (sub B6 pAO1), .seq (sub B6 pAO3)], [(0, .sl B n cap), (1, .so (mkB key)), (2, .io .i64 bit), (7, .io IntKind.u32 mask), (8, .sl (some am) n c1), (9, .sl G1 n gc), (10, .sl G2 n tc), (11, .sl G3 n wc), (56, .sl G1 n gc)], []⟩ (by kernel_rfl) (by kernel_rfl) ?_
      have hTb : T = bs := by rw [hT]; exact turnB_high _ _ _ _ (by have := of_decide_eq_false b1; have := hB.1; omega)
      exact At.mono (fun ρ w1 h => by rw [← hTb] at h; have h2 := h.perm (List.perm_middle (l₁ := [_, _])).symm; rw [hTb]; rw [hTb] at h2; exact h2) (rest (G3, wc))
    ·refine At.res 48 (decide (bit > -32)) false (by kernel_rfl) b0 ?_
     refine At.toJ (Rws.stable) Rws.fewer 0 300 [0, 1, 2, 7, 8, 9, 10, 11, 56] 0 ⟨pops B6 pAO0 1, [.seq (sub B6 pAO1), .seq (sub B6 pAO3)], [(0, .sl B n cap), (1, .so (mkB key)), (2, .io .i64 bit), (7, .io IntKind.u32 mask), (8, .sl (some am) n c1), (9, .sl G1 n gc), (10, .sl G2 n tc), (11, .sl G3 n wc), (56, .sl G1 n gc)], []⟩ (by kernel_rfl) (by kernel_rfl) ?_
     have hTb : T = bs := by rw [hT]; exact turnB_low _ _ _ _ (fun i hi => by have := of_decide_eq_false b0; have := List.mem_range'.1 hi; omega)
     exact At.mono (fun ρ w1 h => by rw [← hTb] at h; have h2 := h.perm (List.perm_middle (l₁ := [_, _])).symm; rw [hTb]; rw [hTb] at h2; exact h2) (rest (G3, wc))
   ·obtain ⟨G3, wc⟩ := x
    refine At.toJ (Rws.stable) Rws.fewer 0 300 [0, 1, 2, 7, 8, 9, 10, 11, 56] 0 ⟨pops B6 pAO0 1, [.seq (sub B6 pAO1), .seq (sub B6 pAO3)], [(0, .sl B n cap), (1, .so (mkB key)), (2, .io .i64 bit), (7, .io IntKind.u32 mask), (8, .sl (some am) n c1), (9, .sl G1 n gc), (10, .sl G2 n tc), (11, .sl G3 n wc), (56, .sl G1 n gc)], []⟩ (by kernel_rfl) (by kernel_rfl) ?_
    refine At.cvy G1 n gc (T.map UInt8.toNat) (.so (mkB T)) (by kernel_rfl) Rws.stable (fun ρ => by rw [strOf_map]; rfl) (fun ρ w1 hm hf => slb_cw (slb_row hf (.head _))) ?_
    refine At.toJ (Rws.stable) Rws.fewer 0 300 [0, 1, 2, 7, 8, 9, 10, 11, 57, 58] 0 ⟨pops B6 pAO0 3, [.seq (sub B6 pAO1), .seq (sub B6 pAO3)], [(0, .sl B n cap), (1, .so (mkB key)), (2, .io .i64 bit), (7, .io IntKind.u32 mask), (8, .sl (some am) n c1), (9, .sl G1 n gc), (10, .sl G2 n tc), (11, .sl G3 n wc), (57, .so (mkB T)), (58, .sl G3 n wc)], []⟩ (by kernel_rfl) (by kernel_rfl) ?_
    refine At.cvy G3 n wc (T.map UInt8.toNat) (.so (mkB T)) (by kernel_rfl) Rws.stable (fun ρ => by rw [strOf_map]; rfl) (fun ρ w1 hm hf => slb_cw (slb_row hf (.tail _ (.head _)))) ?_
    refine At.toJ (Rws.stable) Rws.fewer 0 300 [0, 1, 2, 7, 8, 9, 10, 11, 61] 0 ⟨pops B6 pAO0 6, [.seq (sub B6 pAO1), .seq (sub B6 pAO3)], [(0, .sl B n cap), (1, .so (mkB key)), (2, .io .i64 bit), (7, .io IntKind.u32 mask), (8, .sl (some am) n c1), (9, .sl G1 n gc), (10, .sl G2 n tc), (11, .sl G3 n wc), (61, .bo !(mkB T).toList == (mkB T).toList)], []⟩ (by kernel_rfl) (by kernel_rfl) ?_
    refine At.res 61 (!(mkB T).toList == (mkB T).toList) false (by kernel_rfl) (by first | assumption | (simp only [*]; done) | (simp [*]; done)) ?_
    refine At.toJ (Rws.stable) Rws.fewer 0 300 [0, 1, 2, 7, 8, 9, 10, 11, 61, 62] 0 ⟨pops B6 pAO0 7, [.seq (sub B6 pAO1), .seq (sub B6 pAO3)], [(0, .sl B n cap), (1, .so (mkB key)), (2, .io .i64 bit), (7, .io IntKind.u32 mask), (8, .sl (some am) n c1), (9, .sl G1 n gc), (10, .sl G2 n tc), (11, .sl G3 n wc), (61, .v (.bool false)), (62, .sl (some am) n c1)], []⟩ (by kernel_rfl) (by kernel_rfl) ?_
    refine At.cvy (some am) n c1 (bs.map UInt8.toNat) (.so (mkB bs)) (by kernel_rfl) Rws.stable (fun ρ => by rw [strOf_map]; rfl) (fun ρ w1 hm hf => slb_cw (slb_pre hf (.tail _ (.tail _ (.tail _ (.head _)))) hB.1)) ?_
    refine At.toJ (Rws.stable) Rws.fewer 0 300 [0, 1, 2, 7, 8, 9, 10, 11, 61, 63, 64] 0 ⟨pops B6 pAO0 9, [.seq (sub B6 pAO1), .seq (sub B6 pAO3)], [(0, .sl B n cap), (1, .so (mkB key)), (2, .io .i64 bit), (7, .io IntKind.u32 mask), (8, .sl (some am) n c1), (9, .sl G1 n gc), (10, .sl G2 n tc), (11, .sl G3 n wc), (61, .v (.bool false)), (63, .so (mkB bs)), (64, .sl B n cap)], []⟩ (by kernel_rfl) (by kernel_rfl) ?_
    refine At.cvy B n cap (bs.map UInt8.toNat) (.so (mkB bs)) (by kernel_rfl) Rws.stable (fun ρ => by rw [strOf_map]; rfl) (fun ρ w1 hm hf => slb_cw (hB.below hm.below)) ?_
    refine At.toJ (Rws.stable) Rws.fewer 0 300 [0, 1, 2, 7, 8, 9, 10, 11, 68] 0 ⟨pops B6 pAO0 13, [.seq (sub B6 pAO1), .seq (sub B6 pAO3)], [(0, .sl B n cap), (1, .so (mkB key)), (2, .io .i64 bit), (7, .io IntKind.u32 mask), (8, .sl (some am) n c1), (9, .sl G1 n gc), (10, .sl G2 n tc), (11, .sl G3 n wc), (68, .bo !(mkB bs).toList == (mkB bs).toList)], []⟩ (by kernel_rfl) (by kernel_rfl) ?_
    refine At.res 68 (!(mkB bs).toList == (mkB bs).toList) false (by kernel_rfl) (by first | assumption | (simp only [*]; done) | (simp [*]; done)) ?_
    refine At.toJ (Rws.stable) Rws.fewer 0 300 [0, 1, 2, 7, 8, 9, 10, 11, 68, 69, 72] 0 ⟨pops B6 pAO0 17, [.seq (sub B6 pAO1), .seq (sub B6 pAO3)], [(0, .sl B n cap), (1, .so (mkB key)), (2, .io .i64 bit), (7, .io IntKind.u32 mask), (8, .sl (some am) n c1), (9, .sl G1 n gc), (10, .sl G2 n tc), (11, .sl G3 n wc), (68, .v (.bool false)), (69, .sl (some am) n c1), (72, .io .i64 (IntKind.i64.wrap ((↑n : Int) + 1)))], []⟩ (by kernel_rfl) (by kernel_rfl) ?_
    have hw1 : IntKind.i64.wrap ((n : Int) + 1) = ((n + 1 : Nat) : Int) := by
     rw [wrap63 (by omega) (by omega)]
     omega
    rw [hw1]
    refine At.slx (some am) n c1 none ((n + 1 : Nat) : Int) 1 (.sl (some am) (n + 1) c1) (by kernel_rfl) Rws.stable (by simp) (by simp only [Option.getD_none]; omega) (fun ρ w1 hm hf => ⟨by omega, by simp [SV.den, Addr.add]⟩) ?_
    refine At.toJ (Rws.stable) Rws.fewer 0 300 [0, 1, 2, 7, 8, 9, 10, 11, 68, 73, 75] 0 ⟨pops B6 pAO0 20, [.seq (sub B6 pAO1), .seq (sub B6 pAO3)], [(0, .sl B n cap), (1, .so (mkB key)), (2, .io .i64 bit), (7, .io IntKind.u32 mask), (8, .sl (some am) n c1), (9, .sl G1 n gc), (10, .sl G2 n tc), (11, .sl G3 n wc), (68, .v (.bool false)), (73, .sl (some am) (n + 1) c1), (75, .io .i64 (↑n : Int))], []⟩ (by kernel_rfl) (by kernel_rfl) ?_
    refine At.idx am (n + 1) 1 (n : Int) (by kernel_rfl) (by omega) (by omega) Rws.stable ?_
    refine At.ldx (am.add ((n : Int).toNat * 1)) (.v (.int .u8 165)) (by kernel_rfl) Rws.stable (fun ρ w1 hm hf => by
     rw [Int.toNat_natCast, Nat.mul_one]
     refine hf.src (x := ⟨5, 1, some am, n + 1, c1, bw bs ++ [.int .u8 165]⟩) (.tail _ (.tail _ (.tail _ (.head _)))) rfl n _ ?_
     show (bw bs ++ [Value.int .u8 165])[n]? = _
     rw [List.getElem?_append_right (by rw [bw_len, ← hB.1]; exact Nat.le_refl _), bw_len, ← hB.1, Nat.sub_self]
     rfl) ?_
    refine At.toJ (Rws.stable) Rws.fewer 0 300 [0, 1, 2, 7, 8, 9, 10, 11, 80, 81] 0 ⟨pops B6 pAO0 26, [.seq (sub B6 pAO1), .seq (sub B6 pAO3)], [(0, .sl B n cap), (1, .so (mkB key)), (2, .io .i64 bit), (7, .io IntKind.u32 mask), (8, .sl (some am) n c1), (9, .sl G1 n gc), (10, .sl G2 n tc), (11, .sl G3 n wc), (80, .v (.bool false)), (81, .so (mkB key))], []⟩ (by kernel_rfl) (by kernel_rfl) ?_
    refine At.call Rws.stable 19 [.so (mkB key)] (.so (mkB (quoteB key))) (by kernel_rfl) (by kernel_rfl) (by kernel_rfl) (fun _ _ w1 _ _ => quote_any key (by omega) w1) ?_
    refine At.toJ (Rws.stable) Rws.fewer 0 300 [0, 2, 7, 8, 9, 10, 11, 80, 82, 83] 0 ⟨pops B6 pAO0 28, [.seq (sub B6 pAO1), .seq (sub B6 pAO3)], [(0, .sl B n cap), (2, .io .i64 bit), (7, .io IntKind.u32 mask), (8, .sl (some am) n c1), (9, .sl G1 n gc), (10, .sl G2 n tc), (11, .sl G3 n wc), (80, .v (.bool false)), (82, .so (mkB (quoteB key))), (83, .so (mkB key))], []⟩ (by kernel_rfl) (by kernel_rfl) ?_
    refine At.call Rws.stable 20 [.so (mkB key)] (.so (mkB (quoteB key))) (by kernel_rfl) (by kernel_rfl) (by kernel_rfl) (fun _ _ w1 _ _ => rquote_any key (by omega) w1) ?_
    refine At.toJ (Rws.stable) Rws.fewer 0 300 [0, 2, 7, 8, 9, 10, 11, 86] 0 ⟨.code (sub B6 pAO1), [.seq (sub B6 pAO3)], [(0, .sl B n cap), (2, .io .i64 bit), (7, .io IntKind.u32 mask), (8, .sl (some am) n c1), (9, .sl G1 n gc), (10, .sl G2 n tc), (11, .sl G3 n wc), (86, .bo !(mkB (quoteB key)).toList == (mkB (quoteB key)).toList)], []⟩ (by kernel_rfl) (by kernel_rfl) ?_
    refine At.res 86 (!(mkB (quoteB key)).toList == (mkB (quoteB key)).toList) false (by kernel_rfl) (by first | assumption | (simp only [*]; done) | (simp [*]; done)) ?_
    refine At.toJ (Rws.stable) Rws.fewer 0 300 [0, 2, 7, 8, 9, 10, 11, 12] 0 ⟨.code (sub B6 [1, 1, 1, 1, 1, 1, 1, 1, 1, 0, 1, 4]), [.block 0, .seq (sub B6 pAO2)], [(0, .sl B n cap), (2, .io .i64 bit), (7, .io IntKind.u32 mask), (8, .sl (some am) n c1), (9, .sl G1 n gc), (10, .sl G2 n tc), (11, .sl G3 n wc), (12, .v (.int .i64 0))], []⟩ (by kernel_rfl) (by kernel_rfl) ?_
    refine At.canon _ rfl ?_
    refine At.loop (σ := Nat × List Value) (sub B6 [1, 1, 1, 1, 1, 1, 1, 1, 1, 0, 1, 4, 4]) (frVA B n cap bit mask am c1 G1 gc G2 tc G3 wc) locVA (fun x ρ w1 => Rws w.heap.size (⟨5, 1, G1, n, gc, x.2⟩ :: [⟨5, 1, G3, n, wc, bw T⟩, ⟨5, 1, G2, n, tc, bw T⟩, ⟨5, 1, some am, n + 1, c1, bw bs ++ [.int .u8 165]⟩]) ρ w1 ∧ x.1 ≤ n) (fun x => n - x.1) (0, bw T) (by kernel_rfl) (by unfold subFr; kernel_rfl) (by kernel_rfl) (fun _ _ _ _ h => ⟨h, Nat.zero_le _⟩) ?_
    rintro ⟨i, ys⟩
    refine At.pure fun hi0 => ?_
    simp only at hi0
    dsimp only
    refine At.toJ (Rws.stable) Rws.fewer 0 300 [0, 2, 7, 8, 9, 10, 11, 12, 90] 0 ⟨.code (sub B6 [1, 1, 1, 1, 1, 1, 1, 1, 1, 0, 1, 4, 4, 0, 1]), [.seq (sub B6 [1, 1, 1, 1, 1, 1, 1, 1, 1, 0, 1, 4, 4, 1]), .next (Sx.Next w.heap.size w Tryz.f6.ntmps (frVA B n cap bit mask am c1 G1 gc G2 tc G3 wc) locVA (fun x ρ w1 => Rws w.heap.size [Rw.mk 5 1 G1 n gc x.snd, Rw.mk 5 1 G3 n wc (bw T), Rw.mk 5 1 G2 n tc (bw T), Rw.mk 5 1 (some am) (n + 1) c1 (bw bs ++ [.int IntKind.u8 165])] ρ w1 ∧ x.fst ≤ n) (fun x => n - x.fst) (i, ys)), .block 0, .seq (sub B6 pAO2)], [(0, .sl B n cap), (2, .io .i64 bit), (7, .io IntKind.u32 mask), (8, .sl (some am) n c1), (9, .sl G1 n gc), (10, .sl G2 n tc), (11, .sl G3 n wc), (12, .io .i64 (↑i : Int)), (90, .bo (decide ((↑i : Int) < (↑n : Int))))], []⟩ (by kernel_rfl) (by kernel_rfl) ?_
    rcases Bool.eq_false_or_eq_true (decide ((↑i : Int) < (↑n : Int))) with b0 | b0
    ·refine At.res 90 (decide ((↑i : Int) < (↑n : Int))) true (by kernel_rfl) b0 ?_
     refine At.toJ (Rws.stable) Rws.fewer 0 300 [0, 2, 7, 8, 9, 10, 11, 12, 93, 94] 0 ⟨pops B6 [1, 1, 1, 1, 1, 1, 1, 1, 1, 0, 1, 4, 4, 1, 0, 4] 2, [.block 1, .seq (sub B6 [1, 1, 1, 1, 1, 1, 1, 1, 1, 0, 1, 4, 4, 1, 1]), .next (Sx.Next w.heap.size w Tryz.f6.ntmps (frVA B n cap bit mask am c1 G1 gc G2 tc G3 wc) locVA (fun x ρ w1 => Rws w.heap.size [Rw.mk 5 1 G1 n gc x.snd, Rw.mk 5 1 G3 n wc (bw T), Rw.mk 5 1 G2 n tc (bw T), Rw.mk 5 1 (some am) (n + 1) c1 (bw bs ++ [.int IntKind.u8 165])] ρ w1 ∧ x.fst ≤ n) (fun x => n - x.fst) (i, ys)), .block 0, .seq (sub B6 pAO2)], [(0, .sl B n cap), (2, .io .i64 bit), (7, .io IntKind.u32 mask), (8, .sl (some am) n c1), (9, .sl G1 n gc), (10, .sl G2 n tc), (11, .sl G3 n wc), (12, .io .i64 (↑i : Int)), (93, .sl G1 n gc), (94, .io .i64 (↑i : Int))], []⟩ (by kernel_rfl) (by kernel_rfl) ?_
     have hi : i < n := by have := of_decide_eq_true b0; omega
     clear b0
     refine At.learn (p := ∃ a, G1 = some a) (fun ρ w1 hf => hf.some (.head _) (by show 0 < n; omega)) ?_
     rintro ⟨ag, rfl⟩
     refine At.idx ag n 1 (i : Int) (by kernel_rfl) (by omega) (by omega) Rws.stable ?_
     refine At.stR i (ag.add ((i : Int).toNat * 1)) (.v (.int .u8 90)) (.int .u8 90) (by kernel_rfl) (by rw [Int.toNat_natCast, Nat.mul_one]) hi (fun _ => rfl) ?_
     refine At.toJ (Rws.stable) Rws.fewer 0 300 [0, 2, 7, 8, 9, 10, 11, 12] 0 ⟨.exit .normal, [.next (Sx.Next w.heap.size w Tryz.f6.ntmps (frVA B n cap bit mask am c1 (some ag) gc G2 tc G3 wc) locVA (fun x ρ w1 => Rws w.heap.size [Rw.mk 5 1 (some ag) n gc x.snd, Rw.mk 5 1 G3 n wc (bw T), Rw.mk 5 1 G2 n tc (bw T), Rw.mk 5 1 (some am) (n + 1) c1 (bw bs ++ [.int IntKind.u8 165])] ρ w1 ∧ x.fst ≤ n) (fun x => n - x.fst) (i, ys)), .block 0, .seq (sub B6 pAO2)], [(0, .sl B n cap), (2, .io .i64 bit), (7, .io IntKind.u32 mask), (8, .sl (some am) n c1), (9, .sl (some ag) n gc), (10, .sl G2 n tc), (11, .sl G3 n wc), (12, .io .i64 (IntKind.i64.wrap ((↑i : Int) + 1)))], []⟩ (by kernel_rfl) (by kernel_rfl) ?_
     have hw3 : IntKind.i64.wrap ((i : Int) + 1) = ((i + 1 : Nat) : Int) := by
      rw [wrap63 (by omega) (by omega)]
      omega
     rw [hw3]
     refine At.next (σ := Nat × List Value) (i + 1, ys.set i (.int .u8 90)) rfl rfl (by unfold subFr; kernel_rfl) (by kernel_rfl) ?_ ?_
     ·intro ρ a' w' hi' hf
      exact ⟨hf, by simp only; omega⟩
     ·show n - (i + 1) < n - i
      omega
    ·refine At.res 90 (decide ((↑i : Int) < (↑n : Int))) false (by kernel_rfl) b0 ?_
     refine At.toJ (Rws.stable) Rws.fewer 0 300 [0, 2, 7, 8, 10, 11] 0 ⟨.any (opsOf (sub B6 [1, 1, 1, 1, 1, 1, 1, 1, 1, 1, 0])) 26 [], [.seq (sub B6 [1, 0, 1, 2, 1])], [(0, .sl B n cap), (2, .io .i64 bit), (7, .io IntKind.u32 mask), (8, .sl (some am) n c1), (10, .sl G2 n tc), (11, .sl G3 n wc)], []⟩ (by kernel_rfl) (by kernel_rfl) ?_
     have hTT : turnB (onM mask) bit (List.range' 0 32) T = bs := by rw [hT]; exact turnB_self _ _ _ _
     refine At.drawn0 ([(0, .eq (.sl G2 n tc)), (1, .eq (.so (mkB T))), (2, .eq (.sl G3 n wc)), (3, .eq (.so (mkB T))), (4, .eq (.v (.bool true))), (5, .eq (.v (.bool true))), (6, .eq (.sl (some am) n c1)), (7, .eq (.so (mkB bs))), (8, .eq (.sl B n cap)), (9, .eq (.so (mkB bs))), (10, .eq (.v (.bool true))), (11, .eq (.v (.bool true))), (12, .eq (.v (.bool true))), (13, .eq (.sl G2 n tc)), (14, .eq (.io .i64 bit)), (15, .eq (.io .u32 mask)), (16, .ex (Option Addr × Nat) (fun x => .sl x.1 n x.2) (fun x => Rws w.heap.size [⟨5, 1, x.1, n, x.2, bw bs⟩])), (17, .eq (.so (mkB bs))), (18, .eq (.sl B n cap)), (19, .eq (.so (mkB bs))), (20, .eq (.v (.bool true))), (21, .eq (.v (.bool true))), (22, .eq (.v (.bool true))), (23, .eq (.v (.bool true))), (24, .eq (.v (.bool true))), (25, .eq (.v (.bool true)))]) ([0, 1, 2, 3, 4, 5, 6, 7, 8, 9, 10, 11, 12, 13, 14, 15, 16, 17, 18, 19, 20, 21, 22, 23, 24, 25]) [(6, .v (.bool true))] rfl (by kernel_rfl) (by kernel_rfl) Rws.stable ⟨trivial, trivial, trivial, trivial, trivial, trivial, trivial, trivial, trivial, trivial, trivial, trivial, trivial, trivial, trivial, trivial, fun x => Rws.stable, trivial, trivial, trivial, trivial, trivial, trivial, trivial, trivial, trivial, trivial⟩ ⟨StepK.pure (by kernel_rfl) rfl,
      StepK.cv G2 n tc (T.map UInt8.toNat) (by kernel_rfl) rfl (fun ρ => by rw [strOf_map]; rfl) (fun ρ w1 hm hf => slb_cw (slb_row hf (.tail _ (.tail _ (.head _))))),
      StepK.pure (by kernel_rfl) rfl,
      StepK.cv G3 n wc (T.map UInt8.toNat) (by kernel_rfl) rfl (fun ρ => by rw [strOf_map]; rfl) (fun ρ w1 hm hf => slb_cw (slb_row hf (.tail _ (.head _)))),
      StepK.pureE (.bo ((mkB T).toList == (mkB T).toList)) (by kernel_rfl) rfl (fun ρ => by simp [SV.den]),
      StepK.pure (by kernel_rfl) rfl,
      StepK.pure (by kernel_rfl) rfl,
      StepK.cv (some am) n c1 (bs.map UInt8.toNat) (by kernel_rfl) rfl (fun ρ => by rw [strOf_map]; rfl) (fun ρ w1 hm hf => slb_cw (slb_pre hf (.tail _ (.tail _ (.tail _ (.head _)))) hB.1)),
      StepK.pure (by kernel_rfl) rfl,
      StepK.cv B n cap (bs.map UInt8.toNat) (by kernel_rfl) rfl (fun ρ => by rw [strOf_map]; rfl) (fun ρ w1 hm hf => slb_cw (hB.below hm.below)),
      StepK.pureE (.bo ((mkB bs).toList == (mkB bs).toList)) (by kernel_rfl) rfl (fun ρ => by simp [SV.den]),
      StepK.pure (by kernel_rfl) rfl,
      StepK.pure (by kernel_rfl) rfl,
      StepK.pure (by kernel_rfl) rfl,
      StepK.pure (by kernel_rfl) rfl,
      StepK.pure (by kernel_rfl) rfl,
      StepK.call 17 [.sl G2 n tc, .io .i64 bit, .io .u32 mask] (by kernel_rfl) rfl (by kernel_rfl) (fun ρ w1 hm hf => (spoil_any bit mask w1 (slb_row hf (.tail _ (.tail _ (.head _)))) (by omega) hb hmb).mono fun e w2 h => by
       obtain ⟨A', c', h1, h2⟩ := h
       rw [hTT] at h2
       obtain ⟨h3, h4⟩ := rws_new hm h2
       exact ⟨_, h1, ⟨(A', c'), rfl, h3⟩, h4⟩),
      StepK.cvX 16 112 (fun x => x.1) n (fun x => x.2) (bs.map UInt8.toNat) (by kernel_rfl) (fun x => by kernel_rfl) rfl (by kernel_rfl) rfl (fun ρ => by rw [strOf_map]; rfl) (fun x ρ w1 hm hf hx => slb_cw (slb_row hx (.head _))),
      StepK.pure (by kernel_rfl) rfl,
      StepK.cv B n cap (bs.map UInt8.toNat) (by kernel_rfl) rfl (fun ρ => by rw [strOf_map]; rfl) (fun ρ w1 hm hf => slb_cw (hB.below hm.below)),
      StepK.pureE (.bo ((mkB bs).toList == (mkB bs).toList)) (by kernel_rfl) rfl (fun ρ => by simp [SV.den]),
      StepK.pure (by kernel_rfl) rfl,
      StepK.pure (by kernel_rfl) rfl,
      StepK.call 8 [] (by kernel_rfl) rfl (by kernel_rfl) (fun ρ w1 hm hf => (known_true w1 (hw.below hm.below)).mono fun e w2 h => ⟨_, h.1, rfl, h.2⟩),
      StepK.pure (by kernel_rfl) rfl,
      StepK.pure (by kernel_rfl) rfl, trivial⟩ (by unfold subFr; kernel_rfl) ?_
     refine At.toJ (Rws.stable) Rws.fewer 0 300 [6] 0 ⟨.exit .ret, [], [(6, .v (.bool true))], []⟩ (by kernel_rfl) (by kernel_rfl) ?_
     refine At.ret (by kernel_rfl) (.v (.bool true)) (by kernel_rfl) ?_
     intro ρ w9 hm' hf
     exact ⟨rfl, hm'.below⟩
end Go.Proofs.YthfpekhpeiebjaaGreatDoor
end
section
/- Bytes handed in, taken apart. -/
set_option maxRecDepth 100000
namespace Go.Proofs.YthfpekhpeiebjaaGreatDoor
open Go.Joins Go.ChangeShapes Go.WideShapes Go.RowKit Go.Deep Go.Sx
section
variable {H : Type} {enc : TypeId × Value → H} {w : World} {base : Nat}
theorem kc5 : Tryz.prog.cellsOf 5 = 1 := by kernel_rfl
theorem open_bytes {d : DataW H} {A : Option Addr} {n c : Nat} {p : List MemPlace}
  (h : DataW.Trod enc Tryz.prog w base (fun _ => true) true 55 (.slice A n c) d p) : ∃ bs : List UInt8, SlB w A n bs := by
 obtain ⟨fuel, hf⟩ := h
 rcases open_ints Tryz.underlying55 Tryz.underlying5 kc5 hf with ⟨hcs, hx⟩ | ⟨a, len', cap', zs, hcs, _, hl, hm, hz, hx, hcell, hwz⟩
 ·simp [Value.cells] at hcs
  obtain ⟨rfl, rfl, rfl⟩ := hcs
  exact ⟨[], rfl, fun _ => rfl, fun a ha => (by cases ha)⟩
 ·simp [Value.cells] at hcs
  obtain ⟨rfl, rfl, rfl⟩ := hcs
  simp only [Prod.mk.injEq] at hx
  obtain ⟨rfl, rfl⟩ := hx
  simp only [if_true] at hz
  have hg : ∀ i, 0 ≤ zs.getD i 0 ∧ zs.getD i 0 < 256 := fun i => by
   have := range_u8 hwz i
   rw [List.getD_eq_getElem?_getD]
   omega
  refine ⟨(zs.take n).map fun z => UInt8.ofNat z.toNat, by simp; omega, fun h => (by cases h), fun a' ha i u hu => ?_⟩
  cases ha
  simp only [bw, List.map_map, List.getElem?_map, Option.map_eq_some_iff] at hu
  obtain ⟨z, hz1, rfl⟩ := hu
  have hi := (List.getElem?_eq_some_iff.1 hz1).1
  simp only [List.length_take] at hi
  rw [List.getElem?_take_of_lt (by omega)] at hz1
  have e : zs.getD i 0 = z := by rw [List.getD_eq_getElem?_getD, hz1]; rfl
  have h2 := hg i
  rw [hcell i (by omega), e]
  rw [e] at h2
  show some (Value.int .u8 z) = some (Value.int .u8 ((UInt8.ofNat z.toNat).toNat : Int))
  rw [UInt8.toNat_ofNat']
  congr 2
  have : z.toNat % 2 ^ 8 = z.toNat := Nat.mod_eq_of_lt (by omega)
  omega
end
end Go.Proofs.YthfpekhpeiebjaaGreatDoor
end
