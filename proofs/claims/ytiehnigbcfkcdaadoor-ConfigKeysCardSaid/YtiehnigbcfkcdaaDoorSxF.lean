import Derived.Test.YtiehnigbcfkcdaaDoorSxE
import Derived.Scope
import Derived.LoopN
set_option linter.unusedSimpArgs false
set_option linter.unusedVariables false
namespace Go.Sx
open Go.RowKit

inductive PC where
  | code (c : Code)
  | ops (all : Array Oper) (rest : List Oper)
  | qops (all : Array Oper) (rest : List Oper)
  | exit (e : Exit)
  | any (all : Array Oper) (f : Nat) (dn : List Nat)
inductive K where
  | seq (c : Code)
  | block (id : Nat)
  | scope
  | next (f : Act → World → Prop)
  | rounds (c : Code) (n : Nat)
  | jump (J : Nat → Act → World → Prop)
  | tail (all : Array Oper) (l : List Oper)
  | any (all : Array Oper) (f : Nat) (dn : List Nat)
/-- Which operations have been carried out, the last one first. -/
def listedOf (n : Nat) : List Nat → Array Bool
  | [] => Array.replicate n false
  | j :: l => (listedOf n l).setIfInBounds j true
/-- As Q; by a goto: J. -/
def exJumps (J : Nat → Act → World → Prop) (Q : Exit → Act → World → Prop) : Exit → Act → World → Prop
  | .goto l, a, w => J l a w
  | e, a, w => Q e a w
structure S where
  pc : PC
  ks : List K
  fr : Fr
  loc : Loc

section
variable {P : Program}

def postK (P : Program) : List K → (Exit → Act → World → Prop) → (Exit → Act → World → Prop)
  | [], Q => Q
  | .seq c :: ks, Q => Exit.then (c.wp P (postK P ks Q)) (postK P ks Q)
  | .block id :: ks, Q => Exit.inBlock id (postK P ks Q)
  | .scope :: ks, Q => Exit.noGoto (postK P ks Q)
  | .next f :: ks, Q => Exit.then f (postK P ks Q)
  | .rounds c n :: ks, Q => Exit.then (Code.rounds P c (postK P ks Q) n) (postK P ks Q)
  | .jump J :: ks, Q => exJumps J (postK P ks Q)
  | .tail all l :: ks, Q => Exit.then (wpList P all (postK P ks Q) l) (postK P ks Q)
  | .any all f dn :: ks, Q => Exit.then (wpAny P .any all (postK P ks Q) f (listedOf all.size dn)) (postK P ks Q)

/-- What is left to show in a state. In a region that draws its order: of every world in which new blocks alone have come. -/
def Ok (P : Program) (Q : Exit → Act → World → Prop) (pc : PC) (ks : List K) (a : Act) (w : World) : Prop :=
  match pc with
  | .code c => c.wp P (postK P ks Q) a w
  | .ops all rest => wpList P all (postK P ks Q) rest a w
  | .qops all rest => wpQuiet P all (fun w' => Below w.heap.size w w') (fun a' => ∀ w', Below w.heap.size w w' → postK P ks Q .normal a' w') rest a
  | .exit e => postK P ks Q e a w
  | .any all f dn => wpAny P .any all (postK P ks Q) f (listedOf all.size dn) a w

structure Inv (N : Nat) (w0 : World) (ntm : Nat) (ρ : List Nat) (fr : Fr) (loc : Loc) (a : Act) (w : World) : Prop where
  act : AInv ntm ρ fr a
  mem : WInv N w0 ρ loc w

/-- The list of local blocks grows by new ones. -/
def Grow (n : Nat) (ρ ρ' : List Nat) : Prop := ∃ ext, ρ' = ρ ++ ext ∧ ∀ x ∈ ext, n ≤ x
theorem Grow.refl (n : Nat) (ρ : List Nat) : Grow n ρ ρ := ⟨[], by simp, by simp⟩
theorem Grow.trans {n m : Nat} {a b c : List Nat} (h : Grow n a b) (k : Grow m b c) (hm : n ≤ m) : Grow n a c := by
  obtain ⟨e1, rfl, h1⟩ := h
  obtain ⟨e2, rfl, h2⟩ := k
  exact ⟨e1 ++ e2, by simp, fun x hx => by
    rcases List.mem_append.1 hx with hh | hh
    · exact h1 x hh
    · exact Nat.le_trans hm (h2 x hh)⟩
theorem Grow.nth {n : Nat} {a b : List Nat} (h : Grow n a b) {i : Nat} (hi : i < a.length) : nth b i = nth a i := by
  obtain ⟨e, rfl, _⟩ := h
  simp [Go.Sx.nth, List.getD, List.getElem?_append_left hi]
theorem Grow.mem {n : Nat} {a b : List Nat} (h : Grow n a b) {x : Nat} (hx : x ∈ a) : x ∈ b := by
  obtain ⟨e, rfl, _⟩ := h
  simp [hx]
theorem Grow.of_mem {n : Nat} {a b : List Nat} (h : Grow n a b) {x : Nat} (hx : x ∈ b) : x ∈ a ∨ n ≤ x := by
  obtain ⟨e, rfl, h1⟩ := h
  rcases List.mem_append.1 hx with hh | hh
  · exact .inl hh
  · exact .inr (h1 x hh)

/-! ### the frame -/
theorem AInv.put {ntm : Nat} {ρ : List Nat} {fr : Fr} {a : Act} (h : AInv ntm ρ fr a) {d : Nat} (hd : d < ntm) (s : SV) : AInv ntm ρ ((d, s) :: fr) (a.put (some d) (s.den ρ)) := by
  refine ⟨by simpa [Act.put] using h.defers, by simpa [Act.put] using h.size, fun t s' hs => ?_⟩
  simp only [look] at hs
  simp only [Act.put]
  split at hs
  · rename_i hk
    have hk := Nat.eq_of_beq_eq_true hk
    subst hk
    simp only [Option.some.injEq] at hs
    subst hs
    simp [h.size, hd]
  · rename_i hk
    have hk : d ≠ t := fun e => by subst e; simp at hk
    rw [Array.getElem?_setIfInBounds_ne hk]
    exact h.slot t s' hs
def putS (ntm : Nat) (fr : Fr) (d : Option Nat) (s : SV) : Option Fr :=
  match d with
  | none => some fr
  | some d => match Nat.blt d ntm with
    | true => some ((d, s) :: fr)
    | false => none
theorem putS_ok {ntm : Nat} {ρ : List Nat} {fr fr' : Fr} {a : Act} (h : AInv ntm ρ fr a) {d : Option Nat} {s : SV} (hp : putS ntm fr d s = some fr') : AInv ntm ρ fr' (a.put d (s.den ρ)) := by
  cases d with
  | none => simp only [putS, Option.some.injEq] at hp; subst hp; exact h
  | some d =>
    simp only [putS] at hp
    split at hp
    · rename_i hb
      simp only [Option.some.injEq] at hp
      subst hp
      exact h.put (by simpa using hb) s
    · cases hp

def guardS (all : Array Oper) (fr : Fr) (o : Oper) : Option Bool :=
  match o.guard with
  | none => some true
  | some (j, want) => match all[j]? with
    | some oj => match oj.dst with
      | some t => match look fr t with
        | some (.v (.bool true)) => some want
        | some (.v (.bool false)) => some (!want)
        | some (.v (.tuple _)) => some false
        | _ => none
      | none => none
    | none => none
theorem guardS_ok {ntm : Nat} {ρ : List Nat} {fr : Fr} {a : Act} (h : AInv ntm ρ fr a) {all : Array Oper} {o : Oper} {b : Bool} (hg : guardS all fr o = some b) : Region.wanted o (yielded all a.tmps) = b := by
  unfold guardS at hg
  unfold Region.wanted
  split at hg
  · rename_i hn
    simp only [Option.some.injEq] at hg
    simp [hn, hg]
  · rename_i j want hn
    split at hg
    · rename_i oj hj
      split at hg
      · rename_i t ht
        split at hg
        · rename_i hl
          have := h.slot _ _ hl
          simp only [Option.some.injEq] at hg
          simp [hn, yielded, hj, ht, this, SV.den, ← hg]
        · rename_i hl
          have := h.slot _ _ hl
          simp only [Option.some.injEq] at hg
          simp [hn, yielded, hj, ht, this, SV.den, ← hg]
        · rename_i hl
          have := h.slot _ _ hl
          simp only [Option.some.injEq] at hg
          simp [hn, yielded, hj, ht, this, SV.den, ← hg]
        · cases hg
      · cases hg
    · cases hg

/-! ### memory -/
def scopedFr (n : Nat) : Fr → Bool
  | [] => true
  | (_, s) :: l => s.inBlk n && scopedFr n l
def scopedLoc (n : Nat) : Loc → Bool
  | [] => true
  | (c, _) :: l => SV.scopedL n c && scopedLoc n l
theorem scopedFr_look {n : Nat} : ∀ {fr : Fr} {t : Nat} {s : SV}, scopedFr n fr = true → look fr t = some s → s.inBlk n = true
  | (k, s') :: l, t, s, h, hl => by
    simp only [scopedFr, Bool.and_eq_true] at h
    simp only [look] at hl
    split at hl
    · simp only [Option.some.injEq] at hl; subst hl; exact h.1
    · exact scopedFr_look h.2 hl
theorem scopedLoc_get {n : Nat} : ∀ {loc : Loc} {i : Nat} {c : List SV} {t : TypeId}, scopedLoc n loc = true → loc[i]? = some (c, t) → SV.scopedL n c = true
  | (c', t') :: l, 0, c, t, h, hl => by
    simp only [scopedLoc, Bool.and_eq_true] at h
    simp at hl
    obtain ⟨rfl, rfl⟩ := hl
    exact h.1
  | (c', t') :: l, i + 1, c, t, h, hl => by
    simp only [scopedLoc, Bool.and_eq_true] at h
    exact scopedLoc_get h.2 (by simpa using hl)

/-- A new local block. -/
theorem WInv.alloc {N : Nat} {w0 w : World} {ρ : List Nat} {loc : Loc} (h : WInv N w0 ρ loc w) (c : List SV) (t : TypeId) (hs : scopedLoc loc.length loc = true) (hc : SV.scopedL loc.length c = true) :
    WInv N w0 (ρ ++ [w.heap.size]) (loc ++ [(c, t)]) (w.alloc (.cells (SV.denL ρ c).toArray t)) := by
  have hlen := h.len
  refine ⟨h.below.alloc h.hN _, by simp; have := h.hN; omega, by simp [hlen], ?_, ?_, ?_⟩
  · rw [List.nodup_append]
    refine ⟨h.nodup, by simp, fun x hx y hy => ?_⟩
    simp at hy
    have := (h.ge x hx).2
    omega
  · intro b hb
    simp only [List.mem_append, List.mem_singleton] at hb
    rcases hb with hb | rfl
    · have := h.ge b hb; simp; omega
    · have := h.hN; simp; omega
  · intro i c' t' hi
    by_cases hlt : i < loc.length
    · rw [List.getElem?_append_left hlt] at hi
      have hsc := scopedLoc_get hs hi
      have hn : nth (ρ ++ [w.heap.size]) i = nth ρ i := SV.getD_append (by omega)
      rw [hn, SV.denL_append ρ _ c' (by rw [hlen]; exact hsc)]
      have hold := h.cells i c' t' hi
      rw [Below.heap_alloc _ _ _ (Array.getElem?_eq_some_iff.1 hold).1]
      exact hold
    · rw [List.getElem?_append_right (by omega)] at hi
      have he : i - loc.length = 0 := by
        rcases Nat.eq_zero_or_pos (i - loc.length) with h0 | h0
        · exact h0
        · rw [List.getElem?_eq_none (by simp; omega)] at hi; cases hi
      rw [he] at hi
      simp at hi
      obtain ⟨rfl, rfl⟩ := hi
      have hi' : i = ρ.length := by omega
      subst hi'
      have hn : nth (ρ ++ [w.heap.size]) ρ.length = w.heap.size := by simp [nth, List.getD]
      rw [hn, SV.denL_append ρ _ c (by rw [hlen]; exact hc)]
      exact heap_alloc_new w _
theorem AInv.grow {ntm : Nat} {ρ : List Nat} {fr : Fr} {a : Act} (h : AInv ntm ρ fr a) (b : Nat) (hs : scopedFr ρ.length fr = true) : AInv ntm (ρ ++ [b]) fr a :=
  ⟨h.defers, h.size, fun t s hl => by rw [SV.den_append ρ b s (scopedFr_look hs hl)]; exact h.slot t s hl⟩
theorem Keep.alloc_ (ρ : List Nat) (w : World) (o : Obj) : Keep ρ w (w.alloc o) :=
  ⟨rfl, rfl, rfl, by simp, fun k hk _ => Below.heap_alloc _ _ _ hk⟩

/-- A store into a local block. -/
theorem WInv.store {N : Nat} {w0 w : World} {ρ : List Nat} {loc : Loc} (h : WInv N w0 ρ loc w) {i : Nat} {c : List SV} {t : TypeId} (hi : loc[i]? = some (c, t)) (c' : List SV) :
    WInv N w0 ρ (loc.set i (c', t)) (w.setRow (nth ρ i) (SV.denL ρ c').toArray) := by
  have hil : i < loc.length := (List.getElem?_eq_some_iff.1 hi).1
  have hmem : nth ρ i ∈ ρ := by
    have : i < ρ.length := by rw [h.len]; exact hil
    simp [nth, List.getD, this]
  have hge := h.ge _ hmem
  refine ⟨h.below.trans ⟨rfl, rfl, rfl, by simp, fun k hk => setRow_other w _ k _ (by omega)⟩, by simpa using h.hN, by simp [h.len], h.nodup, by simpa using h.ge, ?_⟩
  intro j d u hj
  by_cases hij : i = j
  · subst hij
    rw [List.getElem?_set_self hil] at hj
    simp only [Option.some.injEq, Prod.mk.injEq] at hj
    obtain ⟨rfl, rfl⟩ := hj
    exact setRow_heap w _ _ _ _ _ (h.cells i c t hi)
  · rw [List.getElem?_set_ne hij] at hj
    have hjl : j < loc.length := (List.getElem?_eq_some_iff.1 hj).1
    have hne : nth ρ j ≠ nth ρ i := by
      intro e
      have h1 : i < ρ.length := by rw [h.len]; exact hil
      have h2 : j < ρ.length := by rw [h.len]; exact hjl
      have e' : ρ[j] = ρ[i] := by simpa [nth, List.getD, h1, h2] using e
      exact hij ((List.getElem_inj h.nodup).1 e').symm
    rw [setRow_other w _ _ _ hne]
    exact h.cells j d u hj
theorem Keep.setRow_ {ρ : List Nat} {w : World} {g : Nat} (hg : g ∈ ρ) (cs : Array Value) : Keep ρ w (w.setRow g cs) :=
  ⟨rfl, rfl, rfl, by simp, fun k _ hn => setRow_other w g k cs (fun e => hn (e ▸ hg))⟩
theorem WInv.after {N : Nat} {w0 w w' : World} {ρ : List Nat} {loc : Loc} (h : WInv N w0 ρ loc w) (hb : Below w.heap.size w w') : WInv N w0 ρ loc w' :=
  ⟨h.below.trans (hb.mono h.hN), Nat.le_trans h.hN hb.size, h.len, h.nodup, fun b hm => ⟨(h.ge b hm).1, Nat.lt_of_lt_of_le (h.ge b hm).2 hb.size⟩, fun i c t hi => by
    have hold := h.cells i c t hi
    rw [hb.block _ (Array.getElem?_eq_some_iff.1 hold).1]
    exact hold⟩
end
end Go.Sx
