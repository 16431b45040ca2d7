import Derived.Test.YtiehnigbcfkcdaaDoorSxP
set_option linter.unusedSimpArgs false
set_option linter.unusedVariables false
namespace Go.Sx
open Go.RowKit
section
variable {P : Program} {Q : Exit → Act → World → Prop} {N : Nat} {w0 : World} {ntm : Nat} {F : List Nat → World → Prop}

/-- An index into a slice that came in. -/
def idxQ (P : Program) (fr : Fr) (o : Oper) : Option (Addr × Nat × Int × Nat) :=
  match o.op with
  | .indexAddr t x ix => match P.underlying t, evalS fr x, evalS fr ix with
    | some (.slice e), some (.sl (some a) n _), some si => match litOf si, sizeT P e with
      | some (.int _ i, _), some size => some (a, n, i, size)
      | _, _ => none
    | _, _, _ => none
  | _ => none
theorem run_idxQ {ρ : List Nat} {fr : Fr} {act : Act} (ha : AInv ntm ρ fr act) {o : Oper} {a : Addr} {n size : Nat} {i : Int} (h : idxQ P fr o = some (a, n, i, size)) (h0 : 0 ≤ i) (hn : i < n) (w : World) :
    (execOp act.eval o).run P w = .ok (.value (.pointer (some (a.add (i.toNat * size))))) w := by
  obtain ⟨dst, op, ty, pos, after, guard⟩ := o
  unfold idxQ at h
  simp only at h
  split at h
  · split at h
    · rename_i e a' n' c' si hu hx hi
      split at h
      · rename_i k i' lf size' hl hs
        simp only [Option.some.injEq, Prod.mk.injEq] at h
        obtain ⟨rfl, rfl, rfl, rfl⟩ := h
        have hsi := litOf_den (ρ := ρ) hl
        have hb : 0 ≤ i' ∧ i' < (n' : Int) := ⟨h0, hn⟩
        simp [execOp, evalS_sound ha hx, evalS_sound ha hi, hsi, SV.den, Instr.indexAt, asIntOf, run_underlying hu, hb, run_sizeT hs]
      · cases h
    · cases h
  · cases h
/-- A load of one cell that lies outside the local blocks. -/
def ldQ (P : Program) (fr : Fr) (o : Oper) : Option Addr :=
  match o.op with
  | .load t x => match evalS fr x, isAggT P t with
    | some (.v (.pointer (some a))), some false => some a
    | _, _ => none
  | _ => none
theorem run_ldQ {ρ : List Nat} {fr : Fr} {act : Act} (ha : AInv ntm ρ fr act) {o : Oper} {a : Addr} {v : Value} {w : World} (h : ldQ P fr o = some a) (hc : w.cell? a = some v) :
    (execOp act.eval o).run P w = .ok (.value v) w := by
  obtain ⟨dst, op, ty, pos, after, guard⟩ := o
  unfold ldQ at h
  simp only at h
  split at h
  · split at h
    · rename_i a' hx hb
      simp only [Option.some.injEq] at h
      subst h
      simp [execOp, evalS_sound ha hx, SV.den, Instr.loadAt, Instr.sureAddr, loadVar, run_isAggT hb, hc]
    · cases h
  · cases h
def idxI (P : Program) (ntm : Nat) (s : S) : Option (Addr × Nat × Int × Nat) :=
  match s.head?, s.dstOk ntm with
  | some o, true => idxQ P s.fr o
  | _, _ => none
def ldI (P : Program) (ntm : Nat) (s : S) : Option Addr :=
  match s.head?, s.dstOk ntm with
  | some o, true => ldQ P s.fr o
  | _, _ => none
theorem At.idx {s : S} (a : Addr) (n size : Nat) (i : Int) (hq : idxI P ntm s = some (a, n, i, size)) (h0 : 0 ≤ i) (hn : i < n)
    (hF : Stable F) (h : At P Q N w0 ntm F (s.tail ntm (.v (.pointer (some (a.add (i.toNat * size))))))) : At P Q N w0 ntm F s := by
  unfold idxI at hq
  split at hq
  · rename_i o ho hd
    exact At.op hF o (.v (.pointer (some (a.add (i.toNat * size))))) ho hd (fun ρ act w hi _ => run_idxQ hi.act hq h0 hn w) h
  · cases hq
theorem At.ldx {s : S} (a : Addr) (r : SV) (hq : ldI P ntm s = some a) (hF : Stable F) (hr : ∀ ρ w, WInv N w0 ρ s.loc w → F ρ w → w.cell? a = some (r.den ρ))
    (h : At P Q N w0 ntm F (s.tail ntm r)) : At P Q N w0 ntm F s := by
  unfold ldI at hq
  split at hq
  · rename_i o ho hd
    exact At.op hF o r ho hd (fun ρ act w hi hf => run_ldQ hi.act hq (hr ρ w hi.mem hf)) h
  · cases hq

/-- A shift to the left by a number that is open. -/
def shlQ (P : Program) (ntm : Nat) (s : S) : Option (IntKind × Int × Int) :=
  match s.head?, s.dstOk ntm with
  | some o, true => match o.op with
    | .binOp .shl t x y _ => match evalS s.fr x, evalS s.fr y with
      | some sx, some sy => match litOf sx, litOf sy, sx.calm with
        | some (.int k a, _), some (.int _ b, _), true => some (k, a, b)
        | _, _, _ => none
      | _, _ => none
    | _ => none
  | _, _ => none
theorem At.shl {s : S} (k : IntKind) (a b : Int) (hq : shlQ P ntm s = some (k, a, b)) (h0 : 0 ≤ b) (hF : Stable F)
    (h : At P Q N w0 ntm F (s.tail ntm (.io k (k.wrap (a * 2 ^ (min b.toNat k.bits)))))) : At P Q N w0 ntm F s := by
  unfold shlQ at hq
  split at hq
  · rename_i o ho hd
    split at hq
    · rename_i t x y t2 hop
      split at hq
      · rename_i sx sy hx hy
        split at hq
        · rename_i k' a' l1 k2 b' l2 h1 h2 hcalm
          simp only [Option.some.injEq, Prod.mk.injEq] at hq
          obtain ⟨rfl, rfl, rfl⟩ := hq
          refine At.op hF o (.io k' (k'.wrap (a' * 2 ^ (min b'.toNat k'.bits)))) ho hd (fun ρ act w hi _ => ?_) h
          obtain ⟨dst, op, ty, pos, after, guard⟩ := o
          simp only at hop
          subst hop
          have hr : (binOp .shl t (.int k' a') (.int k2 b')).run P w = .ok (.int k' (k'.wrap (a' * 2 ^ (min b'.toNat k'.bits)))) w :=
            run_shiftS (P := P) (op := .shl) (by simp only [shiftS]; rw [decide_eq_false (by omega)]) t w
          have hg := run_eqGuard_calm (P := P) (ρ := ρ) hcalm .shl t x y (sy.den ρ) w
          rw [litOf_den h1, litOf_den h2] at hg
          simp [execOp, evalS_sound hi.act hx, evalS_sound hi.act hy, litOf_den h1, litOf_den h2, SV.den, hg, hr]
        · cases hq
      · cases hq
    · cases hq
  · cases hq

def SV.canon : SV → SV
  | .v (.int k n) => .io k n
  | .v (.bool b) => .bo b
  | .v (.string x) => .so x
  | s => s
theorem SV.canon_den (ρ : List Nat) : ∀ s : SV, s.canon.den ρ = s.den ρ := by
  intro s
  cases s with
  | v x => cases x <;> rfl
  | _ => rfl
def canonFr (fr : Fr) : Fr := fr.map fun p => (p.1, p.2.canon)
theorem look_canon : ∀ {fr : Fr} {t : Nat} {s : SV}, look (canonFr fr) t = some s → ∃ s', look fr t = some s' ∧ s = s'.canon
  | [], t, s, h => by simp [canonFr, look] at h
  | (k, x) :: l, t, s, h => by
    simp only [canonFr, List.map_cons, look] at h ⊢
    split at h
    · exact ⟨x, rfl, by simpa using h.symm⟩
    · exact look_canon h
/-- What is known may be taken as open. -/
theorem At.canon {s : S} (s' : S) (hs : { s with fr := canonFr s.fr } = s') (h : At P Q N w0 ntm F s') : At P Q N w0 ntm F s := by
  subst hs
  intro ρ a w hi hf
  refine h ρ a w ⟨⟨hi.act.defers, hi.act.size, fun t x hl => ?_⟩, hi.mem⟩ hf
  obtain ⟨x', h1, rfl⟩ := look_canon hl
  rw [SV.canon_den]
  exact hi.act.slot t x' h1
end
end Go.Sx
