import Derived.Test.YtkjnbafdmjakgaaDoorSxX
set_option linter.unusedSimpArgs false
set_option linter.unusedVariables false
namespace Go.Sx
open Go.RowKit
section
variable {P : Program} {Q : Exit → Act → World → Prop} {N : Nat} {w0 : World} {ntm : Nat} {F : List Nat → World → Prop}

/-! ### values of several cells that lie outside -/
def ldaQ (P : Program) (fr : Fr) (o : Oper) : Option (Addr × Nat) :=
  match o.op with
  | .load t x => match evalS fr x, isAggT P t, sizeT P t with
    | some (.v (.pointer (some a))), some true, some n => some (a, n)
    | _, _, _ => none
  | _ => none
theorem run_ldaQ {ρ : List Nat} {fr : Fr} {act : Act} (ha : AInv ntm ρ fr act) {o : Oper} {a : Addr} {cs : List Value} {w : World} (h : ldaQ P fr o = some (a, cs.length)) (hc : ∀ (j : Nat) (v : Value), cs[j]? = some v → w.cell? (a.add j) = some v) :
    (execOp act.eval o).run P w = .ok (.value (.agg cs.toArray)) w := by
  obtain ⟨dst, op, ty, pos, after, guard⟩ := o
  unfold ldaQ at h
  simp only at h
  split at h
  · split at h
    · rename_i a' n hx hb hs
      simp only [Option.some.injEq, Prod.mk.injEq] at h
      obtain ⟨rfl, rfl⟩ := h
      have hr := run_loadCells_list (P := P) w a' cs hc
      simp [execOp, evalS_sound ha hx, SV.den, Instr.loadAt, Instr.sureAddr, loadVar, run_isAggT hb, run_sizeT hs, hr]
    · cases h
  · cases h
def ldaI (P : Program) (ntm : Nat) (s : S) : Option (Addr × Nat) :=
  match s.head?, s.dstOk ntm with
  | some o, true => ldaQ P s.fr o
  | _, _ => none
theorem At.lda {s : S} (a : Addr) (n : Nat) (l : List SV) (hq : ldaI P ntm s = some (a, n)) (hn : l.length = n) (hF : Stable F) (hr : ∀ ρ w, WInv N w0 ρ s.loc w → F ρ w → ∀ (j : Nat) (v : Value), (SV.denL ρ l)[j]? = some v → w.cell? (a.add j) = some v)
    (h : At P Q N w0 ntm F (s.tail ntm (.agg l))) : At P Q N w0 ntm F s := by
  subst hn
  unfold ldaI at hq
  split at hq
  · rename_i o ho hd
    refine At.op hF o (.agg l) ho hd (fun ρ act w hi hf => ?_) h
    have hl : (SV.denL ρ l).length = l.length := by simp [SV.denL_eq]
    have hr' := run_ldaQ hi.act (cs := SV.denL ρ l) (hl.symm ▸ hq) (hr ρ w hi.mem hf)
    rw [hr']
    simp [SV.den]
  · cases hq
/-- The place of a field of a value that lies outside. -/
def faxQ (P : Program) (fr : Fr) (o : Oper) : Option (Addr × Nat) :=
  match o.op with
  | .fieldAddr s x f => match P.underlying s, evalS fr x with
    | some (.struct fs), some (.v (.pointer (some a))) => match fs[f]? with
      | some fd => match sizeT P fd.type with
        | some (_ + 1) => some (a, fd.offset)
        | _ => none
      | none => none
    | _, _ => none
  | _ => none
theorem run_faxQ {ρ : List Nat} {fr : Fr} {act : Act} (ha : AInv ntm ρ fr act) {o : Oper} {a : Addr} {off : Nat} (h : faxQ P fr o = some (a, off)) (w : World) :
    (execOp act.eval o).run P w = .ok (.value (.pointer (some (a.add off)))) w := by
  obtain ⟨dst, op, ty, pos, after, guard⟩ := o
  unfold faxQ at h
  simp only at h
  split at h
  · split at h
    · rename_i fs a' hu hx
      split at h
      · rename_i fd hf
        split at h
        · rename_i m hs
          simp only [Option.some.injEq, Prod.mk.injEq] at h
          obtain ⟨rfl, rfl⟩ := h
          simp [execOp, evalS_sound ha hx, SV.den, Instr.fieldAt, run_underlying hu, hf, Instr.sureAddr, fieldPlace, run_sizeT hs]
        · cases h
      · cases h
    · cases h
  · cases h
def faxI (P : Program) (ntm : Nat) (s : S) : Option (Addr × Nat) :=
  match s.head?, s.dstOk ntm with
  | some o, true => faxQ P s.fr o
  | _, _ => none
theorem At.fax {s : S} (a : Addr) (off : Nat) (hq : faxI P ntm s = some (a, off)) (hF : Stable F) (h : At P Q N w0 ntm F (s.tail ntm (.v (.pointer (some (a.add off)))))) : At P Q N w0 ntm F s := by
  unfold faxI at hq
  split at hq
  · rename_i o ho hd
    exact At.op hF o (.v (.pointer (some (a.add off)))) ho hd (fun ρ act w hi hf => run_faxQ hi.act hq w) h
  · cases hq
end
end Go.Sx
