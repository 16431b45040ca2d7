import Derived.Test.YtiehnigbcfkcdaaDoorSxF
set_option linter.unusedSimpArgs false
set_option linter.unusedVariables false
namespace Go.Sx
open Go.RowKit
section
variable {P : Program}

def initS (n : Nat) (z : Array Value) : List SV := (List.range n).map fun j => .v (z[j % z.size]!)
theorem initS_den (ρ : List Nat) (n : Nat) (z : Array Value) : (SV.denL ρ (initS n z)).toArray = (Array.range n).map (z[· % z.size]!) := by
  apply Array.ext'
  simp [initS, SV.denL_eq, Function.comp_def, SV.den]

def newB (fr : Fr) (loc : Loc) (c : List SV) (t : TypeId) : Option Loc :=
  match scopedFr loc.length fr && scopedLoc loc.length loc && SV.scopedL loc.length c with
  | true => some (loc ++ [(c, t)])
  | false => none

/-- The operations that make a local block or write into one. -/
def memOp (P : Program) (fr : Fr) (loc : Loc) : Op → Option (Option SV × Loc)
  | .box t x => match (evalS fr x).bind SV.cells? with
    | some c => (newB fr loc c t).map fun l => (some (.lp loc.length 0), l)
    | none => none
  | .alloc t => match P.info? t with
    | some i => match i.zero with
      | some z => (newB fr loc (z.cells.toList.map .v) t).map fun l => (some (.lp loc.length 0), l)
      | none => none
    | none => none
  | .buildSlice t n parts => match P.underlying t, evalP fr parts.toList with
    | some (.slice e), some ps => match P.info? e with
      | some i => match i.zero, Nat.ble (n * i.size) (2 ^ 24) with
        | some z, true => match fillS (fun j => some (j * i.size, i.size)) (initS (n * i.size) z.cells) ps with
          | some c => (newB fr loc c e).map fun l => (some (.ls loc.length 0 n n), l)
          | none => none
        | _, _ => none
      | none => none
    | _, _ => none
  | .store t x y => match evalS fr x, (evalS fr y).bind SV.cells?, sizeT P t with
    | some (.lp i off), some l, some n => match loc[i]?, Nat.beq l.length n && oneL l with
      | some (c, ty), true => match Nat.ble (off + l.length) c.length with
        | true => some (none, loc.set i (c.take off ++ l ++ c.drop (off + l.length), ty))
        | false => none
      | _, _ => none
    | _, _, _ => none
  | _ => none

theorem run_newB {N ntm : Nat} {w0 w : World} {ρ : List Nat} {loc loc' : Loc} {fr : Fr} {a : Act} (ha : AInv ntm ρ fr a) (hw : WInv N w0 ρ loc w) {c : List SV} {t : TypeId}
    (h : newB fr loc c t = some loc') :
    AInv ntm (ρ ++ [w.heap.size]) fr a ∧ WInv N w0 (ρ ++ [w.heap.size]) loc' (w.alloc (.cells (SV.denL ρ c).toArray t)) ∧ nth (ρ ++ [w.heap.size]) loc.length = w.heap.size := by
  unfold newB at h
  split at h
  · rename_i hs
    simp only [Bool.and_eq_true] at hs
    simp only [Option.some.injEq] at h
    subst h
    refine ⟨ha.grow _ (by rw [hw.len]; exact hs.1.1), hw.alloc c t hs.1.2 hs.2, ?_⟩
    have := hw.len
    simp [nth, List.getD, ← this]
  · cases h

/-- What an operation on memory leaves. -/
theorem run_memOp {N ntm : Nat} {w0 w : World} {ρ : List Nat} {loc loc' : Loc} {fr : Fr} {a : Act} (ha : AInv ntm ρ fr a) (hw : WInv N w0 ρ loc w) {o : Oper} {r : Option SV}
    (h : memOp P fr loc o.op = some (r, loc')) :
    ∃ ρ' w', Grow w.heap.size ρ ρ' ∧ AInv ntm ρ' fr a ∧ WInv N w0 ρ' loc' w' ∧ Keep ρ w w' ∧
      (execOp a.eval o).run P w = .ok (match r with | some s => .value (s.den ρ') | none => .skip) w' := by
  obtain ⟨dst, op, ty, pos, after, guard⟩ := o
  unfold execOp
  have hgrow : Grow w.heap.size ρ (ρ ++ [w.heap.size]) := ⟨[w.heap.size], rfl, by simp⟩
  cases op <;> try (simp [memOp] at h; done)
  case box t x =>
    simp only [memOp] at h
    split at h
    · rename_i c hc
      obtain ⟨s, hs, hcs⟩ := Option.bind_eq_some_iff.1 hc
      obtain ⟨l', hl, he⟩ := Option.map_eq_some_iff.1 h
      simp only [Prod.mk.injEq] at he
      obtain ⟨rfl, rfl⟩ := he
      obtain ⟨h1, h2, h3⟩ := run_newB ha hw hl
      refine ⟨_, _, hgrow, h1, h2, Keep.alloc_ _ _ _, ?_⟩
      simp only [evalS_sound ha hs, Instr.box, newVar, newRow, SV.cells?_den hcs, SV.den, h3, Sem.run_bind, Sem.run_pure, Result.andThen_ok, run_newObj, World.alloc]
    · cases h
  case alloc t =>
    simp only [memOp] at h
    split at h
    · rename_i i hi
      split at h
      · rename_i z hz
        obtain ⟨l', hl, he⟩ := Option.map_eq_some_iff.1 h
        simp only [Prod.mk.injEq] at he
        obtain ⟨rfl, rfl⟩ := he
        obtain ⟨h1, h2, h3⟩ := run_newB ha hw hl
        refine ⟨_, _, hgrow, h1, h2, Keep.alloc_ _ _ _, ?_⟩
        simp only [Instr.alloc, zeroValue, typeInfo, run_program, hi, hz, newVar, newRow, SV.den, h3, Sem.run_bind, Sem.run_pure, Result.andThen_ok, run_newObj, World.alloc, denL_v]
      · cases h
    · cases h
  case buildSlice t n parts =>
    simp only [memOp] at h
    split at h
    · rename_i e ps hu hp
      split at h
      · rename_i i hi
        split at h
        · rename_i z hz hb
          have hb' := Nat.le_of_ble_eq_true hb
          split at h
          · rename_i c hc
            obtain ⟨l', hl, he⟩ := Option.map_eq_some_iff.1 h
            simp only [Prod.mk.injEq] at he
            obtain ⟨rfl, rfl⟩ := he
            obtain ⟨h1, h2, h3⟩ := run_newB ha hw hl
            refine ⟨_, _, hgrow, h1, h2, Keep.alloc_ _ _ _, ?_⟩
            have hf := fillS_den (ρ := ρ) hc
            rw [← evalP_sound ha hp, initS_den] at hf
            have hsz : sizeT P e = some i.size := by simp [sizeT, hi]
            have hz0 : ∀ zz : Array Value, n * i.size = 0 → (Array.range (n * i.size)).map (fun j => zz[j % zz.size]!) = (Array.range (n * i.size)).map (fun j => z.cells[j % z.cells.size]!) := by
              intro zz h0; simp [h0]
            by_cases h0 : n * i.size = 0
            · simp only [Instr.buildSlice, Sem.run_bind, run_underlying hu, Result.andThen_ok, run_sizeT hsz, if_neg (Nat.not_lt.2 hb'), if_pos h0, Sem.run_pure, hz0 #[] h0]
              simp [hf, newRow, SV.den, h3]
            · simp only [Instr.buildSlice, Sem.run_bind, run_underlying hu, Result.andThen_ok, run_sizeT hsz, if_neg (Nat.not_lt.2 hb'), if_neg h0, Sem.run_pure, zeroValue, typeInfo, run_program, hi, hz]
              simp [hf, newRow, SV.den, h3]
          · cases h
        · cases h
      · cases h
    · cases h
  case store t x y =>
    simp only [memOp] at h
    split at h
    · rename_i i off l n hx hy hn
      split at h
      · rename_i c cty hl hb
        simp only [Bool.and_eq_true] at hb
        have hln := Nat.eq_of_beq_eq_true hb.1
        split at h
        · rename_i hle
          have hle' := Nat.le_of_ble_eq_true hle
          obtain ⟨s, hs, hcs⟩ := Option.bind_eq_some_iff.1 hy
          simp only [Option.some.injEq, Prod.mk.injEq] at h
          obtain ⟨rfl, rfl⟩ := h
          have hil : i < ρ.length := by rw [hw.len]; exact (List.getElem?_eq_some_iff.1 hl).1
          have hm : nth ρ i ∈ ρ := by simp [nth, List.getD, hil]
          refine ⟨ρ, _, Grow.refl _ _, ha, hw.store hl _, Keep.setRow_ hm _, ?_⟩
          have hst := run_storeCells_at (P := P) (nth ρ i) off cty (SV.denL ρ l) 0 (SV.denL ρ c).toArray w (hw.cells i c cty hl) (by simp [SV.denL_eq]; omega) (oneL_den hb.2)
          have hcells := SV.cells?_den (ρ := ρ) hcs
          have hsize : (SV.denL ρ l).length = n := by simp [SV.denL_eq, hln]
          simp only [evalS_sound ha hx, evalS_sound ha hs, SV.den, Instr.storeAt, Instr.sureAddr, storeVar, Sem.run_bind, Sem.run_pure, Result.andThen_ok, run_sizeT hn, hcells, List.size_toArray, hsize, ne_eq, not_true_eq_false, if_false]
          simp only [hst]
          simp [SV.denL_eq]
        · cases h
      · cases h
    · cases h
end
end Go.Sx
