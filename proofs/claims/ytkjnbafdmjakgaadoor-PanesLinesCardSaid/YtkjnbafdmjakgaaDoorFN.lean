import Derived.Test.YtkjnbafdmjakgaaDoorFL
set_option linter.unusedSimpArgs false
set_option linter.unusedVariables false
namespace Go.Sx
open Go.RowKit
section
variable {P : Program} {ops : Array Oper} {md : Region.Mode} {Q : Exit → Act → World → Prop}

/-- An operation whose value the others cannot turn may be taken first. -/
theorem wpAny_firstL (J : Array Bool → Act → World → Prop) (hQ : ∀ e a w, Q e a w → e = .normal) {i : Nat} {oi : Oper} {v : Value} (hi : ops[i]? = some oi) (hsel : ∀ (j : Nat) (o : Oper) cs b, ops[j]? = some o → o.op ≠ .select cs b)
    (hv : ∀ L a w, J L a w → (execOp a.eval oi).run P w = .ok (.value v) w) :
    ∀ (f : Nat) (listed : Array Bool) (a : Act) (w : World),
      (∀ j oj, ops[j]? = some oj → j ≠ i → listed.getD j true = false → (∀ e ∈ oj.after, Region.binds md e = true → e.on ≠ i) → oi.apart ops oj = true) →
      (∀ j oj, ops[j]? = some oj → j ≠ i → listed.getD j true = false → ∀ L a w, j ∈ Region.ready md ops L → J L a w → J (L.setIfInBounds j true) (a.put oj.dst undef) w ∧ ∀ n w', (execOp a.eval oj).run P w = .ok n w' → ∃ u, (n = .value u ∨ (n = .skip ∧ u = undef)) ∧ J (L.setIfInBounds j true) (a.put oj.dst u) w') →
      i ∈ Region.ready md ops listed → Region.wanted oi (yielded ops a.tmps) = true → J listed a w →
      wpAny P md ops Q f (listed.setIfInBounds i true) (a.put oi.dst v) w → wpAny P md ops Q (f + 1) listed a w := by
  intro f
  induction f with
  | zero =>
    intro listed a w _ _ hr hw hJ H
    refine ⟨fun h => (by rw [h] at hr; cases hr), fun j hj => ?_⟩
    by_cases hji : j = i
    · subst hji
      unfold wpOp
      simp only [hi, hw, if_true]
      refine .inl ?_
      unfold Oper.wp
      rw [hv listed a w hJ]
      exact H
    · have := ready_mono hj hji
      rw [H.1] at this
      cases this
  | succ f ih =>
    intro listed a w hfree hst hr hw hJ H
    refine ⟨fun h => (by rw [h] at hr; cases hr), fun j hj => ?_⟩
    by_cases hji : j = i
    · subst hji
      unfold wpOp
      simp only [hi, hw, if_true]
      refine .inl ?_
      unfold Oper.wp
      rw [hv listed a w hJ]
      exact H
    · have h1 := H.2 j (ready_mono hj hji)
      obtain ⟨hjun, oj, hoj, hall⟩ := mem_ready.1 hj
      have hnot : ∀ e ∈ oj.after, Region.binds md e = true → e.on ≠ i := fun e he hb heq => by
        have h1 := hall e he hb
        rw [heq, getD_both (mem_ready.1 hr).1] at h1
        cases h1
      have hap := hfree j oj hoj hji hjun hnot
      have h2 := wpOp_put hQ hoj hap (fun cs b => hsel j oj cs b hoj) h1
      obtain ⟨a1, a2, a3⟩ := Oper.apart_spec hap
      obtain ⟨hsk, hrun⟩ := hst j oj hoj hji hjun listed a w hj hJ
      unfold wpOp at h2 ⊢
      simp only [hoj] at h2 ⊢
      have step : ∀ (u : Value) (w' : World), J (listed.setIfInBounds j true) (a.put oj.dst u) w' → wpAny P md ops Q f ((listed.setIfInBounds i true).setIfInBounds j true) ((a.put oj.dst u).put oi.dst v) w' → wpAny P md ops Q (f + 1) (listed.setIfInBounds j true) (a.put oj.dst u) w' := by
        intro u w' hJ' hh
        refine ih (listed.setIfInBounds j true) (a.put oj.dst u) w' (fun k ok hk hki hun hno => ?_) (fun k ok hk hki hun => ?_) (ready_mono hr (Ne.symm hji)) ?_ hJ' ?_
        · refine hfree k ok hk hki ?_ hno
          by_cases hjk : j = k
          · subst hjk; exact hjun
          · rw [getD_set_ne true hjk] at hun; exact hun
        · refine hst k ok hk hki ?_
          by_cases hjk : j = k
          · subst hjk; exact hjun
          · rw [getD_set_ne true hjk] at hun; exact hun
        · rw [wanted_put oi a oj.dst u a3]; exact hw
        · rw [Array.setIfInBounds_comm _ _ hji]
          exact hh
      split
      · rename_i hwj
        rw [if_pos hwj] at h2
        rcases h2 with h2 | ⟨_, a', w', h'⟩
        · refine .inl ?_
          unfold Oper.wp at h2 ⊢
          generalize hrr : (execOp a.eval oj).run P w = r at *
          cases r with
          | ok n w' =>
            obtain ⟨u, hu, hJ'⟩ := hrun n w' rfl
            rcases hu with rfl | ⟨rfl, rfl⟩
            · simp only [Oper.upon] at h2 ⊢
              exact step u w' hJ' h2
            · simp only [Oper.upon] at h2 ⊢
              exact step undef w' hJ' h2
          | halt x w' =>
            cases x <;> simp only [Oper.upon] at h2 ⊢
            exact absurd (hQ _ _ _ h2) (by simp)
        · exact absurd (hQ _ _ _ h') (by simp)
      · rename_i hwj
        rw [if_neg hwj] at h2
        exact step undef w hsk h2

def isFA (o : Oper) : Bool := match o.op with
  | .fieldAddr .. => true
  | _ => false
/-- The operand holds an address in a local block that is not the one. -/
def srcOk (sub : Fr) (all : Array Oper) (L0 : Array Bool) (nl b : Nat) (o : Oper) (x : Operand) : Bool := match x with
  | .tmp t => match look sub t with
    | some (.lp i _) => !Nat.beq i b && Nat.blt i nl
    | some _ => false
    | none => o.after.toList.any fun e => Region.binds .any e && (!L0.getD e.on true && (match all[e.on]? with
      | some ok => isFA ok && (match ok.dst with
        | some d => Nat.beq d t
        | none => false)
      | none => false))
  | _ => false
def fdOk (P : Program) (s : TypeId) (f : Nat) : Bool := match P.underlying s with
  | some (.struct fs) => match fs[f]? with
    | some fd => match sizeT P fd.type with
      | some (_ + 1) => true
      | _ => false
    | none => false
  | _ => false
def calm2 (P : Program) (sub : Fr) (all : Array Oper) (L0 : Array Bool) (nl b : Nat) (o : Oper) : Bool := match o.op with
  | .load t _ => match isAggT P t with
    | some false => true
    | _ => false
  | .store t y _ => match sizeT P t with
    | some 1 => srcOk sub all L0 nl b o y
    | _ => false
  | .fieldAddr s y f => fdOk P s f && srcOk sub all L0 nl b o y
  | _ => false
def Safe (ρ : List Nat) (b : Nat) (v : Value) : Prop := ∀ ad, v = .pointer (some ad) → ∃ i o, i < ρ.length ∧ i ≠ b ∧ ad = ⟨nth ρ i, o, none⟩
def Shapes (ρ : List Nat) (b off : Nat) (v : Value) (w : World) : Prop :=
  w.cell? ⟨nth ρ b, off, none⟩ = some v ∧ ∀ i, i < ρ.length → ∃ cs t fz, w.heap[nth ρ i]? = some (.cells cs t fz)
def FAs (all : Array Oper) (L0 : Array Bool) (ρ : List Nat) (b : Nat) (L : Array Bool) (a : Act) : Prop :=
  ∀ k ok d v, all[k]? = some ok → isFA ok = true → L0.getD k true = false → L.getD k false = true → ok.dst = some d → a.tmps[d]? = some v → Safe ρ b v
theorem safe_undef (ρ : List Nat) (b : Nat) : Safe ρ b undef := fun ad h => by simp [undef] at h
theorem src_safe {ntm nl b : Nat} {ρ : List Nat} {sub : Fr} {all : Array Oper} {L0 L : Array Bool} {a : Act} {j : Nat} {o : Oper} {x : Operand} (hs : srcOk sub all L0 nl b o x = true) (hnl : nl = ρ.length) (ha : AInv ntm ρ sub a) (hF : FAs all L0 ρ b L a)
    (ho : all[j]? = some o) (hr : j ∈ Region.ready .any all L) : Safe ρ b (a.eval x) := by
  unfold srcOk at hs
  split at hs
  · rename_i t
    split at hs
    · rename_i i o' hl
      simp only [Bool.and_eq_true] at hs
      have hv := getD_of (ha.slot t _ hl)
      show Safe ρ b (a.tmps.getD t undef)
      rw [hv]
      intro ad h
      simp only [SV.den] at h
      injection h with h
      injection h with h
      subst h
      refine ⟨i, o', ?_, ?_, rfl⟩
      · have := hs.2
        simp [Nat.blt] at this
        omega
      · intro e
        subst e
        simp at hs
    · cases hs
    · rename_i hl
      obtain ⟨e, he, hb⟩ := List.any_eq_true.1 hs
      simp only [Bool.and_eq_true, Bool.not_eq_true'] at hb
      obtain ⟨hb1, hb2, hb3⟩ := hb
      split at hb3
      · rename_i ok hok
        simp only [Bool.and_eq_true] at hb3
        obtain ⟨hfa, hd⟩ := hb3
        split at hd
        · rename_i d hdst
          have hd := Nat.eq_of_beq_eq_true hd
          subst hd
          obtain ⟨_, o2, ho2, hall⟩ := mem_ready.1 hr
          rw [ho] at ho2
          simp only [Option.some.injEq] at ho2
          subst ho2
          have hL := hall e (Array.mem_toList_iff.1 he) hb1
          show Safe ρ b (a.tmps.getD d undef)
          rcases hv : a.tmps[d]? with _ | v
          · have : a.tmps.getD d undef = undef := by simp [Array.getD_eq_getD_getElem?, hv]
            rw [this]
            exact safe_undef ρ b
          · rw [getD_of hv]
            exact hF e.on ok d v hok hfa hb2 hL hdst hv
        · cases hd
      · cases hb3
  · cases hs
theorem sure_cases (P : Program) (v : Value) : (∃ ad, v = .pointer (some ad)) ∨ ∀ w, ∃ h, (Instr.sureAddr v).run P w = .halt h w := by
  unfold Instr.sureAddr
  split
  · rename_i a
    exact .inl ⟨a, rfl⟩
  · exact .inr fun w => ⟨_, rfl⟩
theorem setCell_block (w : World) (p : Addr) (u : Value) {k : Nat} (h : k ≠ p.block) : (w.setCell p u).heap[k]? = w.heap[k]? := by
  unfold World.setCell
  simp only
  rw [Array.getElem?_modify, if_neg fun e => h e.symm]
theorem setCell_shape (w : World) (p : Addr) (u : Value) {k : Nat} (h : ∃ cs t fz, w.heap[k]? = some (.cells cs t fz)) : ∃ cs t fz, (w.setCell p u).heap[k]? = some (.cells cs t fz) := by
  obtain ⟨cs, t, fz, h⟩ := h
  by_cases hk : k = p.block
  · subst hk
    unfold World.setCell
    simp only
    rw [Array.getElem?_modify, if_pos rfl, h]
    exact ⟨_, _, _, rfl⟩
  · exact ⟨cs, t, fz, by rw [setCell_block w p u hk]; exact h⟩
theorem calm2_run {ntm nl b off : Nat} {ρ : List Nat} {sub : Fr} {all : Array Oper} {L0 L : Array Bool} {a : Act} {w : World} {v : Value} {j : Nat} {o : Oper} (hc : calm2 P sub all L0 nl b o = true) (hnl : nl = ρ.length) (hb : b < ρ.length) (hn : ρ.Nodup) (ha : AInv ntm ρ sub a) (hF : FAs all L0 ρ b L a) (hw : Shapes ρ b off v w)
    (ho : all[j]? = some o) (hrd : j ∈ Region.ready .any all L) {n : Go.Next} {w' : World} (hr : (execOp a.eval o).run P w = .ok n w') : ∃ u, (n = .value u ∨ (n = .skip ∧ u = undef)) ∧ Shapes ρ b off v w' ∧ (isFA o = true → Safe ρ b u) := by
  have src := fun x hs => src_safe (x := x) hs hnl ha hF ho hrd
  obtain ⟨dst, op, ty, pos, after, guard⟩ := o
  unfold calm2 at hc
  simp only at hc
  split at hc
  · rename_i t y
    split at hc
    · rename_i ht
      rcases sure_cases P (a.eval y) with ⟨ad, had⟩ | hno
      · simp only [execOp, had, Instr.loadAt, Instr.sureAddr, loadVar, Sem.run_bind, Sem.run_pure, Result.andThen_ok, run_isAggT ht, Bool.false_eq_true, if_false, run_load] at hr
        rcases hcell : w.cell? ad with _ | x
        · rw [hcell] at hr
          simp only at hr
          split at hr
          · simp only [Result.andThen_ok, Result.ok.injEq] at hr
            obtain ⟨rfl, rfl⟩ := hr
            exact ⟨_, .inl rfl, hw, fun h => by simp [isFA] at h⟩
          · simp [Result.andThen] at hr
        · rw [hcell] at hr
          simp only [Result.andThen_ok, Result.ok.injEq] at hr
          obtain ⟨rfl, rfl⟩ := hr
          exact ⟨_, .inl rfl, hw, fun h => by simp [isFA] at h⟩
      · obtain ⟨h, hh⟩ := hno w
        simp [execOp, Instr.loadAt, hh, Result.andThen] at hr
    · cases hc
  · rename_i t y z
    split at hc
    · rename_i ht
      have hsafe := src y hc
      rcases sure_cases P (a.eval y) with ⟨ad, had⟩ | hno
      · obtain ⟨i, o', hi, hib, rfl⟩ := hsafe ad had
        simp only [execOp, had, Instr.storeAt, Instr.sureAddr, storeVar, Sem.run_bind, Sem.run_pure, Result.andThen_ok, run_sizeT ht] at hr
        generalize hz : (a.eval z).cells = cs at hr
        by_cases hsz : cs.size ≠ 1
        · rw [if_pos hsz] at hr
          simp [Result.andThen] at hr
        · rw [if_neg hsz] at hr
          have hsz : cs.size = 1 := Classical.not_not.1 hsz
          obtain ⟨u, hu⟩ : ∃ u, cs.toList = [u] := by
            have : cs.toList.length = 1 := by simpa using hsz
            match h : cs.toList, this with
            | [u], _ => exact ⟨u, rfl⟩
          rw [hu] at hr
          simp only [storeCells, Sem.run_bind, Sem.run_pure, Result.andThen_ok] at hr
          have hone : u.oneCell' = true ∨ u.oneCell' = false := by cases u.oneCell' <;> simp
          rcases hone with hone | hone
          · rw [run_store P w _ u .plain hone, add_ok, Nat.add_zero] at hr
            rcases hcell : w.cell? ⟨nth ρ i, o', none⟩ with _ | x
            · rw [hcell] at hr
              obtain ⟨cs', t', fz', hsh⟩ := hw.2 i hi
              simp [World.farStore, hsh, Result.andThen] at hr
            · rw [hcell] at hr
              simp only at hr
              split at hr
              · simp [Result.andThen] at hr
              · simp only [Result.andThen_ok, Sem.run_pure, Result.ok.injEq] at hr
                obtain ⟨rfl, rfl⟩ := hr
                refine ⟨undef, .inr ⟨rfl, rfl⟩, ⟨?_, fun k hk => setCell_shape w _ u (hw.2 k hk)⟩, fun h => by simp [isFA] at h⟩
                rw [World.cell?_setCell_other _ _ _ _ ?_]
                · exact hw.1
                · intro e
                  have e1 : nth ρ i = nth ρ b := by injection e
                  exact nth_ne hn hi hb hib e1
          · exfalso
            cases u <;> simp [Value.oneCell'] at hone <;> simp [store, Sem.run, Result.andThen] at hr
      · obtain ⟨h, hh⟩ := hno w
        simp [execOp, Instr.storeAt, hh, Result.andThen] at hr
    · cases hc
  · rename_i s y f
    simp only [Bool.and_eq_true] at hc
    have hsafe := src y hc.2
    have hfd := hc.1
    unfold fdOk at hfd
    split at hfd
    · rename_i fs hu
      split at hfd
      · rename_i fd hf
        split at hfd
        · rename_i m hs
          rcases sure_cases P (a.eval y) with ⟨ad, had⟩ | hno
          · obtain ⟨i, o', hi, hib, rfl⟩ := hsafe ad had
            simp [execOp, had, Instr.fieldAt, run_underlying hu, hf, Instr.sureAddr, fieldPlace, run_sizeT hs, add_ok] at hr
            obtain ⟨rfl, rfl⟩ := hr
            refine ⟨_, .inl rfl, hw, fun _ ad h => ?_⟩
            injection h with h
            injection h with h
            exact ⟨i, _, hi, hib, h.symm⟩
          · obtain ⟨h, hh⟩ := hno w
            simp [execOp, Instr.fieldAt, run_underlying hu, hf, hh, Result.andThen] at hr
        · cases hfd
      · cases hfd
    · cases hfd
  · cases hc
/-- No two operations that are still to come write one slot. -/
def dstApart (all : Array Oper) (L0 : Array Bool) : Bool := (List.range all.size).all fun j => (List.range all.size).all fun k => Nat.beq j k || (L0.getD j true || (L0.getD k true || (match (all[j]?).bind (·.dst), (all[k]?).bind (·.dst) with
  | some d, some e => !Nat.beq d e
  | _, _ => true)))
theorem dstApart_spec {all : Array Oper} {L0 : Array Bool} (h : dstApart all L0 = true) {j k : Nat} {oj ok : Oper} (hj : all[j]? = some oj) (hk : all[k]? = some ok) (hne : k ≠ j) (lj : L0.getD j true = false) (lk : L0.getD k true = false) {d : Nat} (hd : ok.dst = some d) : oj.dst ≠ some d := by
  intro e
  have h1 := List.all_eq_true.1 (List.all_eq_true.1 h j (List.mem_range.2 (Array.getElem?_eq_some_iff.1 hj).1)) k (List.mem_range.2 (Array.getElem?_eq_some_iff.1 hk).1)
  rw [hj, hk, lj, lk] at h1
  simp only [Option.bind_some, e, hd, Bool.false_or, Bool.or_eq_true] at h1
  rcases h1 with h1 | h1
  · exact hne (Nat.eq_of_beq_eq_true h1).symm
  · simp at h1

variable {N : Nat} {w0 : World} {ntm : Nat} {F : List Nat → World → Prop}
/-- A load that may be taken ahead of all else: what is still to come writes into other blocks alone. -/
def pickA (P : Program) (ntm : Nat) (all : Array Oper) (listed : Array Bool) (fr : Fr) (loc : Loc) : List Nat → Option (Nat × Fr)
  | [] => none
  | j :: js => match all[j]? with
    | some o => match o.op with
      | .load t y => match isAggT P t, evalS (drops ((unl all listed).filterMap (·.dst)) fr) y with
        | some false, some (.lp b off) => match (loc[b]?).bind (·.1[off]?) with
          | some r => match guardS all fr o, Region.free .any all listed j && (Region.noSelect all && (dstApart all listed && (unl all listed).all (calm2 P (drops ((unl all listed).filterMap (·.dst)) fr) all listed loc.length b))) with
            | some true, true => match putS ntm fr o.dst r with
              | some fr' => some (j, fr')
              | none => pickA P ntm all listed fr loc js
            | _, _ => pickA P ntm all listed fr loc js
          | none => pickA P ntm all listed fr loc js
        | _, _ => pickA P ntm all listed fr loc js
      | _ => pickA P ntm all listed fr loc js
    | none => pickA P ntm all listed fr loc js
theorem pickA_spec {all : Array Oper} {listed : Array Bool} {fr fr' : Fr} {loc : Loc} {j : Nat} : ∀ {js : List Nat}, pickA P ntm all listed fr loc js = some (j, fr') →
    j ∈ js ∧ ∃ o t y b off r, all[j]? = some o ∧ o.op = .load t y ∧ isAggT P t = some false ∧ evalS (drops ((unl all listed).filterMap (·.dst)) fr) y = some (.lp b off) ∧ (loc[b]?).bind (·.1[off]?) = some r ∧ guardS all fr o = some true ∧
      Region.free .any all listed j = true ∧ Region.noSelect all = true ∧ dstApart all listed = true ∧ (unl all listed).all (calm2 P (drops ((unl all listed).filterMap (·.dst)) fr) all listed loc.length b) = true ∧ putS ntm fr o.dst r = some fr'
  | [], h => by cases h
  | k :: js, h => by
    have more := fun h' : pickA P ntm all listed fr loc js = some (j, fr') => pickA_spec h'
    unfold pickA at h
    split at h
    · rename_i o ho
      split at h
      · rename_i t y hop
        split at h
        · rename_i b off ht hy
          split at h
          · rename_i r hr
            split at h
            · rename_i hg hf
              simp only [Bool.and_eq_true] at hf
              split at h
              · rename_i fr1 hp
                simp only [Option.some.injEq, Prod.mk.injEq] at h
                obtain ⟨rfl, rfl⟩ := h
                exact ⟨List.mem_cons_self, o, t, y, b, off, r, ho, hop, ht, hy, hr, hg, hf.1, hf.2.1, hf.2.2.1, hf.2.2.2, hp⟩
              · exact ⟨List.mem_cons_of_mem _ (more h).1, (more h).2⟩
            · exact ⟨List.mem_cons_of_mem _ (more h).1, (more h).2⟩
          · exact ⟨List.mem_cons_of_mem _ (more h).1, (more h).2⟩
        · exact ⟨List.mem_cons_of_mem _ (more h).1, (more h).2⟩
      · exact ⟨List.mem_cons_of_mem _ (more h).1, (more h).2⟩
    · exact ⟨List.mem_cons_of_mem _ (more h).1, (more h).2⟩
def calmA (P : Program) (ntm : Nat) : Nat → S → S
  | 0, s => s
  | f + 1, s => match s.pc, s.ks with
    | .any all (g + 1) dn, [] => match pick P ntm all (listedOf all.size dn) s.fr (Region.ready .any all (listedOf all.size dn)) with
      | some (j, fr') => calmA P ntm f ⟨.any all g (j :: dn), [], fr', s.loc⟩
      | none => match pickA P ntm all (listedOf all.size dn) s.fr s.loc (Region.ready .any all (listedOf all.size dn)) with
        | some (j, fr') => calmA P ntm f ⟨.any all g (j :: dn), [], fr', s.loc⟩
        | none => s
    | _, _ => s
theorem At.calmA0 (hQ : ∀ e a w, Q e a w → e = .normal) : ∀ (f : Nat) {s : S}, At P Q N w0 ntm F (calmA P ntm f s) → At P Q N w0 ntm F s
  | 0, s, h => h
  | f + 1, s, h => by
    obtain ⟨pc, ks, fr, loc⟩ := s
    unfold calmA at h
    simp only at h
    split at h
    · rename_i all g dn
      split at h
      · rename_i j fr' hp
        obtain ⟨hj, o, r, ho, hg, hfs, ha, hput⟩ := pick_spec hp
        simp only [Bool.and_eq_true] at hfs
        have ih := At.calmA0 hQ f h
        intro ρ a w hi hf
        refine wpAny_first hQ ho (Region.noSelect_spec hfs.2) g _ a w (Region.free_spec ho hfs.1) hj (guardS_ok hi.act hg) (run_addrOp hi.act ha) ?_
        exact ih ρ _ w ⟨putS_ok hi.act hput, hi.mem⟩ hf
      · split at h
        · rename_i j fr' hp
          obtain ⟨hj, o, t, y, b, off, r, ho, hop, ht, hy, hr, hg, hfree, hsel, hdis, hcalm, hput⟩ := pickA_spec hp
          have ih := At.calmA0 hQ f h
          intro ρ a w hi hf
          obtain ⟨⟨c, tt⟩, hlb, hrc⟩ := Option.bind_eq_some_iff.1 hr
          have hlen := hi.mem.len
          have hbl : b < ρ.length := by rw [hlen]; exact (List.getElem?_eq_some_iff.1 hlb).1
          refine wpAny_firstL (v := r.den ρ) (fun L a w => AInv ntm ρ (drops ((unl all (listedOf all.size dn)).filterMap (·.dst)) fr) a ∧ FAs all (listedOf all.size dn) ρ b L a ∧ Shapes ρ b off (r.den ρ) w) hQ ho (Region.noSelect_spec hsel) ?_ g _ a w (Region.free_spec ho hfree) ?_ hj (guardS_ok hi.act hg) ⟨hi.act.drops_ _, ?_, ?_, ?_⟩ ?_
          · intro L a w ⟨h1, _, h2⟩
            obtain ⟨dst, op, ty, pos, after, guard⟩ := o
            simp only at hop
            subst hop
            simp [execOp, evalS_sound h1 hy, SV.den, Instr.loadAt, Instr.sureAddr, loadVar, run_isAggT ht, h2.1]
          · intro k ok hk hki hun L a w hrd ⟨h1, h2, h3⟩
            have hmem := mem_unl hk hun
            have hc := List.all_eq_true.1 hcalm ok hmem
            have hd : ∀ t, ok.dst = some t → t ∈ (unl all (listedOf all.size dn)).filterMap (·.dst) := fun t ht => List.mem_filterMap.2 ⟨ok, hmem, ht⟩
            have hfas : ∀ u, (isFA ok = true → Safe ρ b u) → FAs all (listedOf all.size dn) ρ b (L.setIfInBounds k true) (a.put ok.dst u) := by
              intro u hu k' ok' d v hk' hfa' hl0 hL hdst hv
              by_cases hkk : k = k'
              · subst hkk
                rw [hk] at hk'
                simp only [Option.some.injEq] at hk'
                subst hk'
                rw [hdst] at hv
                simp only [Act.put] at hv
                rw [Array.getElem?_setIfInBounds_self] at hv
                split at hv
                · simp only [Option.some.injEq] at hv
                  subst hv
                  exact hu hfa'
                · cases hv
              · rw [getD_set_ne false hkk] at hL
                have hne := dstApart_spec hdis hk hk' (fun e => hkk e.symm) hun hl0 hdst
                refine h2 k' ok' d v hk' hfa' hl0 hL hdst ?_
                cases hod : ok.dst with
                | none => rw [hod] at hv; exact hv
                | some d' =>
                  rw [hod] at hv hne
                  simp only [Act.put] at hv
                  rw [Array.getElem?_setIfInBounds_ne (fun e => hne (by rw [e]))] at hv
                  exact hv
            refine ⟨⟨h1.over hd _, hfas undef fun _ => safe_undef ρ b, h3⟩, fun n w' hrun => ?_⟩
            obtain ⟨u, hu, hw', hsf⟩ := calm2_run hc hlen.symm hbl hi.mem.nodup h1 h2 h3 hk hrd hrun
            exact ⟨u, hu, h1.over hd _, hfas u hsf, hw'⟩
          · intro k ok d v hk _ hl0 hL
            rw [getD_both hl0] at hL
            cases hL
          · rw [cell_of_loc hi.mem hlb, hrc]
            rfl
          · intro i hi'
            have hlt : i < loc.length := by have : ρ.length = loc.length := hlen; omega
            exact ⟨_, _, _, hi.mem.cells i loc[i].1 loc[i].2 (List.getElem?_eq_getElem hlt)⟩
          · exact ih ρ _ w ⟨putS_ok hi.act hput, hi.mem⟩ hf
        · exact h
    · exact h
/-- A region that draws its order; what nothing turns is taken ahead. -/
theorem At.calmOrd (hF : Stable F) {j : Nat} (hF' : FewerK j F) {s : S} {all : Array Oper} {g : Nat} {dn : List Nat} (hpc : s.pc = .any all g dn) (f0 f n : Nat) (ts : List Nat) (k : Nat) (fr : Fr) (loc : Loc)
    (hl : (leaves2 P ntm f (calmA P ntm f0 ⟨.any all g dn, [], s.fr, s.loc⟩)).map (fun x => x.keep ts k) = List.replicate n ⟨.exit .normal, [], fr, loc⟩)
    (hsc : (scopedFr k fr && (scopedLoc k loc && Nat.ble j k)) = true) (h0 : At P Q N w0 ntm F ⟨.exit .normal, s.ks, fr, loc⟩) : At P Q N w0 ntm F s := by
  have h1 : At P (fun e a w => e = .normal ∧ Here1 N w0 ntm fr loc F a w) N w0 ntm F ⟨.any all g dn, [], s.fr, s.loc⟩ := by
    refine At.calmA0 (fun e a w h => h.1) f0 (At.leaves2_sound hF (fun e a w h => h.1) f fun x hx => ?_)
    have hx' : x.keep ts k ∈ (leaves2 P ntm f (calmA P ntm f0 ⟨.any all g dn, [], s.fr, s.loc⟩)).map (fun x => x.keep ts k) := List.mem_map.2 ⟨x, hx, rfl⟩
    rw [hl] at hx'
    have he := List.eq_of_mem_replicate hx'
    intro ρ a w hi hf
    simp only [Bool.and_eq_true] at hsc
    obtain ⟨pc, ks, fr1, loc1⟩ := x
    simp only [S.keep, S.mk.injEq] at he
    obtain ⟨rfl, rfl, e3, e4⟩ := he
    subst e3 e4
    exact ⟨rfl, _, hi.keep (s := ⟨.exit .normal, [], fr1, loc1⟩) ts k hsc.1 hsc.2.1, hF' _ _ _ (Nat.le_of_ble_eq_true hsc.2.2) hf⟩
  intro ρ a w hi hf
  rw [hpc]
  refine wpAny_mono2 (fun e a w h => ?_) _ _ _ _ (h1 ρ a w hi hf)
  obtain ⟨rfl, ρ', hi', hg⟩ := h
  exact h0 ρ' a w hi' hg
end
end Go.Sx
