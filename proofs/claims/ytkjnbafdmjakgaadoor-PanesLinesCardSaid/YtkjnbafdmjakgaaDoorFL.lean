import Derived.Test.YtkjnbafdmjakgaaDoorSxDD
set_option linter.unusedSimpArgs false
set_option linter.unusedVariables false
namespace Go.Sx
open Go.RowKit
section
variable {P : Program} {ops : Array Oper} {md : Region.Mode} {Q : Exit → Act → World → Prop}

/-- An operation whose value the others cannot turn may be taken first. -/
theorem wpAny_firstJ (J : Act → World → Prop) (hQ : ∀ e a w, Q e a w → e = .normal) {i : Nat} {oi : Oper} {v : Value} (hi : ops[i]? = some oi) (hsel : ∀ (j : Nat) (o : Oper) cs b, ops[j]? = some o → o.op ≠ .select cs b)
    (hv : ∀ a w, J a w → (execOp a.eval oi).run P w = .ok (.value v) w) :
    ∀ (f : Nat) (listed : Array Bool) (a : Act) (w : World),
      (∀ j oj, ops[j]? = some oj → j ≠ i → listed.getD j true = false → (∀ e ∈ oj.after, Region.binds md e = true → e.on ≠ i) → oi.apart ops oj = true) →
      (∀ j oj, ops[j]? = some oj → j ≠ i → listed.getD j true = false → ∀ a w, J a w → J (a.put oj.dst undef) w ∧ ∀ n w', (execOp a.eval oj).run P w = .ok n w' → ∃ u, (n = .value u ∨ (n = .skip ∧ u = undef)) ∧ J (a.put oj.dst u) w') →
      i ∈ Region.ready md ops listed → Region.wanted oi (yielded ops a.tmps) = true → J a w →
      wpAny P md ops Q f (listed.setIfInBounds i true) (a.put oi.dst v) w → wpAny P md ops Q (f + 1) listed a w := by
  intro f
  induction f with
  | zero =>
    intro listed a w _ _ hr hw hJ H
    refine ⟨fun h => (by rw [h] at hr; cases hr), fun j hj => ?_⟩
    by_cases hji : j = i
    · subst hji
      unfold wpOp
      simp only [hi, hw, if_true]
      refine .inl ?_
      unfold Oper.wp
      rw [hv a w hJ]
      exact H
    · have := ready_mono hj hji
      rw [H.1] at this
      cases this
  | succ f ih =>
    intro listed a w hfree hst hr hw hJ H
    refine ⟨fun h => (by rw [h] at hr; cases hr), fun j hj => ?_⟩
    by_cases hji : j = i
    · subst hji
      unfold wpOp
      simp only [hi, hw, if_true]
      refine .inl ?_
      unfold Oper.wp
      rw [hv a w hJ]
      exact H
    · have h1 := H.2 j (ready_mono hj hji)
      obtain ⟨hjun, oj, hoj, hall⟩ := mem_ready.1 hj
      have hnot : ∀ e ∈ oj.after, Region.binds md e = true → e.on ≠ i := fun e he hb heq => by
        have h1 := hall e he hb
        rw [heq, getD_both (mem_ready.1 hr).1] at h1
        cases h1
      have hap := hfree j oj hoj hji hjun hnot
      have h2 := wpOp_put hQ hoj hap (fun cs b => hsel j oj cs b hoj) h1
      obtain ⟨a1, a2, a3⟩ := Oper.apart_spec hap
      obtain ⟨hsk, hrun⟩ := hst j oj hoj hji hjun a w hJ
      unfold wpOp at h2 ⊢
      simp only [hoj] at h2 ⊢
      have step : ∀ (u : Value) (w' : World), J (a.put oj.dst u) w' → wpAny P md ops Q f ((listed.setIfInBounds i true).setIfInBounds j true) ((a.put oj.dst u).put oi.dst v) w' → wpAny P md ops Q (f + 1) (listed.setIfInBounds j true) (a.put oj.dst u) w' := by
        intro u w' hJ' hh
        refine ih (listed.setIfInBounds j true) (a.put oj.dst u) w' (fun k ok hk hki hun hno => ?_) (fun k ok hk hki hun => ?_) (ready_mono hr (Ne.symm hji)) ?_ hJ' ?_
        · refine hfree k ok hk hki ?_ hno
          by_cases hjk : j = k
          · subst hjk; exact hjun
          · rw [getD_set_ne true hjk] at hun; exact hun
        · refine hst k ok hk hki ?_
          by_cases hjk : j = k
          · subst hjk; exact hjun
          · rw [getD_set_ne true hjk] at hun; exact hun
        · rw [wanted_put oi a oj.dst u a3]; exact hw
        · rw [Array.setIfInBounds_comm _ _ hji]
          exact hh
      split
      · rename_i hwj
        rw [if_pos hwj] at h2
        rcases h2 with h2 | ⟨_, a', w', h'⟩
        · refine .inl ?_
          unfold Oper.wp at h2 ⊢
          generalize hrr : (execOp a.eval oj).run P w = r at *
          cases r with
          | ok n w' =>
            obtain ⟨u, hu, hJ'⟩ := hrun n w' rfl
            rcases hu with rfl | ⟨rfl, rfl⟩
            · simp only [Oper.upon] at h2 ⊢
              exact step u w' hJ' h2
            · simp only [Oper.upon] at h2 ⊢
              exact step undef w' hJ' h2
          | halt x w' =>
            cases x <;> simp only [Oper.upon] at h2 ⊢
            exact absurd (hQ _ _ _ h2) (by simp)
        · exact absurd (hQ _ _ _ h') (by simp)
      · rename_i hwj
        rw [if_neg hwj] at h2
        exact step undef w hsk h2

def drops (ds : List Nat) : Fr → Fr
  | [] => []
  | (k, s) :: l => if ds.contains k then drops ds l else (k, s) :: drops ds l
theorem look_drops {ds : List Nat} {t : Nat} {s : SV} : ∀ {fr : Fr}, look (drops ds fr) t = some s → look fr t = some s ∧ t ∉ ds
  | [], h => by cases h
  | (k, x) :: l, h => by
    simp only [drops] at h
    split at h
    · rename_i hk
      obtain ⟨h1, h2⟩ := look_drops h
      refine ⟨?_, h2⟩
      simp only [look]
      split
      · rename_i e
        have e := Nat.eq_of_beq_eq_true e
        subst e
        exact absurd (List.contains_iff_mem.1 hk) h2
      · exact h1
    · rename_i hk
      simp only [look] at h ⊢
      split at h
      · rename_i e
        have e := Nat.eq_of_beq_eq_true e
        subst e
        simp only [Option.some.injEq] at h
        subst h
        refine ⟨rfl, fun hm => hk (List.contains_iff_mem.2 hm)⟩
      · exact look_drops h
theorem AInv.drops_ {ntm : Nat} {ρ : List Nat} {fr : Fr} {a : Act} (h : AInv ntm ρ fr a) (ds : List Nat) : AInv ntm ρ (drops ds fr) a := ⟨h.defers, h.size, fun t s hs => h.slot t s (look_drops hs).1⟩
theorem AInv.over {ntm : Nat} {ρ : List Nat} {fr : Fr} {ds : List Nat} {a : Act} (h : AInv ntm ρ (drops ds fr) a) {d : Option Nat} (hd : ∀ t, d = some t → t ∈ ds) (u : Value) : AInv ntm ρ (drops ds fr) (a.put d u) := by
  cases d with
  | none => exact h
  | some d =>
    refine ⟨by simpa [Act.put] using h.defers, by simpa [Act.put] using h.size, fun t s hs => ?_⟩
    have hne : d ≠ t := fun e => (look_drops hs).2 (e ▸ hd d rfl)
    simp only [Act.put]
    rw [Array.getElem?_setIfInBounds_ne hne]
    exact h.slot t s hs
/-- The operations that are still to come. -/
def unl (all : Array Oper) (listed : Array Bool) : List Oper := (List.range all.size).filterMap fun j => match listed.getD j true with
  | true => none
  | false => all[j]?
theorem mem_unl {all : Array Oper} {listed : Array Bool} {j : Nat} {o : Oper} (h : all[j]? = some o) (hl : listed.getD j true = false) : o ∈ unl all listed := by
  refine List.mem_filterMap.2 ⟨j, List.mem_range.2 (Array.getElem?_eq_some_iff.1 h).1, ?_⟩
  rw [hl]
  exact h
def inB (loc : Loc) (i off : Nat) : Bool := match loc[i]? with
  | some (c, _) => Nat.blt off c.length
  | none => false
/-- Loads and stores of single cells of the local blocks; none writes to the one place. -/
def calmOp (P : Program) (sub : Fr) (loc : Loc) (b off : Nat) (o : Oper) : Bool := match o.op with
  | .load t y => match isAggT P t, evalS sub y with
    | some false, some (.lp i' o') => inB loc i' o'
    | _, _ => false
  | .store t y _ => match sizeT P t, evalS sub y with
    | some 1, some (.lp i' o') => inB loc i' o' && !(Nat.beq i' b && Nat.beq o' off)
    | _, _ => false
  | _ => false
def CellsAt (ρ : List Nat) (loc : Loc) (b off : Nat) (v : Value) (w : World) : Prop :=
  w.cell? ⟨nth ρ b, off, none⟩ = some v ∧ ∀ i c t o, loc[i]? = some (c, t) → o < c.length → (w.cell? ⟨nth ρ i, o, none⟩).isSome = true
theorem inB_some {loc : Loc} {i off : Nat} (h : inB loc i off = true) : ∃ c t, loc[i]? = some (c, t) ∧ off < c.length := by
  unfold inB at h
  split at h
  · rename_i c t hc
    exact ⟨c, t, hc, by have := h; simp [Nat.blt] at this; omega⟩
  · cases h
theorem nth_ne {ρ : List Nat} (hn : ρ.Nodup) {i j : Nat} (hi : i < ρ.length) (hj : j < ρ.length) (h : i ≠ j) : nth ρ i ≠ nth ρ j := fun e => by
  have e' : ρ[i] = ρ[j] := by simpa [nth, List.getD, hi, hj] using e
  exact h ((List.getElem_inj hn).1 e')
theorem calm_run {ntm : Nat} {ρ : List Nat} {sub : Fr} {loc : Loc} {b off : Nat} {v : Value} {o : Oper} {a : Act} {w : World} (hc : calmOp P sub loc b off o = true) (ha : AInv ntm ρ sub a) (hw : CellsAt ρ loc b off v w) (hlen : ρ.length = loc.length) (hb : b < loc.length) (hn : ρ.Nodup)
    {n : Go.Next} {w' : World} (hr : (execOp a.eval o).run P w = .ok n w') : ∃ u, (n = .value u ∨ (n = .skip ∧ u = undef)) ∧ CellsAt ρ loc b off v w' := by
  obtain ⟨dst, op, ty, pos, after, guard⟩ := o
  unfold calmOp at hc
  simp only at hc
  split at hc
  · rename_i t y
    split at hc
    · rename_i i' o' ht hy
      obtain ⟨c, tt, hl, ho⟩ := inB_some hc
      have hs := hw.2 i' c tt o' hl ho
      rcases hcell : w.cell? ⟨nth ρ i', o', none⟩ with _ | x
      · rw [hcell] at hs; cases hs
      · simp only [execOp, evalS_sound ha hy, SV.den, Instr.loadAt, Instr.sureAddr, loadVar, Sem.run_bind, Sem.run_pure, Result.andThen_ok, run_isAggT ht, Bool.false_eq_true, if_false, run_load, hcell] at hr
        simp only [Result.ok.injEq] at hr
        obtain ⟨rfl, rfl⟩ := hr
        exact ⟨x, .inl rfl, hw⟩
    · cases hc
  · rename_i t y z
    split at hc
    · rename_i i' o' ht hy
      simp only [Bool.and_eq_true] at hc
      obtain ⟨hc1, hc2⟩ := hc
      obtain ⟨c, tt, hl, ho⟩ := inB_some hc1
      have hs := hw.2 i' c tt o' hl ho
      rcases hcell : w.cell? ⟨nth ρ i', o', none⟩ with _ | x
      · rw [hcell] at hs; cases hs
      · simp only [execOp, evalS_sound ha hy, SV.den, Instr.storeAt, Instr.sureAddr, storeVar, Sem.run_bind, Sem.run_pure, Result.andThen_ok, run_sizeT ht] at hr
        generalize hz : (a.eval z).cells = cs at hr
        by_cases hsz : cs.size ≠ 1
        · rw [if_pos hsz] at hr
          simp [Result.andThen] at hr
        · rw [if_neg hsz] at hr
          have hsz : cs.size = 1 := Classical.not_not.1 hsz
          obtain ⟨u, hu⟩ : ∃ u, cs.toList = [u] := by
            have : cs.toList.length = 1 := by simpa using hsz
            match h : cs.toList, this with
            | [u], _ => exact ⟨u, rfl⟩
          rw [hu] at hr
          simp only [storeCells, Sem.run_bind, Sem.run_pure, Result.andThen_ok] at hr
          have hone : u.oneCell' = true ∨ u.oneCell' = false := by cases u.oneCell' <;> simp
          rcases hone with hone | hone
          · rw [run_store P w _ u .plain hone, add_ok, Nat.add_zero, hcell] at hr
            simp only at hr
            split at hr
            · simp [Result.andThen] at hr
            · simp only [Result.andThen_ok, Sem.run_pure, Result.ok.injEq] at hr
              obtain ⟨rfl, rfl⟩ := hr
              refine ⟨undef, .inr ⟨rfl, rfl⟩, ?_, fun i c' t' o hl' ho' => ?_⟩
              · rw [World.cell?_setCell_other _ _ _ _ ?_]
                · exact hw.1
                · intro e
                  have e1 : nth ρ i' = nth ρ b := by injection e
                  have e2 : o' = off := by injection e
                  by_cases hbi : b = i'
                  · subst hbi e2
                    simp at hc2
                  · exact nth_ne hn (by omega) (by rw [hlen]; exact (List.getElem?_eq_some_iff.1 hl).1) hbi e1.symm
              · by_cases he : (⟨nth ρ i, o, none⟩ : Addr) = ⟨nth ρ i', o', none⟩
                · rw [he, World.cell?_setCell_same' _ _ _ (by rw [hcell]; rfl)]
                  rfl
                · rw [World.cell?_setCell_other _ _ _ _ fun e => he e.symm]
                  exact hw.2 i c' t' o hl' ho'
          · exfalso
            cases u <;> simp [Value.oneCell'] at hone <;> simp [store, Sem.run, Result.andThen] at hr
    · cases hc
  · cases hc

variable {N : Nat} {w0 : World} {ntm : Nat} {F : List Nat → World → Prop}
/-- A load that may be taken ahead of all else. -/
def pickL (P : Program) (ntm : Nat) (all : Array Oper) (listed : Array Bool) (fr : Fr) (loc : Loc) : List Nat → Option (Nat × Fr)
  | [] => none
  | j :: js => match all[j]? with
    | some o => match o.op with
      | .load t y => match isAggT P t, evalS (drops ((unl all listed).filterMap (·.dst)) fr) y with
        | some false, some (.lp b off) => match (loc[b]?).bind (·.1[off]?) with
          | some r => match guardS all fr o, Region.free .any all listed j && (Region.noSelect all && (unl all listed).all (calmOp P (drops ((unl all listed).filterMap (·.dst)) fr) loc b off)) with
            | some true, true => match putS ntm fr o.dst r with
              | some fr' => some (j, fr')
              | none => pickL P ntm all listed fr loc js
            | _, _ => pickL P ntm all listed fr loc js
          | none => pickL P ntm all listed fr loc js
        | _, _ => pickL P ntm all listed fr loc js
      | _ => pickL P ntm all listed fr loc js
    | none => pickL P ntm all listed fr loc js
theorem pickL_spec {all : Array Oper} {listed : Array Bool} {fr fr' : Fr} {loc : Loc} {j : Nat} : ∀ {js : List Nat}, pickL P ntm all listed fr loc js = some (j, fr') →
    j ∈ js ∧ ∃ o t y b off r, all[j]? = some o ∧ o.op = .load t y ∧ isAggT P t = some false ∧ evalS (drops ((unl all listed).filterMap (·.dst)) fr) y = some (.lp b off) ∧ (loc[b]?).bind (·.1[off]?) = some r ∧ guardS all fr o = some true ∧
      Region.free .any all listed j = true ∧ Region.noSelect all = true ∧ (unl all listed).all (calmOp P (drops ((unl all listed).filterMap (·.dst)) fr) loc b off) = true ∧ putS ntm fr o.dst r = some fr'
  | [], h => by cases h
  | k :: js, h => by
    have more := fun h' : pickL P ntm all listed fr loc js = some (j, fr') => pickL_spec h'
    unfold pickL at h
    split at h
    · rename_i o ho
      split at h
      · rename_i t y hop
        split at h
        · rename_i b off ht hy
          split at h
          · rename_i r hr
            split at h
            · rename_i hg hf
              simp only [Bool.and_eq_true] at hf
              split at h
              · rename_i fr1 hp
                simp only [Option.some.injEq, Prod.mk.injEq] at h
                obtain ⟨rfl, rfl⟩ := h
                exact ⟨List.mem_cons_self, o, t, y, b, off, r, ho, hop, ht, hy, hr, hg, hf.1, hf.2.1, hf.2.2, hp⟩
              · exact ⟨List.mem_cons_of_mem _ (more h).1, (more h).2⟩
            · exact ⟨List.mem_cons_of_mem _ (more h).1, (more h).2⟩
          · exact ⟨List.mem_cons_of_mem _ (more h).1, (more h).2⟩
        · exact ⟨List.mem_cons_of_mem _ (more h).1, (more h).2⟩
      · exact ⟨List.mem_cons_of_mem _ (more h).1, (more h).2⟩
    · exact ⟨List.mem_cons_of_mem _ (more h).1, (more h).2⟩
/-- What looks at no memory, and loads of what nothing turns, are taken, one after the other. -/
def calmly (P : Program) (ntm : Nat) : Nat → S → S
  | 0, s => s
  | f + 1, s => match s.pc, s.ks with
    | .any all (g + 1) dn, [] => match pick P ntm all (listedOf all.size dn) s.fr (Region.ready .any all (listedOf all.size dn)) with
      | some (j, fr') => calmly P ntm f ⟨.any all g (j :: dn), [], fr', s.loc⟩
      | none => match pickL P ntm all (listedOf all.size dn) s.fr s.loc (Region.ready .any all (listedOf all.size dn)) with
        | some (j, fr') => calmly P ntm f ⟨.any all g (j :: dn), [], fr', s.loc⟩
        | none => s
    | _, _ => s
theorem At.calmly0 (hQ : ∀ e a w, Q e a w → e = .normal) : ∀ (f : Nat) {s : S}, At P Q N w0 ntm F (calmly P ntm f s) → At P Q N w0 ntm F s
  | 0, s, h => h
  | f + 1, s, h => by
    obtain ⟨pc, ks, fr, loc⟩ := s
    unfold calmly at h
    simp only at h
    split at h
    · rename_i all g dn
      split at h
      · rename_i j fr' hp
        obtain ⟨hj, o, r, ho, hg, hfs, ha, hput⟩ := pick_spec hp
        simp only [Bool.and_eq_true] at hfs
        have ih := At.calmly0 hQ f h
        intro ρ a w hi hf
        refine wpAny_first hQ ho (Region.noSelect_spec hfs.2) g _ a w (Region.free_spec ho hfs.1) hj (guardS_ok hi.act hg) (run_addrOp hi.act ha) ?_
        exact ih ρ _ w ⟨putS_ok hi.act hput, hi.mem⟩ hf
      · split at h
        · rename_i j fr' hp
          obtain ⟨hj, o, t, y, b, off, r, ho, hop, ht, hy, hr, hg, hfree, hsel, hcalm, hput⟩ := pickL_spec hp
          have ih := At.calmly0 hQ f h
          intro ρ a w hi hf
          obtain ⟨⟨c, tt⟩, hlb, hrc⟩ := Option.bind_eq_some_iff.1 hr
          have hbl : b < loc.length := (List.getElem?_eq_some_iff.1 hlb).1
          refine wpAny_firstJ (v := r.den ρ) (fun a w => AInv ntm ρ (drops ((unl all (listedOf all.size dn)).filterMap (·.dst)) fr) a ∧ CellsAt ρ loc b off (r.den ρ) w) hQ ho (Region.noSelect_spec hsel) ?_ g _ a w (Region.free_spec ho hfree) ?_ hj (guardS_ok hi.act hg) ⟨hi.act.drops_ _, ?_, ?_⟩ ?_
          · intro a w ⟨h1, h2⟩
            obtain ⟨dst, op, ty, pos, after, guard⟩ := o
            simp only at hop
            subst hop
            simp [execOp, evalS_sound h1 hy, SV.den, Instr.loadAt, Instr.sureAddr, loadVar, run_isAggT ht, h2.1]
          · intro k ok hk hki hun a w ⟨h1, h2⟩
            have hmem := mem_unl hk hun
            have hc := List.all_eq_true.1 hcalm ok hmem
            have hd : ∀ t, ok.dst = some t → t ∈ (unl all (listedOf all.size dn)).filterMap (·.dst) := fun t ht => List.mem_filterMap.2 ⟨ok, hmem, ht⟩
            refine ⟨⟨h1.over hd _, h2⟩, fun n w' hrun => ?_⟩
            obtain ⟨u, hu, hw'⟩ := calm_run hc h1 h2 hi.mem.len hbl hi.mem.nodup hrun
            exact ⟨u, hu, h1.over hd _, hw'⟩
          · rw [cell_of_loc hi.mem hlb, hrc]
            rfl
          · intro i c' t' o' hl' ho'
            rw [cell_of_loc hi.mem hl', List.getElem?_eq_getElem ho']
            rfl
          · exact ih ρ _ w ⟨putS_ok hi.act hput, hi.mem⟩ hf
        · exact h
    · exact h
/-- A region that draws its order; what nothing turns is taken ahead. -/
theorem At.calmOrder (hF : Stable F) {j : Nat} (hF' : FewerK j F) {s : S} {all : Array Oper} {g : Nat} {dn : List Nat} (hpc : s.pc = .any all g dn) (f0 f n : Nat) (ts : List Nat) (k : Nat) (fr : Fr) (loc : Loc)
    (hl : (leaves2 P ntm f (calmly P ntm f0 ⟨.any all g dn, [], s.fr, s.loc⟩)).map (fun x => x.keep ts k) = List.replicate n ⟨.exit .normal, [], fr, loc⟩)
    (hsc : (scopedFr k fr && (scopedLoc k loc && Nat.ble j k)) = true) (h0 : At P Q N w0 ntm F ⟨.exit .normal, s.ks, fr, loc⟩) : At P Q N w0 ntm F s := by
  have h1 : At P (fun e a w => e = .normal ∧ Here1 N w0 ntm fr loc F a w) N w0 ntm F ⟨.any all g dn, [], s.fr, s.loc⟩ := by
    refine At.calmly0 (fun e a w h => h.1) f0 (At.leaves2_sound hF (fun e a w h => h.1) f fun x hx => ?_)
    have hx' : x.keep ts k ∈ (leaves2 P ntm f (calmly P ntm f0 ⟨.any all g dn, [], s.fr, s.loc⟩)).map (fun x => x.keep ts k) := List.mem_map.2 ⟨x, hx, rfl⟩
    rw [hl] at hx'
    have he := List.eq_of_mem_replicate hx'
    intro ρ a w hi hf
    simp only [Bool.and_eq_true] at hsc
    obtain ⟨pc, ks, fr1, loc1⟩ := x
    simp only [S.keep, S.mk.injEq] at he
    obtain ⟨rfl, rfl, e3, e4⟩ := he
    subst e3 e4
    exact ⟨rfl, _, hi.keep (s := ⟨.exit .normal, [], fr1, loc1⟩) ts k hsc.1 hsc.2.1, hF' _ _ _ (Nat.le_of_ble_eq_true hsc.2.2) hf⟩
  intro ρ a w hi hf
  rw [hpc]
  refine wpAny_mono2 (fun e a w h => ?_) _ _ _ _ (h1 ρ a w hi hf)
  obtain ⟨rfl, ρ', hi', hg⟩ := h
  exact h0 ρ' a w hi' hg
end
end Go.Sx
