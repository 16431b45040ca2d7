import Derived.Test.YtkjnbafdmjakgaaDoorBM
set_option linter.unusedSimpArgs false
set_option linter.unusedVariables false
/-! In a region that draws its order: an operation that looks at memory, taken ahead of those that leave what was there as it was. -/
namespace Go.Sx
open Go.RowKit
section
variable {P : Program} {Q : Exit → Act → World → Prop} {N : Nat} {w0 : World} {ntm : Nat} {F : List Nat → World → Prop}

theorem run_buildSlice_ok {t : TypeId} {len : Nat} {parts : Array (Nat × Value)} {v : Value} {w w' : World} (h : (Instr.buildSlice t len parts).run P w = .ok v w') : ∃ o, w' = w.alloc o := by
  unfold Instr.buildSlice at h
  cases hu : P.underlying t with
  | none => simp [underlying, hu, Result.andThen] at h
  | some d =>
    cases d
    case slice e =>
      cases hi : P.info? e with
      | none => simp [run_underlying hu, sizeOf, typeInfo, hi, Result.andThen] at h
      | some i =>
        simp only [Sem.run_bind, run_underlying hu, sizeOf, typeInfo, run_program, hi, Result.andThen_ok, Sem.run_pure] at h
        by_cases hbig : len * i.size > 2 ^ 24
        · rw [if_pos hbig] at h
          simp [Result.andThen] at h
        · rw [if_neg hbig] at h
          by_cases h0 : len * i.size = 0
          · rw [if_pos h0] at h
            simp only [Sem.run_bind, Sem.run_pure, Result.andThen_ok] at h
            split at h
            · simp [newRow, Result.andThen] at h
              exact ⟨_, h.2.symm⟩
            · simp [Result.andThen] at h
          · rw [if_neg h0] at h
            cases hz : i.zero with
            | none => simp [zeroValue, typeInfo, run_program, hi, hz, Result.andThen] at h
            | some z =>
              simp only [Sem.run_bind, zeroValue, typeInfo, run_program, hi, hz, Sem.run_pure, Result.andThen_ok] at h
              split at h
              · simp [newRow, Result.andThen] at h
                exact ⟨_, h.2.symm⟩
              · simp [Result.andThen] at h
    all_goals simp [run_underlying hu, Result.andThen] at h

/-- They hang on number i: each has an edge to it, or to another of them. -/
def hangs (all : Array Oper) (L : Array Bool) (i : Nat) (ds : List Nat) : Bool := ds.all fun k => !L.getD k true && (match all[k]? with
  | some o => o.after.toList.any fun e => Region.binds .any e && (Nat.beq e.on i || ds.contains e.on)
  | none => false)
def isBS (o : Oper) : Bool := match o.op with
  | .buildSlice .. => true
  | _ => false
theorem isBS_run {o : Oper} {a : Act} {w w' : World} {n : Go.Next} (h : isBS o = true) (hr : (execOp a.eval o).run P w = .ok n w') : ∃ v ob, n = .value v ∧ w' = w.alloc ob := by
  obtain ⟨dst, op, ty, pos, after, guard⟩ := o
  cases op <;> simp only [isBS] at h <;> try (cases h; done)
  rename_i t len parts
  simp only [execOp, Sem.run_bind] at hr
  generalize hq : (Instr.buildSlice t len (parts.map fun x => (x.1, a.eval x.2))).run P w = q at hr
  cases q with
  | halt x y => simp [Result.andThen] at hr
  | ok v y =>
    simp only [Result.andThen_ok, Sem.run_pure, Result.ok.injEq] at hr
    obtain ⟨rfl, rfl⟩ := hr
    obtain ⟨ob, rfl⟩ := run_buildSlice_ok hq
    exact ⟨v, ob, rfl, rfl⟩
/-- It leaves what was there as it was. -/
def benign (P : Program) (sub : Fr) (loc : Loc) (o : Oper) : Bool := isBS o || (pureOp P loc sub o.op).isSome
def okB (P : Program) (all : Array Oper) (L : Array Bool) (fr : Fr) (loc : Loc) (i : Nat) (ds : List Nat) : Bool :=
  hangs all L i ds && (List.range all.size).all fun k => Nat.beq k i || (L.getD k true || (ds.contains k || (match all[k]? with
    | some o => benign P (drops ((unl all L).filterMap (·.dst)) fr) loc o
    | none => true)))
theorem WInv.later {ρ : List Nat} {loc : Loc} {w w' : World} (h : WInv N w0 ρ loc w) (hb : Below w.heap.size w w') : WInv N w0 ρ loc w' :=
  ⟨h.below.trans ⟨hb.os, hb.tape, hb.output, hb.size, fun k hk => hb.block k (Nat.lt_of_lt_of_le hk h.hN)⟩, Nat.le_trans h.hN hb.size, h.len, h.nodup, fun b hm => ⟨(h.ge b hm).1, Nat.lt_of_lt_of_le (h.ge b hm).2 hb.size⟩, fun i c t hi => by
    have := h.cells i c t hi
    rw [hb.block _ (Array.getElem?_eq_some_iff.1 this).1]
    exact this⟩
/-- The slots that what is still to come does not write. -/
def restFr (s : S) : Fr := match s.pc with
  | .any all _ dn => drops ((unl all (listedOf all.size dn)).filterMap (·.dst)) s.fr
  | _ => []
def okS (P : Program) (s : S) (j : Nat) (ds : List Nat) : Bool := match s.pc with
  | .any all _ dn => okB P all (listedOf all.size dn) s.fr s.loc j ds
  | _ => false
theorem At.takeB {s : S} (hQ : ∀ e a w, Q e a w → e = .normal) (j : Nat) (o : Oper) (r : SV) (ds : List Nat) (ho : anyAt s j = some o) (hp : (anyPut ntm s j r).isSome = true)
    (hds : okS P s j ds = true)
    (hrun : ∀ ρ a w1 w, AInv ntm ρ (restFr s) a → WInv N w0 ρ s.loc w1 → F ρ w1 → Below w1.heap.size w1 w → (execOp a.eval o).run P w = .ok (.value (r.den ρ)) w) (h : At P Q N w0 ntm F (s.anyNext ntm j r)) : At P Q N w0 ntm F s := by
  obtain ⟨pc, ks, fr, loc⟩ := s
  unfold anyAt at ho
  simp only at ho
  split at ho
  · rename_i all g dn
    split at ho
    · rename_i o' ho'
      split at ho
      · rename_i hg hfs
        simp only [Option.some.injEq] at ho
        subst ho
        simp only [Bool.and_eq_true] at hfs
        unfold S.anyNext at h
        unfold anyPut at h hp
        simp only [ho'] at h hp
        simp only [restFr, okS] at hrun hds
        rcases hput : putS ntm fr o'.dst r with _ | fr'
        · rw [hput] at hp; cases hp
        · rw [hput] at h
          simp only [Option.map_some, Option.getD_some] at h
          simp only [okB, Bool.and_eq_true] at hds
          obtain ⟨hd1, hd2⟩ := hds
          intro ρ a w hi hf
          have hjr : j ∈ Region.ready .any all (listedOf all.size dn) := by simpa using hfs.2
          have hj0 := (mem_ready.1 hjr).1
          refine wpAny_firstL (v := r.den ρ) (fun L a w' => AInv ntm ρ (drops ((unl all (listedOf all.size dn)).filterMap (·.dst)) fr) a ∧ (∀ k, k = j ∨ k ∈ ds → L.getD k true = false) ∧ Below w.heap.size w w') hQ ho' (Region.noSelect_spec hfs.1.2) ?_ g _ a w (Region.free_spec ho' hfs.1.1) ?_ hjr (guardS_ok hi.act hg) ⟨hi.act.drops_ _, ?_, Below.refl _ _⟩ ?_
          · intro L a' w' ⟨h1, _, h3⟩
            exact hrun ρ a' w w' h1 hi.mem hf h3
          · intro k ok hk hkj hun L a' w' hrd ⟨h1, h2, h3⟩
            obtain ⟨hku, ok', hok', hall⟩ := mem_ready.1 hrd
            rw [hk] at hok'
            simp only [Option.some.injEq] at hok'
            subst hok'
            have hnds : k ∉ ds := by
              intro hm
              have h4 := List.all_eq_true.1 hd1 k hm
              rw [hk] at h4
              simp only [Bool.and_eq_true] at h4
              obtain ⟨e, he, heb⟩ := List.any_eq_true.1 h4.2
              simp only [Bool.and_eq_true, Bool.or_eq_true] at heb
              have h5 := hall e (by simpa using he) heb.1
              have h6 := h2 e.on (by
                rcases heb.2 with h7 | h7
                · exact .inl (Nat.eq_of_beq_eq_true h7)
                · exact .inr (List.contains_iff_mem.1 h7))
              rw [getD_both h6] at h5
              cases h5
            have hL : ∀ k', k' = j ∨ k' ∈ ds → (L.setIfInBounds k true).getD k' true = false := fun k' hk' => by
              rw [getD_set_ne true (fun e => by
                subst e
                rcases hk' with h7 | h7
                · exact hkj h7
                · exact hnds h7)]
              exact h2 k' hk'
            have hmem := mem_unl hk hun
            have hd : ∀ t, ok.dst = some t → t ∈ (unl all (listedOf all.size dn)).filterMap (·.dst) := fun t ht => List.mem_filterMap.2 ⟨ok, hmem, ht⟩
            refine ⟨⟨h1.over hd _, hL, h3⟩, fun n w'' hr => ?_⟩
            have hb := List.all_eq_true.1 hd2 k (List.mem_range.2 (Array.getElem?_eq_some_iff.1 hk).1)
            rw [hk, hun] at hb
            simp only [Bool.or_eq_true, Bool.false_or] at hb
            have hb : benign P (drops ((unl all (listedOf all.size dn)).filterMap (·.dst)) fr) loc ok = true := by
              rcases hb with h7 | h7 | h7
              · exact absurd (Nat.eq_of_beq_eq_true h7) hkj
              · exact absurd (List.contains_iff_mem.1 h7) hnds
              · exact h7
            simp only [benign, Bool.or_eq_true] at hb
            rcases hb with hb | hb
            · obtain ⟨v, ob, rfl, rfl⟩ := isBS_run hb hr
              exact ⟨v, .inl rfl, h1.over hd v, hL, h3.alloc h3.size ob⟩
            · obtain ⟨x, hx⟩ := Option.isSome_iff_exists.1 hb
              rw [run_pureOp (N := N) (w0 := w0) h1 (fun _ => hi.mem.later h3) hx] at hr
              simp only [Result.ok.injEq] at hr
              obtain ⟨rfl, rfl⟩ := hr
              exact ⟨_, .inl rfl, h1.over hd _, hL, h3⟩
          · intro k hk
            rcases hk with rfl | hk
            · exact hj0
            · have h4 := List.all_eq_true.1 hd1 k hk
              simp only [Bool.and_eq_true, Bool.not_eq_true'] at h4
              exact h4.1
          · exact h ρ _ w ⟨putS_ok hi.act hput, hi.mem⟩ hf
      · cases ho
    · cases ho
  · cases ho
/-- A load of a local block, so. -/
theorem At.takeLoad {s : S} (hQ : ∀ e a w, Q e a w → e = .normal) (j : Nat) (r : SV) (ds : List Nat) (hq : ((anyAt s j).bind fun o => pureOp P s.loc (restFr s) o.op) = some r) (hp : (anyPut ntm s j r).isSome = true) (hds : okS P s j ds = true)
    (h : At P Q N w0 ntm F (s.anyNext ntm j r)) : At P Q N w0 ntm F s := by
  obtain ⟨o, ho, hr⟩ := Option.bind_eq_some_iff.1 hq
  exact At.takeB hQ j o r ds ho hp hds (fun ρ a w1 w ha hw _ hb => run_pureOp ha (fun _ => hw.later hb) hr) h
/-- A look into a map, so. -/
theorem At.takeLk {s : S} (hQ : ∀ e a w, Q e a w → e = .normal) (j : Nat) (x : SV) (ds : List Nat) (m : Nat) (sk : SV) (z : Value) (k : ByteArray) (es : Array MapEntry) (clk : Nat) (r : Option (Nat × Value))
    (hq : ((anyAt s j).bind fun o => lkQ P (restFr s) o) = some (m, sk, z)) (hp : (anyPut ntm s j x).isSome = true) (hds : okS P s j ds = true)
    (hk : ∀ ρ, sk.den ρ = .string k) (hr : Instr.findNow .string (.string k) es.toList 0 = some r) (hx : ∀ ρ, x.den ρ = (r.map (·.2)).getD z) (hm : ∀ ρ w, F ρ w → MapF m es clk ρ w) (h : At P Q N w0 ntm F (s.anyNext ntm j x)) : At P Q N w0 ntm F s := by
  obtain ⟨o, ho, hl⟩ := Option.bind_eq_some_iff.1 hq
  refine At.takeB hQ j o x ds ho hp hds (fun ρ a w1 w ha hw hf hb => ?_) h
  obtain ⟨h1, h2⟩ := hm ρ w1 hf
  rw [hx]
  exact run_lkQ ha hl (hk ρ) ((hb.block m (Array.getElem?_eq_some_iff.1 h1).1).trans h1) hr
end
end Go.Sx
