/- Joined texts: AG, SE, BK. -/
import Derived.Test.YthfpekhpeiebjaaGreatDoorRAN
import Derived.Test.YthfpekhpeiebjaaGreatDoorRAD
set_option linter.unusedSimpArgs false
set_option linter.unusedVariables false
section
/-! In a region that draws its order: a look at local blocks taken ahead of two appends (the second one to the first one's row), and of allocations. -/
namespace Go.Sx
open Go.RowKit
section
variable {P : Program} {Q : Exit → Act → World → Prop} {N : Nat} {w0 : World} {ntm : Nat} {F : List Nat → World → Prop}
def alP (P : Program) (o : Oper) : Bool := match o.op with
 | .alloc t => match P.info? t with
  | some i => i.zero.isSome
  | none => false
 | _ => false
theorem alP_run {o : Oper} {a : Act} {w w' : World} {n : Go.Next} (h : alP P o = true) (hr : (execOp a.eval o).run P w = .ok n w') : ∃ v ob, n = .value v ∧ w' = w.alloc ob := by
 obtain ⟨dst, op, ty, pos, after, guard⟩ := o
 cases op <;> simp only [alP] at h <;> try (cases h; done)
 rename_i t
 cases hi : P.info? t with
 | none => rw [hi] at h; cases h
 | some i =>
  rw [hi] at h
  obtain ⟨z, hz⟩ := Option.isSome_iff_exists.1 h
  simp only [execOp, Instr.alloc, zeroValue, typeInfo, run_program, hi, hz, newVar, newRow, Sem.run_bind, Sem.run_pure, Result.andThen_ok, run_newObj] at hr
  simp only [Result.ok.injEq] at hr
  exact ⟨_, _, hr.1.symm, hr.2.symm⟩
def bnA (P : Program) (sub : Fr) (loc : Loc) (o : Oper) : Bool := benign P sub loc o || alP P o
def okBA (P : Program) (all : Array Oper) (L : Array Bool) (fr : Fr) (loc : Loc) (i : Nat) (ds : List Nat) : Bool :=
 hangs all L i ds && (List.range all.size).all fun k => Nat.beq k i || (L.getD k true || (ds.contains k || (match all[k]? with
  | some o => bnA P (drops ((unl all L).filterMap (·.dst)) fr) loc o
  | none => true)))
def okSA (P : Program) (s : S) (j : Nat) (ds : List Nat) : Bool := match s.pc with
 | .any all _ dn => okBA P all (listedOf all.size dn) s.fr s.loc j ds
 | _ => false
/-- As At.takeB, with allocations among what is still to come. -/
theorem At.takeBA {s : S} (hQ : ∀ e a w, Q e a w → e = .normal) (j : Nat) (o : Oper) (r : SV) (ds : List Nat) (ho : anyAt s j = some o) (hp : (anyPut ntm s j r).isSome = true)
  (hds : okSA P s j ds = true)
  (hrun : ∀ ρ a w1 w, AInv ntm ρ (restFr s) a → WInv N w0 ρ s.loc w1 → F ρ w1 → Below w1.heap.size w1 w → (execOp a.eval o).run P w = .ok (.value (r.den ρ)) w) (h : At P Q N w0 ntm F (s.anyNext ntm j r)) : At P Q N w0 ntm F s := by
 obtain ⟨pc, ks, fr, loc⟩ := s
 unfold anyAt at ho
 simp only at ho
 split at ho
 ·rename_i all g dn
  split at ho
  ·rename_i o' ho'
   split at ho
   ·rename_i hg hfs
    simp only [Option.some.injEq] at ho
    subst ho
    simp only [Bool.and_eq_true] at hfs
    unfold S.anyNext at h
    unfold anyPut at h hp
    simp only [ho'] at h hp
    simp only [restFr, okSA] at hrun hds
    rcases hput : putS ntm fr o'.dst r with _ | fr'
    ·rw [hput] at hp; cases hp
    ·rw [hput] at h
     simp only [Option.map_some, Option.getD_some] at h
     simp only [okBA, Bool.and_eq_true] at hds
     obtain ⟨hd1, hd2⟩ := hds
     intro ρ a w hi hf
     have hjr : j ∈ Region.ready .any all (listedOf all.size dn) := by simpa using hfs.2
     have hj0 := (mem_ready.1 hjr).1
     refine wpAny_firstL (v := r.den ρ) (fun L a w' => AInv ntm ρ (drops ((unl all (listedOf all.size dn)).filterMap (·.dst)) fr) a ∧ (∀ k, k = j ∨ k ∈ ds → L.getD k true = false) ∧ Below w.heap.size w w') hQ ho' (Region.noSelect_spec hfs.1.2) ?_ g _ a w (Region.free_spec ho' hfs.1.1) ?_ hjr (guardS_ok hi.act hg) ⟨hi.act.drops_ _, ?_, Below.refl _ _⟩ ?_
     ·intro L a' w' ⟨h1, _, h3⟩
      exact hrun ρ a' w w' h1 hi.mem hf h3
     ·intro k ok hk hkj hun L a' w' hrd ⟨h1, h2, h3⟩
      obtain ⟨hku, ok', hok', hall⟩ := mem_ready.1 hrd
      rw [hk] at hok'
      simp only [Option.some.injEq] at hok'
      subst hok'
      have hnds : k ∉ ds := by
       intro hm
       have h4 := List.all_eq_true.1 hd1 k hm
       rw [hk] at h4
       simp only [Bool.and_eq_true] at h4
       obtain ⟨e, he, heb⟩ := List.any_eq_true.1 h4.2
       simp only [Bool.and_eq_true, Bool.or_eq_true] at heb
       have h5 := hall e (by simpa using he) heb.1
       have h6 := h2 e.on (by
        rcases heb.2 with h7 | h7
        ·exact .inl (Nat.eq_of_beq_eq_true h7)
        ·exact .inr (List.contains_iff_mem.1 h7))
       rw [getD_both h6] at h5
       cases h5
      have hL : ∀ k', k' = j ∨ k' ∈ ds → (L.setIfInBounds k true).getD k' true = false := fun k' hk' => by
       rw [getD_set_ne true (fun e => by
        subst e
        rcases hk' with h7 | h7
        ·exact hkj h7
        ·exact hnds h7)]
       exact h2 k' hk'
      have hmem := mem_unl hk hun
      have hd : ∀ t, ok.dst = some t → t ∈ (unl all (listedOf all.size dn)).filterMap (·.dst) := fun t ht => List.mem_filterMap.2 ⟨ok, hmem, ht⟩
      refine ⟨⟨h1.over hd _, hL, h3⟩, fun n w'' hr => ?_⟩
      have hb := List.all_eq_true.1 hd2 k (List.mem_range.2 (Array.getElem?_eq_some_iff.1 hk).1)
      rw [hk, hun] at hb
      simp only [Bool.or_eq_true, Bool.false_or] at hb
      have hb : bnA P (drops ((unl all (listedOf all.size dn)).filterMap (·.dst)) fr) loc ok = true := by
       rcases hb with h7 | h7 | h7
       ·exact absurd (Nat.eq_of_beq_eq_true h7) hkj
       ·exact absurd (List.contains_iff_mem.1 h7) hnds
       ·exact h7
      simp only [bnA, benign, Bool.or_eq_true] at hb
      rcases hb with (hb | hb) | hb
      ·obtain ⟨v, ob, rfl, rfl⟩ := isBS_run hb hr
       exact ⟨v, .inl rfl, h1.over hd v, hL, h3.alloc h3.size ob⟩
      ·obtain ⟨x, hx⟩ := Option.isSome_iff_exists.1 hb
       rw [run_pureOp (N := N) (w0 := w0) h1 (fun _ => hi.mem.later h3) hx] at hr
       simp only [Result.ok.injEq] at hr
       obtain ⟨rfl, rfl⟩ := hr
       exact ⟨_, .inl rfl, h1.over hd _, hL, h3⟩
      ·obtain ⟨v, ob, rfl, rfl⟩ := alP_run hb hr
       exact ⟨v, .inl rfl, h1.over hd v, hL, h3.alloc h3.size ob⟩
     ·intro k hk
      rcases hk with rfl | hk
      ·exact hj0
      ·have h4 := List.all_eq_true.1 hd1 k hk
       simp only [Bool.and_eq_true, Bool.not_eq_true'] at h4
       exact h4.1
     ·exact h ρ _ w ⟨putS_ok hi.act hput, hi.mem⟩ hf
   ·cases ho
  ·cases ho
 ·cases ho
/-- A load of a local block, so. -/
theorem At.takeLoadA {s : S} (hQ : ∀ e a w, Q e a w → e = .normal) (j : Nat) (r : SV) (ds : List Nat) (hq : ((anyAt s j).bind fun o => pureOp P s.loc (restFr s) o.op) = some r) (hp : (anyPut ntm s j r).isSome = true) (hds : okSA P s j ds = true)
  (h : At P Q N w0 ntm F (s.anyNext ntm j r)) : At P Q N w0 ntm F s := by
 obtain ⟨o, ho, hr⟩ := Option.bind_eq_some_iff.1 hq
 exact At.takeBA hQ j o r ds ho hp hds (fun ρ a w1 w ha hw _ hb => run_pureOp ha (fun _ => hw.later hb) hr) h
def bn2 (P : Program) (sub : Fr) (loc : Loc) (t1 : Nat) (o : Oper) : Bool := (benign P sub loc o || alP P o) && (match o.dst with
 | some d => !Nat.beq d t1
 | none => true)
theorem bn2_run {sub : Fr} {loc : Loc} {t1 : Nat} {o : Oper} {a : Act} {w w' : World} {n : Go.Next} {ρ : List Nat} {N : Nat} {w0 : World} (ha : AInv ntm ρ sub a) (hw : WInv N w0 ρ loc w) (h : bn2 P sub loc t1 o = true) (hr : (execOp a.eval o).run P w = .ok n w') : ∃ v, n = .value v ∧ Below w.heap.size w w' := by
 simp only [bn2, benign, Bool.and_eq_true, Bool.or_eq_true] at h
 rcases h.1 with (h1 | h1) | h1
 ·obtain ⟨v, ob, rfl, rfl⟩ := isBS_run h1 hr
  exact ⟨v, rfl, (Below.refl _ _).alloc (Nat.le_refl _) ob⟩
 ·obtain ⟨x, hx⟩ := Option.isSome_iff_exists.1 h1
  rw [run_pureOp (N := N) (w0 := w0) ha (fun _ => hw) hx] at hr
  simp only [Result.ok.injEq] at hr
  obtain ⟨rfl, rfl⟩ := hr
  exact ⟨_, rfl, Below.refl _ _⟩
 ·obtain ⟨v, ob, rfl, rfl⟩ := alP_run h1 hr
  exact ⟨v, rfl, (Below.refl _ _).alloc (Nat.le_refl _) ob⟩
def okA (P : Program) (s : S) (j : Nat) (ds : List Nat) (k1 k2 t1 : Nat) : Bool := match s.pc with
 | .any all _ dn => hangs all (listedOf all.size dn) j ds && (List.range all.size).all fun k => Nat.beq k j || ((listedOf all.size dn).getD k true || (ds.contains k || (Nat.beq k k1 || (Nat.beq k k2 || (match all[k]? with
  | some o => bn2 P (restFr s) s.loc t1 o
  | none => true)))))
 | _ => false
/-- An append among what is still to come: its number of slot, and what it puts together. -/
def apAt (s : S) (k : Nat) (fr : Fr) : Option (Nat × TypeId × SV × SV) := match s.pc with
 | .any all _ dn => match all[k]? with
  | some o => match o.dst, o.guard, (listedOf all.size dn).getD k true with
   | some d, none, false => (appS fr o).map fun (t, x, y) => (d, t, x, y)
   | _, _, _ => none
  | none => none
 | _ => none
def edge (s : S) (k2 k1 : Nat) : Bool := match s.pc with
 | .any all _ dn => match all[k2]? with
  | some o => (onsOf o).contains k1
  | none => false
 | _ => false
theorem cell_belowA {w0 w : World} {a : Addr} {v : Value} (h : w0.cell? a = some v) (hb : Below w0.heap.size w0 w) : w.cell? a = some v := by
 have hlt : a.block < w0.heap.size := by
  rcases Nat.lt_or_ge a.block w0.heap.size with h' | h'
  ·exact h'
  ·unfold World.cell? at h
   rw [Array.getElem?_eq_none h'] at h; cases h
 unfold World.cell? at h ⊢
 rw [hb.block _ hlt]
 exact h
theorem run_append_undef (t ty : TypeId) (x : Value) (w w' : World) (v : Value) (h : (Builtin.append_ #[t, t] ty #[undef, x]).run P w = .ok v w') : False := by
 unfold Builtin.append_ at h
 cases hu : P.underlying t with
 | none => simp [underlying, hu, Result.andThen] at h
 | some d => cases d <;> simp [run_underlying hu, undef, Result.andThen] at h
theorem run_app_any {t ty e size bytes : Nat} (ht : elemT P t = some (e, size, bytes)) {S : Nat} {A : Option Addr} {n c : Nat} {xs : List Value} {w : World} (h : Row S e size A n c xs [] w) (hS : S ≤ w.heap.size) (B : Option Addr) (m k : Nat) (news : List Value) (hl : news.length = m * size) (hn : B = none → m = 0) (hsrc : ∀ b, B = some b → Src w b news) (h1 : ∀ u ∈ news, u.oneCell' = true)
  (hbytes : (n + m) * bytes ≤ 140737488355328) (h63 : n + m ≤ maxLen) : ∃ A' c' w', (Builtin.append_ #[t, t] ty #[.slice A n c, .slice B m k]).run P w = .ok (.slice A' (n + m) c') w' ∧ Row S e size A' (n + m) c' (xs ++ news) [] w' ∧ Below S w w' := by
 cases B with
 | some b =>
  obtain ⟨A', c', w', r1, r2, r3, r4⟩ := run_append_row (P := P) (ty := ty) ht h hS (fun b hb => by cases hb) b m k news hl (hsrc b rfl) h1 hbytes h63
  exact ⟨A', c', w', r1, r2, (Below.refl S w).grown r3 hS fun k hk => (h.1.lt k hk).1⟩
 | none =>
  obtain rfl := hn rfl
  have hnil : news = [] := List.eq_nil_of_length_eq_zero (by rw [hl, Nat.zero_mul])
  subst hnil
  refine ⟨A, c, w, run_append_none (P := P) t ty e size bytes ht S A n c xs w h.1 k, ?_, Below.refl _ _⟩
  rw [List.append_nil]
  exact h
theorem At.takeApp2 {s : S} (hQ : ∀ e a w, Q e a w → e = .normal) (j : Nat) (r : SV) (ds : List Nat) (hq : ((anyAt s j).bind fun o => pureOp P s.loc (restFr s) o.op) = some r) (hp : (anyPut ntm s j r).isSome = true)
  (k1 k2 t1 t2 t e size bytes n m c1 c2 : Nat) (B1 B2 : Option Addr) (xs ys : List Value) (hok : okA P s j ds k1 k2 t1 = true) (hj : Nat.beq j k1 = false ∧ Nat.beq j k2 = false ∧ Nat.beq k1 k2 = false ∧ Nat.beq t1 t2 = false ∧ Nat.blt t1 ntm = true)
  (ht : elemT P t = some (e, size, bytes)) (hk1 : apAt s k1 (restFr s) = some (t1, t, .sl none 0 0, .sl B1 n c1)) (hk2 : ∀ x : SV, apAt s k2 ((t1, x) :: restFr s) = some (t2, t, x.asSl, .sl B2 m c2)) (hed : edge s k2 k1 = true)
  (hl1 : xs.length = n * size) (hl2 : ys.length = m * size) (hn1 : B1 = none → n = 0) (hn2 : B2 = none → m = 0) (ho1 : ∀ u ∈ xs, u.oneCell' = true) (ho2 : ∀ u ∈ ys, u.oneCell' = true) (hsrc : ∀ ρ w, WInv N w0 ρ s.loc w → F ρ w → (∀ b, B1 = some b → Src w b xs) ∧ ∀ b, B2 = some b → Src w b ys)
  (hbytes : (n + m) * bytes ≤ 140737488355328) (h63 : n + m ≤ maxLen)
  (h : At P Q N w0 ntm F (s.anyNext ntm j r)) : At P Q N w0 ntm F s := by
 obtain ⟨o, ho, hr⟩ := Option.bind_eq_some_iff.1 hq
 obtain ⟨hjk1, hjk2, hk12, ht12, htn⟩ := hj
 have hk12 : k1 ≠ k2 := fun e => by subst e; simp at hk12
 have ht12 : t1 ≠ t2 := fun e => by subst e; simp at ht12
 have htn : t1 < ntm := by simpa using htn
 obtain ⟨pc, ks0, fr, loc⟩ := s
 unfold anyAt at ho
 simp only at ho
 split at ho
 ·rename_i all g dn
  split at ho
  ·rename_i o' ho'
   split at ho
   ·rename_i hg hfs
    simp only [Option.some.injEq] at ho
    subst ho
    simp only [Bool.and_eq_true] at hfs
    unfold S.anyNext at h
    unfold anyPut at h hp
    simp only [ho'] at h hp
    simp only [restFr, okA, apAt, edge] at hr hok hk1 hk2 hed
    rcases hput : putS ntm fr o'.dst r with _ | fr'
    ·rw [hput] at hp; cases hp
    ·rw [hput] at h
     simp only [Option.map_some, Option.getD_some] at h
     simp only [Bool.and_eq_true] at hok
     obtain ⟨hd1, hd2⟩ := hok
     intro ρ a w hi hf
     obtain ⟨hs1, hs2⟩ := hsrc ρ w hi.mem hf
     have hjr : j ∈ Region.ready .any all (listedOf all.size dn) := by simpa using hfs.2
     have hj0 := (mem_ready.1 hjr).1
     show wpAny P .any all (postK P _ Q) (g + 1) (listedOf all.size dn) a w
     generalize hsub : drops ((unl all (listedOf all.size dn)).filterMap (·.dst)) fr = sub at hr hk1 hk2 hd2
     generalize hL0 : listedOf all.size dn = L0 at *
     obtain ⟨o1, ho1', hap1, hd1', hg1⟩ : ∃ o1, all[k1]? = some o1 ∧ appS sub o1 = some (t, .sl none 0 0, .sl B1 n c1) ∧ o1.dst = some t1 ∧ L0.getD k1 true = false := by
      split at hk1
      ·rename_i o1 h1
       split at hk1
       ·rename_i d h2 h3 h4
        obtain ⟨⟨t', x', y'⟩, h5, h6⟩ := Option.map_eq_some_iff.1 hk1
        simp only [Prod.mk.injEq] at h6
        obtain ⟨rfl, rfl, rfl, rfl⟩ := h6
        exact ⟨o1, h1, h5, h2, h4⟩
       ·cases hk1
      ·cases hk1
     obtain ⟨o2, ho2', hap2, hd2', hg2⟩ : ∃ o2, all[k2]? = some o2 ∧ (∀ x : SV, appS ((t1, x) :: sub) o2 = some (t, x.asSl, .sl B2 m c2)) ∧ o2.dst = some t2 ∧ L0.getD k2 true = false := by
      cases h1 : all[k2]? with
      | none => have := hk2 (.v undef); simp only [h1] at this; cases this
      | some o2 =>
       simp only [h1] at hk2
       have hx0 := hk2 (.v undef)
       split at hx0
       ·rename_i d h2 h3 h4
        obtain ⟨⟨t', x', y'⟩, h5, h6⟩ := Option.map_eq_some_iff.1 hx0
        simp only [Prod.mk.injEq] at h6
        obtain ⟨rfl, _⟩ := h6
        refine ⟨o2, rfl, fun x => ?_, h2, h4⟩
        have hx := hk2 x
        simp only [h2, h3, h4] at hx
        obtain ⟨⟨t'', x'', y''⟩, h7, h8⟩ := Option.map_eq_some_iff.1 hx
        simp only [Prod.mk.injEq] at h8
        obtain ⟨_, rfl, rfl, rfl⟩ := h8
        exact h7
       ·cases hx0
     rw [ho2'] at hed
     have hd : ∀ k ok, all[k]? = some ok → L0.getD k true = false → ∀ t, ok.dst = some t → t ∈ (unl all L0).filterMap (·.dst) := fun k ok hk hun t ht => List.mem_filterMap.2 ⟨ok, mem_unl hk hun, ht⟩
     have hover : ∀ k ok, all[k]? = some ok → L0.getD k true = false → ∀ a', AInv ntm ρ sub a' → ∀ u, AInv ntm ρ sub (a'.put ok.dst u) := fun k ok hk hun a' ha u => by
      subst hsub
      exact ha.over (hd k ok hk hun) u
     refine wpAny_firstL (v := r.den ρ) (fun L a' w' => AInv ntm ρ sub a' ∧ (∀ k, k = j ∨ k ∈ ds → L.getD k true = false) ∧ Below w.heap.size w w' ∧ (L.getD k1 true = true → L.getD k2 true = false → a'.tmps[t1]? = some undef ∨ ∃ A' c', a'.tmps[t1]? = some (.slice A' n c') ∧ Row w.heap.size e size A' n c' xs [] w')) hQ ho' (Region.noSelect_spec hfs.1.2) ?_ g _ a w (Region.free_spec ho' hfs.1.1) ?_ hjr (guardS_ok hi.act hg) ⟨hsub ▸ hi.act.drops_ _, ?_, Below.refl _ _, fun h1 => by rw [hg1] at h1; cases h1⟩ ?_
     ·intro L a' w' ⟨h1, _, h3, _⟩
      exact run_pureOp (N := N) (w0 := w0) h1 (fun _ => hi.mem.later h3) hr
     ·intro k ok hk hkj hun L a' w' hrd ⟨h1, h2, h3, h4⟩
      obtain ⟨hku, ok', hok', hall⟩ := mem_ready.1 hrd
      rw [hk] at hok'
      simp only [Option.some.injEq] at hok'
      subst hok'
      have hnds : k ∉ ds := by
       intro hm
       have h5 := List.all_eq_true.1 hd1 k hm
       rw [hk] at h5
       simp only [Bool.and_eq_true] at h5
       obtain ⟨e, he, heb⟩ := List.any_eq_true.1 h5.2
       simp only [Bool.and_eq_true, Bool.or_eq_true] at heb
       have h6 := hall e (by simpa using he) heb.1
       have h7 := h2 e.on (by
        rcases heb.2 with h7 | h7
        ·exact .inl (Nat.eq_of_beq_eq_true h7)
        ·exact .inr (List.contains_iff_mem.1 h7))
       rw [getD_both h7] at h6
       cases h6
      have hL : ∀ k', k' = j ∨ k' ∈ ds → (L.setIfInBounds k true).getD k' true = false := fun k' hk' => by
       rw [getD_set_ne true (fun e => by
        subst e
        rcases hk' with h7 | h7
        ·exact hkj h7
        ·exact hnds h7)]
       exact h2 k' hk'
      have hsz : k < L.size := by
       rcases Nat.lt_or_ge k L.size with h' | h'
       ·exact h'
       ·simp [Array.getElem?_eq_none h'] at hku
      have hself : (L.setIfInBounds k true).getD k true = true := by simp [hsz]
      have hat : t1 < a'.tmps.size := by rw [h1.size]; exact htn
      by_cases e1 : k = k1
      ·subst e1
       rw [ho1'] at hk
       simp only [Option.some.injEq] at hk
       subst hk
       have hslot : ∀ u, (a'.put o1.dst u).tmps[t1]? = some u := fun u => by
        rw [hd1']
        simp [Act.put, hat]
       refine ⟨⟨hover k o1 ho1' hg1 a' h1 _, hL, h3, fun _ _ => .inl (hslot _)⟩, fun nx w'' hrun => ?_⟩
       obtain ⟨A', c', w3, q1, q2, q3⟩ := run_app_any (P := P) (ty := o1.type) ht (Row.nil w.heap.size e size [] w') h3.size B1 n c1 xs hl1 hn1 (fun b hb => fun i u hi' => cell_belowA (hs1 b hb i u hi') h3) ho1 (by
        refine Nat.le_trans (Nat.mul_le_mul_right _ ?_) hbytes
        omega) (by omega)
       have q4 := run_appS (P := P) h1 hap1 (v := .slice A' (0 + n) c') (w := w') (w' := w3) (by exact q1)
       rw [q4] at hrun
       simp only [Result.ok.injEq] at hrun
       obtain ⟨rfl, rfl⟩ := hrun
       rw [Nat.zero_add, List.nil_append] at q2
       refine ⟨_, .inl rfl, hover k o1 ho1' hg1 a' h1 _, hL, h3.trans q3, fun _ _ => .inr ⟨A', c', ?_, q2⟩⟩
       rw [hslot, Nat.zero_add]
      ·by_cases e2 : k = k2
       ·subst e2
        rw [ho2'] at hk
        simp only [Option.some.injEq] at hk
        subst hk
        refine ⟨⟨hover k o2 ho2' hg2 a' h1 _, hL, h3, fun _ h5 => by rw [hself] at h5; cases h5⟩, fun nx w'' hrun => ?_⟩
        have hl1 : L.getD k1 true = true := by
         obtain ⟨ed, he, hee⟩ := List.mem_map.1 (List.contains_iff_mem.1 hed)
         obtain ⟨he1, he2⟩ := List.mem_filter.1 he
         have h5 := hall ed (by simpa using he1) he2
         rw [hee] at h5
         rcases Nat.lt_or_ge k1 L.size with h' | h'
         ·simpa [Array.getElem?_eq_getElem h'] using h5
         ·simp [Array.getElem?_eq_none h'] at h5
        rcases h4 hl1 hku with h5 | ⟨A', c', h5, h6⟩
        ·exfalso
         have hx := AInv.moreK (s := .v undef) h1 h5
         have h7 : (execOp a'.eval o2).run P w' = .ok nx w'' := hrun
         have h8 := hap2 (.v undef)
         cases hq : (Builtin.append_ #[t, t] o2.type #[undef, .slice B2 m c2]).run P w' with
         | ok v3 w3 => exact run_append_undef t o2.type _ _ _ _ hq
         | halt x3 w3 =>
          obtain ⟨dst, op, ty, pos, after, guard⟩ := o2
          unfold appS at h8
          simp only at h8
          split at h8
          ·rename_i x y t0 t0'
           split at h8
           ·rename_i s1 s2 hb hx' hy
            simp only [Option.some.injEq, Prod.mk.injEq] at h8
            obtain ⟨rfl, h9, rfl⟩ := h8
            have := Nat.eq_of_beq_eq_true hb
            subst this
            have e1 : a'.eval x = undef := by
             rw [evalS_sound hx hx', ← SV.asSl_den, h9]
             rfl
            have e2 : a'.eval y = .slice B2 m c2 := evalS_sound hx hy
            simp only at hq
            simp [execOp, resolve, invoke, builtin, e1, e2, hq, Result.andThen] at h7
           ·cases h8
          ·cases h8
        ·have hx := AInv.moreK (s := .sl A' n c') h1 h5
         obtain ⟨A2, c3, w3, q1, q2, q3⟩ := run_app_any (P := P) (ty := o2.type) ht h6 h3.size B2 m c2 ys hl2 hn2 (fun b hb => fun i u hi' => cell_belowA (hs2 b hb i u hi') h3) ho2 hbytes h63
         have q4 := run_appS (P := P) hx (hap2 (.sl A' n c')) (v := .slice A2 (n + m) c3) (w := w') (w' := w3) (by exact q1)
         rw [q4] at hrun
         simp only [Result.ok.injEq] at hrun
         obtain ⟨rfl, rfl⟩ := hrun
         exact ⟨_, .inl rfl, hover k o2 ho2' hg2 a' h1 _, hL, h3.trans q3, fun _ h5 => by rw [hself] at h5; cases h5⟩
       ·have hb := List.all_eq_true.1 hd2 k (List.mem_range.2 (Array.getElem?_eq_some_iff.1 hk).1)
        rw [hk, hun] at hb
        simp only [Bool.or_eq_true, Bool.false_or] at hb
        have hb : bn2 P sub loc t1 ok = true := by
         rcases hb with h7 | h7 | h7 | h7 | h7
         ·exact absurd (Nat.eq_of_beq_eq_true h7) hkj
         ·exact absurd (List.contains_iff_mem.1 h7) hnds
         ·exact absurd (Nat.eq_of_beq_eq_true h7) e1
         ·exact absurd (Nat.eq_of_beq_eq_true h7) e2
         ·exact h7
        have hkeep : ∀ u w3, Below w'.heap.size w' w3 → (L.setIfInBounds k true).getD k1 true = true → (L.setIfInBounds k true).getD k2 true = false → (a'.put ok.dst u).tmps[t1]? = some undef ∨ ∃ A' c', (a'.put ok.dst u).tmps[t1]? = some (.slice A' n c') ∧ Row w.heap.size e size A' n c' xs [] w3 := by
         intro u w3 hb3 h5 h6
         rw [getD_set_ne true e1] at h5
         rw [getD_set_ne true e2] at h6
         have hsame : (a'.put ok.dst u).tmps[t1]? = a'.tmps[t1]? := by
          simp only [bn2, Bool.and_eq_true] at hb
          cases hdd : ok.dst with
          | none => rfl
          | some d =>
           have h7 := hb.2
           rw [hdd] at h7
           have hne : d ≠ t1 := fun e => by subst e; simp at h7
           simp only [Act.put]
           rw [Array.getElem?_setIfInBounds_ne hne]
         rw [hsame]
         rcases h4 h5 h6 with h7 | ⟨A', c', h7, h8⟩
         ·exact .inl h7
         ·exact .inr ⟨A', c', h7, h8.chg' fun g hg => hb3.block g (h8.1.lt g hg).2⟩
        refine ⟨⟨hover k ok hk hun a' h1 _, hL, h3, hkeep _ _ (Below.refl _ _)⟩, fun nx w'' hrun => ?_⟩
        obtain ⟨v, rfl, hbw⟩ := bn2_run (N := N) (w0 := w0) h1 (hi.mem.later h3) hb hrun
        exact ⟨v, .inl rfl, hover k ok hk hun a' h1 _, hL, h3.trans ⟨hbw.os, hbw.tape, hbw.output, hbw.size, fun i hi' => hbw.block i (Nat.lt_of_lt_of_le hi' h3.size)⟩, hkeep _ _ hbw⟩
     ·intro k hk
      rcases hk with rfl | hk
      ·exact hj0
      ·have h4 := List.all_eq_true.1 hd1 k hk
       simp only [Bool.and_eq_true, Bool.not_eq_true'] at h4
       exact h4.1
     ·subst hL0
      exact h ρ _ w ⟨putS_ok hi.act hput, hi.mem⟩ hf
   ·cases ho
  ·cases ho
 ·cases ho
theorem StepK.idx {all : Array Oper} {L0 : Array Bool} {kn : List (Nat × Kn)} {fr0 : Fr} {loc : Loc} {k : Nat} {s : SV} (a : Addr) (n size : Nat) (i : Int) (hq : ((atK all L0 kn fr0 k).bind fun x => idxQ P x.2 x.1) = some (a, n, i, size)) (hk : knOf kn k = some (.eq s)) (h0 : 0 ≤ i) (hn : i < n) (hs : ∀ ρ, s.den ρ = .pointer (some (a.add (i.toNat * size)))) : StepK P N w0 ntm F all L0 kn fr0 loc k := by
 obtain ⟨⟨o, fr⟩, ho, hq⟩ := Option.bind_eq_some_iff.1 hq
 exact StepK.run ho hk fun ρ act w ha hw hf => by rw [hs]; exact run_idxQ ha hq h0 hn w
theorem StepK.ldx {all : Array Oper} {L0 : Array Bool} {kn : List (Nat × Kn)} {fr0 : Fr} {loc : Loc} {k : Nat} {s : SV} (a : Addr) (hq : ((atK all L0 kn fr0 k).bind fun x => ldQ P x.2 x.1) = some a) (hk : knOf kn k = some (.eq s)) (hc : ∀ ρ w, WInv N w0 ρ loc w → F ρ w → w.cell? a = some (s.den ρ)) : StepK P N w0 ntm F all L0 kn fr0 loc k := by
 obtain ⟨⟨o, fr⟩, ho, hq⟩ := Option.bind_eq_some_iff.1 hq
 exact StepK.run ho hk fun ρ act w ha hw hf => run_ldQ ha hq (hc ρ w hw hf)
theorem StepK.ssl {all : Array Oper} {L0 : Array Bool} {kn : List (Nat × Kn)} {fr0 : Fr} {loc : Loc} {k : Nat} {s : SV} (x : ByteArray) (l : Int) (r : Option Int) (hq : ((atK all L0 kn fr0 k).bind fun x => sslQ P x.2 x.1) = some (x, l, r)) (hk : knOf kn k = some (.eq s)) (h0 : 0 ≤ l) (h1 : l ≤ r.getD x.size) (h2 : r.getD x.size ≤ x.size) (hs : ∀ ρ, s.den ρ = .string (x.extract l.toNat (r.getD x.size).toNat)) : StepK P N w0 ntm F all L0 kn fr0 loc k := by
 obtain ⟨⟨o, fr⟩, ho, hq⟩ := Option.bind_eq_some_iff.1 hq
 exact StepK.run ho hk fun ρ act w ha hw hf => by rw [hs]; exact run_sslQ ha hq h0 h1 h2 w
theorem StepK.cat {all : Array Oper} {L0 : Array Bool} {kn : List (Nat × Kn)} {fr0 : Fr} {loc : Loc} {k : Nat} {s : SV} (a b : ByteArray) (hq : ((atK all L0 kn fr0 k).bind fun x => catQ P x.2 x.1) = some (a, b)) (hk : knOf kn k = some (.eq s)) (h0 : a.size + b.size ≤ 9223372036854775807) (hs : ∀ ρ, s.den ρ = .string (a ++ b)) : StepK P N w0 ntm F all L0 kn fr0 loc k := by
 obtain ⟨⟨o, fr⟩, ho, hq⟩ := Option.bind_eq_some_iff.1 hq
 exact StepK.run ho hk fun ρ act w ha hw hf => by rw [hs]; exact run_catQ ha hq h0 w
end
end Go.Sx
end
section
/- Plain: a script's text cut off behind a line, and within one. -/
namespace Go.Proofs.YthfpekhpeiebjaaGreatDoor
open Go.RowKit Go.Sx Go.Lib
/-- The lines of a script. -/
def lns (c : Cf) (wk : Int) (xs : List St) : List (List UInt8) := (jobT ++ c.text) :: (worT ++ Lib.itoa wk) :: xs.map lineS
def glue (L : List (List UInt8)) : List UInt8 := L.flatMap fun l => l ++ [10]
theorem glue_cons (l : List UInt8) (L : List (List UInt8)) : glue (l :: L) = l ++ 10 :: glue L := by simp [glue]
theorem glue_app (L M : List (List UInt8)) : glue (L ++ M) = glue L ++ glue M := by simp [glue]
theorem script_glue (c : Cf) (wk : Int) (xs : List St) : scriptB c wk xs = glue (lns c wk xs) := by
 simp [scriptB, glue, lns, jobT, worT, List.flatMap_map]
theorem ends_line : ∀ (l r : List UInt8) (i : Nat), (∀ b ∈ l, b ≠ 10) → endsOf (l ++ 10 :: r) i = (i + l.length + 1) :: endsOf r (i + l.length + 1)
 | [], r, i, _ => rfl
 | c :: l, r, i, h => by
  have hc : c ≠ 10 := h c (by simp)
  have ih := ends_line l r (i + 1) (fun b hb => h b (by simp [hb]))
  rw [List.cons_append, endsOf, if_neg hc, ih, List.length_cons, show i + 1 + l.length + 1 = i + (l.length + 1) + 1 from by omega]
theorem ends_glue : ∀ (L : List (List UInt8)) (i : Nat), (∀ l ∈ L, ∀ b ∈ l, b ≠ 10) → (endsOf (glue L) i).length = L.length ∧ ∀ k, k < L.length → (endsOf (glue L) i)[k]? = some (i + (glue (L.take (k + 1))).length)
 | [], i, _ => ⟨rfl, fun k hk => absurd hk (Nat.not_lt_zero k)⟩
 | l :: L, i, h => by
  obtain ⟨h1, h2⟩ := ends_glue L (i + l.length + 1) (fun m hm => h m (by simp [hm]))
  rw [glue_cons, ends_line l _ i (h l (by simp))]
  refine ⟨by simp [h1], fun k hk => ?_⟩
  cases k with
  | zero =>
   simp [glue]
   omega
  | succ k =>
   rw [List.getElem?_cons_succ, h2 k (by simpa using hk), List.take_succ_cons, glue_cons]
   simp only [List.length_append, List.length_cons]
   congr 1
   omega
theorem take_glue (L : List (List UInt8)) (k : Nat) : (glue L).take (glue (L.take k)).length = glue (L.take k) := by
 conv => lhs; arg 2; rw [← List.take_append_drop k L]
 rw [glue_app, List.take_left]
theorem take_glue1 (L : List (List UInt8)) (k : Nat) (l : List UInt8) (hl : L[k]? = some l) : (glue L).take ((glue (L.take (k + 1))).length - 1) = glue (L.take k) ++ l := by
 have e : glue (L.take (k + 1)) = (glue (L.take k) ++ l) ++ [10] := by
  rw [List.take_add_one, hl, glue_app]
  simp [glue]
 have h := take_glue L (k + 1)
 rw [e] at h ⊢
 rw [List.length_append, List.length_singleton, Nat.add_sub_cancel]
 have h2 := congrArg (List.take (glue (L.take k) ++ l).length) h
 rw [List.take_take, Nat.min_eq_left (by simp), List.take_left] at h2
 exact h2
theorem lns_no10 {c : Cf} {wk : Int} {xs : List St} (hwr : c.wr = 0) : ∀ l ∈ lns c wk xs, ∀ b ∈ l, b ≠ 10 := by
 have ht : ∀ b ∈ c.text, b ≠ 10 := by
  obtain ⟨g, s, k, sz, sl, of, gp, lt, ea, d⟩ := c
  exact textW_no10 hwr d
 have app : ∀ {l r : List UInt8}, (∀ b ∈ l, b ≠ 10) → (∀ b ∈ r, b ≠ 10) → ∀ b ∈ l ++ r, b ≠ 10 := fun h1 h2 b hb => (List.mem_append.1 hb).elim (h1 b) (h2 b)
 intro l hl
 simp only [lns, List.mem_cons, List.mem_map] at hl
 rcases hl with rfl | rfl | ⟨x, _, rfl⟩
 ·exact app (by decide) ht
 ·exact app (by decide) (itoa_no wk 10 (by decide))
 ·exact lineS_no10 x
theorem lns_len (c : Cf) (wk : Int) (xs : List St) : (lns c wk xs).length = xs.length + 2 := by simp [lns]
theorem lineS_ne (x : St) : lineS x ≠ [] := by
 obtain ⟨kd, ik, key, ti, v, src, wk, wks, bit, mask⟩ := x
 unfold lineS
 dsimp only
 split
 ·split
  ·simp
  ·split <;> simp
 ·split
  ·simp
  ·split
   ·simp
   ·split <;> simp
theorem lns_ne (c : Cf) (wk : Int) (xs : List St) : ∀ l ∈ lns c wk xs, l ≠ [] := by
 intro l hl
 simp only [lns, List.mem_cons, List.mem_map] at hl
 rcases hl with rfl | rfl | ⟨x, _, rfl⟩
 ·simp [jobT]
 ·simp [worT]
 ·exact lineS_ne x
theorem cutsP_last {l : List UInt8} (h : ∀ b ∈ l, b ≠ 10) (hne : l ≠ []) : cutsP l = [(l, false)] := by
 cases l with
 | nil => exact absurd rfl hne
 | cons y l => rw [cutsP_cons (cutN_none _ h), cutsP_nil]
theorem run_job {c : Cf} (hwr : c.wr = 0) (rest : List UInt8) : runL (cutsP ((jobT ++ c.text) ++ 10 :: rest)) 0 cf0 0 [] = runL (cutsP rest) 1 c 0 [] := by
 have ht := lns_no10 (c := c) (wk := 0) (xs := []) hwr (jobT ++ c.text) (by simp [lns])
 rw [cutsP_line ht, runL_cons, step0_ok (pref_app _ _) (by rw [trim_app]; exact (cfgP_iff _ _).2 ⟨hwr, rfl⟩)]
/-- Cut off behind a line. -/
theorem parse_pre {c : Cf} {wk : Int} {xs : List St} (h : (chkP c wk xs).2 = 0) (ho : ∀ x ∈ xs, x.ok) (k : Nat) (hk : k < xs.length + 2) :
  parseS (glue ((lns c wk xs).take (k + 1))) = if k = 0 then ⟨1, c, 0, [], none⟩ else ⟨k + 1, c, wk, xs.take (k - 1), none⟩ := by
 obtain ⟨hwr, h1, h2, hm⟩ := chk_ok h
 match k, hk with
 | 0, _ =>
  rw [if_pos rfl]
  unfold parseS lns
  rw [List.take_succ_cons, List.take_zero, glue_cons, run_job hwr]
  rfl
 | k + 1, hk =>
  rw [if_neg (by omega)]
  have e : glue ((lns c wk xs).take (k + 1 + 1)) = scriptB c wk (xs.take k) := by
   rw [script_glue]
   unfold lns
   rw [List.take_succ_cons, List.take_succ_cons, List.map_take]
  rw [e]
  unfold parseS scriptB
  rw [run_head hwr h1 h2]
  have := run_lines (c := c) (wk := wk) (xs.take k) [] 0 [] (fun x hx => ⟨hm x (List.mem_of_mem_take hx), ho x (List.mem_of_mem_take hx)⟩)
  rw [List.append_nil] at this
  rw [this, cutsP_nil, List.nil_append, List.length_take, Nat.min_eq_left (by omega)]
  simp only [runL, Nat.add_sub_cancel, Nat.zero_add]
  congr 1
  omega
/-- Cut off within a line. -/
theorem parse_cut {c : Cf} {wk : Int} {xs : List St} (h : (chkP c wk xs).2 = 0) (ho : ∀ x ∈ xs, x.ok) (k : Nat) (l : List UInt8) (hl : (lns c wk xs)[k]? = some l) :
  (parseS (glue ((lns c wk xs).take k) ++ l)).n = k ∧ (parseS (glue ((lns c wk xs).take k) ++ l)).ok = false := by
 obtain ⟨hwr, h1, h2, hm⟩ := chk_ok h
 have hmem := List.mem_of_getElem? hl
 have hc := cutsP_last (lns_no10 hwr l hmem) (lns_ne c wk xs l hmem)
 match k, hl with
 | 0, hl =>
  unfold parseS
  rw [List.take_zero, show glue [] = [] from rfl, List.nil_append, hc]
  exact ⟨rfl, rfl⟩
 | 1, hl =>
  unfold parseS
  rw [show glue ((lns c wk xs).take 1) ++ l = (jobT ++ c.text) ++ 10 :: l from by simp [lns, glue], run_job hwr, hc]
  exact ⟨rfl, rfl⟩
 | k + 2, hl =>
  have hk : k < xs.length := by
   have := (List.getElem?_eq_some_iff.1 hl).1
   rw [lns_len] at this
   omega
  have e : glue ((lns c wk xs).take (k + 2)) ++ l = [106, 111, 98, 32] ++ c.text ++ [10, 119, 111, 114, 107, 101, 114, 115, 32] ++ Lib.itoa wk ++ [10] ++ (((xs.take k).flatMap fun x => lineS x ++ [10]) ++ l) := by
   simp [lns, glue, jobT, worT, ← List.map_take, List.flatMap_map]
  rw [e]
  unfold parseS
  rw [run_head hwr h1 h2, run_lines (c := c) (wk := wk) (xs.take k) [] 0 l (fun x hx => ⟨hm x (List.mem_of_mem_take hx), ho x (List.mem_of_mem_take hx)⟩), hc, List.length_take, Nat.min_eq_left (by omega)]
  simp only [runL]
  refine ⟨?_, ?_⟩
  ·simp [stepR]
   omega
  ·simp [stepR, FO.ok]
end Go.Proofs.YthfpekhpeiebjaaGreatDoor
end
section
namespace Go.Proofs.YthfpekhpeiebjaaGreatDoor
open Go.RowKit Go.Sx
/-- A finished row, empty or not. -/
def SrcF (A : Option Addr) (ys : List Value) (ρ : List Nat) (w : World) : Prop := (A = none → ys = []) ∧ ∀ a, A = some a → Src w a ys ∧ a.block < w.heap.size ∧ a.block ∉ ρ
theorem SrcF.stable {A : Option Addr} {ys : List Value} : Stable (SrcF A ys) := fun ρ w ρ' w' hg hk ⟨h1, h2⟩ => ⟨h1, fun a ha => by
 obtain ⟨h3, h4, h5⟩ := h2 a ha
 refine ⟨fun j u hj => ?_, Nat.lt_of_lt_of_le h4 hk.size, fun hm => ?_⟩
 ·have := h3 j u hj
  have hb : (a.add j).block = a.block := by unfold Addr.add; split <;> rfl
  simp only [World.cell?, hb] at this ⊢
  rw [hk.block _ h4 h5]
  exact this
 ·rcases hg.of_mem hm with h | h
  ·exact h5 h
  ·omega⟩
theorem SrcF.fewer {A : Option Addr} {ys : List Value} : FewerK 0 (SrcF A ys) := fun ρ w k _ ⟨h1, h2⟩ => ⟨h1, fun a ha => ⟨(h2 a ha).1, (h2 a ha).2.1, fun hm => (h2 a ha).2.2 (List.mem_of_mem_take hm)⟩⟩
theorem SrcF.some {A : Option Addr} {ys : List Value} {ρ : List Nat} {w : World} (h : SrcF A ys ρ w) (hy : ys ≠ []) : ∃ a, A = some a := by
 cases A with
 | none => exact absurd (h.1 rfl) hy
 | some a => exact ⟨a, rfl⟩
def FB (A : Option Addr) (ys : List Value) (B : Option Addr) (zs : List Value) (ρ : List Nat) (w : World) : Prop := SrcF A ys ρ w ∧ SrcF B zs ρ w
theorem FB.stable {A B : Option Addr} {ys zs : List Value} : Stable (FB A ys B zs) := SrcF.stable.and SrcF.stable
theorem FB.fewer {A B : Option Addr} {ys zs : List Value} : FewerK 0 (FB A ys B zs) := fun ρ w k hk ⟨h1, h2⟩ => ⟨SrcF.fewer ρ w k hk h1, SrcF.fewer ρ w k hk h2⟩
theorem badI_lt {c : Cf} : ∀ (xs : List St) (i j : Nat), badI c xs i = some j → i ≤ j ∧ j < i + xs.length
 | [], i, j, h => by simp [badI] at h
 | x :: xs, i, j, h => by
  simp only [badI] at h
  split at h
  ·have := badI_lt xs (i + 1) j h
   simp only [List.length_cons]
   omega
  ·injection h with h
   simp only [List.length_cons]
   omega
theorem chk_bound (c : Cf) (wk : Int) (xs : List St) : 0 ≤ (chkP c wk xs).1 ∧ (chkP c wk xs).1 ≤ 1 + (xs.length : Int) ∧ ((chkP c wk xs).2 = 0 ∨ (chkP c wk xs).2 = 2) := by
 unfold chkP
 split
 ·exact ⟨by simp, by simp; omega, .inr rfl⟩
 ·split
  ·exact ⟨by simp, by simp; omega, .inr rfl⟩
  ·cases h : badI c xs 0 with
   | none => exact ⟨by simp [chkE], by simp [chkE]; omega, .inl rfl⟩
   | some i =>
    have := badI_lt xs 0 i h
    exact ⟨by simp [chkE]; omega, by simp [chkE]; omega, .inr rfl⟩
theorem back_facts {c : Cf} {wk : Int} {xs : List St} (h : (chkP c wk xs).2 = 0) (ho : ∀ x ∈ xs, x.ok) (hn : xs.length ≤ 300) :
  (scriptB c wk xs).length ≤ 1048576 ∧ parseS (scriptB c wk xs) = ⟨xs.length + 2, c, wk, xs, none⟩ ∧ (endsOf (scriptB c wk xs) 0).length = xs.length + 2 ∧
   ∀ j, j < xs.length + 2 → ∃ e, (endsOf (scriptB c wk xs) 0)[j]? = some e ∧ 1 ≤ e ∧ e ≤ (scriptB c wk xs).length ∧
    parseS ((scriptB c wk xs).take e) = (if j = 0 then ⟨1, c, 0, [], none⟩ else ⟨j + 1, c, wk, xs.take (j - 1), none⟩) ∧ (parseS ((scriptB c wk xs).take (e - 1))).n = j ∧ (parseS ((scriptB c wk xs).take (e - 1))).ok = false := by
 obtain ⟨hwr, h1, h2, hm⟩ := chk_ok h
 have hg : c.g ≤ 32768 ∧ c.text.length ≤ 1000 := by
  obtain ⟨g, s, k, sz, sl, of, gp, lt, ea, d⟩ := c
  exact ⟨(valid_of hwr).1.2, textW_short hwr d⟩
 have hi := itoa_short (n := wk) ⟨by omega, by omega⟩
 have hl := script_len (c := c) (wk := wk) (xs := xs) hg.2 hi (fun x hx => lineS_short (mayB_key (hm x hx)) (ho x hx))
 have hno := lns_no10 (c := c) (wk := wk) (xs := xs) hwr
 obtain ⟨e1, e2⟩ := ends_glue (lns c wk xs) 0 hno
 refine ⟨by omega, parse_script h ho, by rw [script_glue, e1, lns_len], fun j hj => ?_⟩
 have hj' : j < (lns c wk xs).length := by rw [lns_len]; exact hj
 obtain ⟨l, hlj⟩ : ∃ l, (lns c wk xs)[j]? = some l := ⟨_, List.getElem?_eq_getElem hj'⟩
 have h3 := e2 j hj'
 rw [Nat.zero_add] at h3
 refine ⟨_, by rw [script_glue]; exact h3, ?_, ?_, ?_, ?_, ?_⟩
 ·rw [List.take_add_one, hlj, glue_app]
  simp [glue]
  omega
 ·rw [script_glue]
  have := congrArg List.length (take_glue (lns c wk xs) (j + 1))
  rw [List.length_take] at this
  omega
 ·rw [script_glue, take_glue]
  exact parse_pre h ho j hj
 ·rw [script_glue, take_glue1 _ j l hlj]
  exact (parse_cut h ho j l hlj).1
 ·rw [script_glue, take_glue1 _ j l hlj]
  exact (parse_cut h ho j l hlj).2
end Go.Proofs.YthfpekhpeiebjaaGreatDoor
end
