import Derived.Test.YtiehnigbcfkcdaaDoorSxH
set_option linter.unusedSimpArgs false
set_option linter.unusedVariables false
namespace Go.Sx
open Go.RowKit
section
variable {P : Program}

/-- Facts on the world that outlive what the walk does to its own blocks. -/
def Stable (F : List Nat → World → Prop) : Prop := ∀ ρ w ρ' w', Grow w.heap.size ρ ρ' → Keep ρ w w' → F ρ w → F ρ' w'
def noF : List Nat → World → Prop := fun _ _ => True
theorem noF_stable : Stable noF := fun _ _ _ _ _ _ _ => trivial

/-- The walk stands in the state s: whatever frame and world fit it. -/
def At (P : Program) (Q : Exit → Act → World → Prop) (N : Nat) (w0 : World) (ntm : Nat) (F : List Nat → World → Prop) (s : S) : Prop :=
  ∀ ρ a w, Inv N w0 ntm ρ s.fr s.loc a w → F ρ w → Ok P Q s.pc s.ks a w

variable {Q : Exit → Act → World → Prop} {N : Nat} {w0 : World} {ntm : Nat} {F : List Nat → World → Prop}

theorem At.run (hF : Stable F) (u n : Nat) {s : S} (h : At P Q N w0 ntm F (srun P ntm u n s)) : At P Q N w0 ntm F s :=
  fun _ _ _ hi hf => srun_sound n hi fun ρ' a' w' hg hi' hk => h ρ' a' w' hi' (hF _ _ _ _ hg hk hf)

/-- A bool that is open is settled. -/
def S.res (s : S) (t : Nat) (d : Bool) : S := { s with fr := (t, .v (.bool d)) :: s.fr }
theorem look_res {fr : Fr} {t : Nat} {b d : Bool} (hl : look fr t = some (.bo b)) (hb : b = d) {ρ : List Nat} {ntm : Nat} {a : Act} (h : AInv ntm ρ fr a) : AInv ntm ρ ((t, .v (.bool d)) :: fr) a := by
  refine ⟨h.defers, h.size, fun t' s' hs => ?_⟩
  simp only [look] at hs
  split at hs
  · rename_i hk
    have hk := Nat.eq_of_beq_eq_true hk
    subst hk
    simp only [Option.some.injEq] at hs
    subst hs
    rw [h.slot _ _ hl, ← hb]
    rfl
  · exact h.slot t' s' hs
theorem At.res {s : S} (t : Nat) (b d : Bool) (hl : look s.fr t = some (.bo b)) (hb : b = d) (h : At P Q N w0 ntm F (s.res t d)) : At P Q N w0 ntm F s :=
  fun ρ a w hi hf => h ρ a w ⟨look_res hl hb hi.act, hi.mem⟩ hf

/-! ### an operation that wants help -/
def S.head? (s : S) : Option Oper :=
  match s.pc with
  | .ops all (o :: _) => match guardS all s.fr o with | some true => some o | _ => none
  | .qops all (o :: _) => match guardS all s.fr o with | some true => some o | _ => none
  | _ => none
/-- Behind the operation at the head, whose value is r. -/
def S.tail (ntm : Nat) (s : S) (r : SV) : S :=
  match s.pc with
  | .ops all (o :: rest) => match putS ntm s.fr o.dst r with | some fr => { s with pc := .ops all rest, fr } | none => s
  | .qops all (o :: rest) => match putS ntm s.fr o.dst r with | some fr => { s with pc := .qops all rest, fr } | none => s
  | _ => s
def S.dstOk (ntm : Nat) (s : S) : Bool :=
  match s.pc with
  | .ops _ (o :: _) => match o.dst with | some d => Nat.blt d ntm | none => true
  | .qops _ (o :: _) => match o.dst with | some d => Nat.blt d ntm | none => true
  | _ => false

theorem putS_some {fr : Fr} {d : Option Nat} (h : (match d with | some d => Nat.blt d ntm | none => true) = true) (r : SV) : ∃ fr', putS ntm fr d r = some fr' := by
  cases d with
  | none => exact ⟨fr, rfl⟩
  | some d =>
    have h' : Nat.blt d ntm = true := h
    simp only [putS, h']
    exact ⟨_, rfl⟩

/-- An operation whose run is known in every world that fits, and leaves the world alone. -/
theorem At.op (hF : Stable F) {s : S} (o : Oper) (r : SV) (ho : s.head? = some o) (hd : s.dstOk ntm = true)
    (hr : ∀ ρ a w, Inv N w0 ntm ρ s.fr s.loc a w → F ρ w → (execOp a.eval o).run P w = .ok (.value (r.den ρ)) w) (h : At P Q N w0 ntm F (s.tail ntm r)) : At P Q N w0 ntm F s := by
  intro ρ a w hi hf
  obtain ⟨pc, ks, fr, loc⟩ := s
  cases pc with
  | ops all rest =>
    cases rest with
    | nil => simp [S.head?] at ho
    | cons o' rest =>
      simp only [S.head?] at ho
      split at ho
      · rename_i hg
        simp only [Option.some.injEq] at ho
        subst ho
        obtain ⟨fr', hp⟩ := putS_some (fr := fr) (ntm := ntm) hd r
        have hk := h ρ (a.put o'.dst (r.den ρ)) w (by simp only [S.tail, hp]; exact ⟨putS_ok hi.act hp, hi.mem⟩) hf
        simp only [S.tail, hp] at hk
        show wpList P all _ (o' :: rest) a w
        unfold wpList
        rw [if_pos (guardS_ok hi.act hg)]
        refine .inl ?_
        unfold Oper.wp
        rw [hr ρ a w hi hf]
        exact hk
      · cases ho
  | qops all rest =>
    cases rest with
    | nil => simp [S.head?] at ho
    | cons o' rest =>
      simp only [S.head?] at ho
      split at ho
      · rename_i hg
        simp only [Option.some.injEq] at ho
        subst ho
        obtain ⟨fr', hp⟩ := putS_some (fr := fr) (ntm := ntm) hd r
        have hk := h ρ (a.put o'.dst (r.den ρ)) w (by simp only [S.tail, hp]; exact ⟨putS_ok hi.act hp, hi.mem⟩) hf
        simp only [S.tail, hp] at hk
        exact quiet_put (guardS_ok hi.act hg) (fun w' hb => hr ρ a w' ⟨hi.act, hi.mem.after hb⟩ (hF _ _ _ _ (Grow.refl _ _) (Keep.of_below hb) hf)) hk
      · cases ho
  | code c => simp [S.head?] at ho
  | any _ _ _ => simp [S.head?] at ho
  | exit e => simp [S.head?] at ho

/-! ### a call -/
def callS (fr : Fr) (o : Oper) : Option (FuncId × List SV) :=
  match o.op with
  | .call { callee := .value f, args, .. } => match evalS fr f, evalL fr args.toList with
    | some (.fn (.func g) caps), some vs => some (g, vs ++ caps)
    | _, _ => none
  | _ => none
def S.call? (s : S) : Option (FuncId × List SV) :=
  match s.head? with
  | some o => callS s.fr o
  | none => none
def bodied (P : Program) (g : FuncId) : Bool :=
  match P.funcs[g]? with
  | some fn => !(fn.name == "runtime.NumGoroutine") && fn.body.isSome
  | none => false
theorem run_callS {ρ : List Nat} {fr : Fr} {a : Act} (ha : AInv ntm ρ fr a) {o : Oper} {g : FuncId} {vs : List SV} (h : callS fr o = some (g, vs)) (hb : bodied P g = true) (w : World) :
    (execOp a.eval o).run P w = .ok (.enter g (SV.denL ρ vs).toArray) w := by
  obtain ⟨dst, op, ty, pos, after, guard⟩ := o
  unfold callS at h
  simp only at h
  split at h
  · rename_i f args _
    split at h
    · rename_i g' caps vs' hf hv
      simp only [Option.some.injEq, Prod.mk.injEq] at h
      obtain ⟨rfl, rfl⟩ := h
      have e2 := evalL_sound ha hv
      have e3 : args.map a.eval = (SV.denL ρ vs').toArray := Array.ext' (by rw [← e2]; simp)
      unfold bodied at hb
      split at hb
      · rename_i fn hfn
        simp only [Bool.and_eq_true, Bool.not_eq_true'] at hb
        have hbody : fn.body.isNone = false := by cases hq : fn.body <;> simp_all
        have hcf : ∀ xs, (callFunc g' xs).run P w = .ok (.enter g' xs) w := by
          intro xs
          unfold callFunc
          simp only [Sem.run_bind, run_program, Result.andThen_ok, hfn, hb.1, hbody, Bool.false_eq_true, if_false, Sem.run_pure]
        simp only [execOp, resolve, Deferred.ofValue, evalS_sound ha hf, SV.den, invoke, Sem.run_bind, Sem.run_pure, Result.andThen_ok, hcf, e3]
        simp [SV.denL_eq]
      · cases hb
    · cases h
  · cases h

/-- A call by its contract: the callee hands back a value that is known up to x, and makes new blocks alone. 'G x': what is known besides. -/
theorem At.callx (hF : Stable F) {X : Type} {s : S} (g : FuncId) (vs : List SV) (r : X → SV) (G : X → List Nat → World → Prop) (hG : ∀ x, Stable (G x)) (hc : s.call? = some (g, vs)) (hb : bodied P g = true) (hd : s.dstOk ntm = true) (hq : (match s.pc with | .ops .. => true | _ => false) = true)
    (hr : ∀ ρ a w, Inv N w0 ntm ρ s.fr s.loc a w → F ρ w → Calls P g (SV.denL ρ vs).toArray w fun e w' => ∃ x, e = .returned ((r x).den ρ) ∧ Below w.heap.size w w' ∧ G x ρ w')
    (h : ∀ x, At P Q N w0 ntm (fun ρ w => F ρ w ∧ G x ρ w) (s.tail ntm (r x))) : At P Q N w0 ntm F s := by
  intro ρ a w hi hf
  have _ := hG
  obtain ⟨pc, ks, fr, loc⟩ := s
  unfold S.call? at hc
  split at hc
  · rename_i o ho
    cases pc with
    | ops all rest =>
      cases rest with
      | nil => simp [S.head?] at ho
      | cons o' rest =>
        simp only [S.head?] at ho
        split at ho
        · rename_i hg
          simp only [Option.some.injEq] at ho
          subst ho
          show wpList P all _ (o' :: rest) a w
          unfold wpList
          rw [if_pos (guardS_ok hi.act hg)]
          refine .inl ?_
          unfold Oper.wp
          rw [run_callS hi.act hc hb]
          refine (hr ρ a w hi hf).mono ?_
          rintro e w' ⟨x, rfl, hbel, hGx⟩
          obtain ⟨fr', hp⟩ := putS_some (fr := fr) (ntm := ntm) hd (r x)
          have hk := h x ρ (a.put o'.dst ((r x).den ρ)) w' (by simp only [S.tail, hp]; exact ⟨putS_ok hi.act hp, hi.mem.after hbel⟩) ⟨hF _ _ _ _ (Grow.refl _ _) (Keep.of_below hbel) hf, hGx⟩
          simp only [S.tail, hp] at hk
          exact hk
        · cases ho
    | qops all rest => simp at hq
    | code c => simp [S.head?] at ho
    | any _ _ _ => simp [S.head?] at ho
    | exit e => simp [S.head?] at ho
  · cases hc

/-- A call whose value is known outright: also in a region that draws its order. -/
theorem At.call (hF : Stable F) {s : S} (g : FuncId) (vs : List SV) (r : SV) (hc : s.call? = some (g, vs)) (hb : bodied P g = true) (hd : s.dstOk ntm = true)
    (hr : ∀ ρ a w, Inv N w0 ntm ρ s.fr s.loc a w → F ρ w → Calls P g (SV.denL ρ vs).toArray w fun e w' => e = .returned (r.den ρ) ∧ Below w.heap.size w w')
    (h : At P Q N w0 ntm F (s.tail ntm r)) : At P Q N w0 ntm F s := by
  intro ρ a w hi hf
  obtain ⟨pc, ks, fr, loc⟩ := s
  unfold S.call? at hc
  split at hc
  · rename_i o ho
    cases pc with
    | ops all rest =>
      cases rest with
      | nil => simp [S.head?] at ho
      | cons o' rest =>
        simp only [S.head?] at ho
        split at ho
        · rename_i hg
          simp only [Option.some.injEq] at ho
          subst ho
          obtain ⟨fr', hp⟩ := putS_some (fr := fr) (ntm := ntm) hd r
          show wpList P all _ (o' :: rest) a w
          unfold wpList
          rw [if_pos (guardS_ok hi.act hg)]
          refine .inl ?_
          unfold Oper.wp
          rw [run_callS hi.act hc hb]
          refine (hr ρ a w hi hf).mono ?_
          rintro e w' ⟨rfl, hbel⟩
          have hk := h ρ (a.put o'.dst (r.den ρ)) w' (by simp only [S.tail, hp]; exact ⟨putS_ok hi.act hp, hi.mem.after hbel⟩) (hF _ _ _ _ (Grow.refl _ _) (Keep.of_below hbel) hf)
          simp only [S.tail, hp] at hk
          exact hk
        · cases ho
    | qops all rest =>
      cases rest with
      | nil => simp [S.head?] at ho
      | cons o' rest =>
        simp only [S.head?] at ho
        split at ho
        · rename_i hg
          simp only [Option.some.injEq] at ho
          subst ho
          obtain ⟨fr', hp⟩ := putS_some (fr := fr) (ntm := ntm) hd r
          have hk := h ρ (a.put o'.dst (r.den ρ)) w (by simp only [S.tail, hp]; exact ⟨putS_ok hi.act hp, hi.mem⟩) hf
          simp only [S.tail, hp] at hk
          show wpQuiet P all _ _ (o' :: rest) a
          unfold wpQuiet
          rw [if_pos (guardS_ok hi.act hg)]
          refine ⟨r.den ρ, fun w' hb' => ?_, hk⟩
          unfold Oper.quietAt
          rw [run_callS hi.act hc hb]
          refine ⟨rfl, (hr ρ a w' ⟨hi.act, hi.mem.after hb'⟩ (hF _ _ _ _ (Grow.refl _ _) (Keep.of_below hb') hf)).mono ?_⟩
          rintro e w'' ⟨rfl, hbel⟩
          exact ⟨rfl, hb'.trans (hbel.mono hb'.size)⟩
        · cases ho
    | code c => simp [S.head?] at ho
    | any _ _ _ => simp [S.head?] at ho
    | exit e => simp [S.head?] at ho
  · cases hc

/-! ### the end -/
def resOne (P : Program) (s : S) : ResultVar → Option SV
  | .tmp t => look s.fr t
  | .cell t ty => match look s.fr t with
    | some (.lp i off) => loadS P s.loc ty i off
    | _ => none
def resL (P : Program) (s : S) : List ResultVar → Option (List SV)
  | [] => some []
  | r :: l => match resOne P s r, resL P s l with
    | some x, some y => some (x :: y)
    | _, _ => none
def resS (P : Program) (fn : Func) (s : S) : Option SV :=
  match resL P s fn.results.toList with
  | some [x] => some x
  | some l => some (.tup l)
  | none => none
theorem run_resL {ρ : List Nat} {s : S} {a : Act} {w : World} (hi : Inv N w0 ntm ρ s.fr s.loc a w) : ∀ {l : List ResultVar} {r : List SV}, resL P s l = some r →
    (l.mapM (m := Sem) fun | .tmp t => pure (a.tmps.getD t undef) | .cell x t => do loadVar t (← asAddr (a.tmps.getD x undef))).run P w = .ok (SV.denL ρ r) w
  | [], r, h => by simp only [resL, Option.some.injEq] at h; subst h; simp [SV.denL]
  | v :: l, r, h => by
    simp only [resL] at h
    split at h
    · rename_i x y hx hy
      simp only [Option.some.injEq] at h
      subst h
      have ih := run_resL hi hy
      cases v with
      | tmp t =>
        simp only [resOne] at hx
        simp only [List.mapM_cons, Sem.run_bind, Sem.run_pure, Result.andThen_ok, ih, SV.denL, getD_of (hi.act.slot t x hx)]
      | cell c t =>
        simp only [resOne] at hx
        split at hx
        · rename_i i off hl
          have h1 := getD_of (hi.act.slot c _ hl)
          have h2 : (asAddr (a.tmps.getD c undef)).run P w = .ok ⟨nth ρ i, off, none⟩ w := by rw [h1]; rfl
          simp only [List.mapM_cons, Sem.run_bind, Sem.run_pure, Result.andThen_ok, ih, SV.denL, h2, run_loadS hi.mem hx]
        · cases hx
    · cases h
theorem run_resS {ρ : List Nat} {s : S} {fn : Func} {a : Act} {w : World} (hi : Inv N w0 ntm ρ s.fr s.loc a w) {r : SV} (h : resS P fn s = some r) : (results fn a.tmps).run P w = .ok (r.den ρ) w := by
  unfold resS at h
  have key : ∀ l, resL P s fn.results.toList = some l → (results fn a.tmps).run P w = .ok (if hh : (SV.denL ρ l).toArray.size = 1 then (SV.denL ρ l).toArray[0] else .tuple (SV.denL ρ l).toArray) w := by
    intro l hl
    have := run_resL (P := P) hi hl
    unfold results
    rw [Array.mapM_eq_mapM_toList]
    simp only [Sem.run_bind, Sem.run_map, Sem.run_pure]
    exact congrArg (fun q : Result (List Value) => (q.andThen fun a w' => Result.ok a.toArray w').andThen fun a w' => Result.ok (if h : a.size = 1 then a[0] else Value.tuple a) w') this
  split at h
  · rename_i x hx
    simp only [Option.some.injEq] at h
    subst h
    rw [key _ hx]
    simp [SV.denL]
  · rename_i l hne hl
    simp only [Option.some.injEq] at h
    subst h
    rw [key _ hl, dif_neg]
    · rfl
    · intro hsz
      match l, hsz with
      | [x], _ => exact hne x rfl
      | [], hsz => simp [SV.denL] at hsz
      | _ :: _ :: _, hsz => simp [SV.denL] at hsz
  · cases h

def S.done (s : S) : Bool :=
  match s.pc, s.ks with
  | .exit .ret, [] => true
  | .exit .normal, [] => true
  | _, _ => false
theorem At.ret {fn : Func} {R : Ending → World → Prop} {s : S} (hd : s.done = true) (r : SV) (hr : resS P fn s = some r)
    (h : ∀ ρ w, WInv N w0 ρ s.loc w → F ρ w → R (.returned (r.den ρ)) w) : At P (bodyPost P fn R) N w0 ntm F s := by
  intro ρ a w hi hf
  have h1 := run_resS hi hr
  have h2 := h ρ w hi.mem hf
  obtain ⟨pc, ks, fr, loc⟩ := s
  unfold S.done at hd
  split at hd
  · rename_i e1 e2
    simp only at e1 e2
    subst e1; subst e2
    exact ⟨hi.act.defers, _, h1, h2⟩
  · rename_i e1 e2
    simp only at e1 e2
    subst e1; subst e2
    exact ⟨hi.act.defers, _, h1, h2⟩
  · cases hd

/-! ### the beginning -/
def frOf : Nat → List SV → Fr
  | _, [] => []
  | k, s :: l => (k, s) :: frOf (k + 1) l
theorem look_frOf {ρ : List Nat} {rest : List Value} : ∀ {l : List SV} {k t : Nat} {s : SV} {pre : List Value}, pre.length = k → look (frOf k l) t = some s → (pre ++ SV.denL ρ l ++ rest)[t]? = some (s.den ρ)
  | [], k, t, s, pre, _, h => by simp [frOf, look] at h
  | x :: l, k, t, s, pre, hk, h => by
    simp only [frOf, look] at h
    split at h
    · rename_i hb
      have hb := Nat.eq_of_beq_eq_true hb
      subst hb
      simp only [Option.some.injEq] at h
      subst h
      simp [SV.denL, ← hk]
    · have := look_frOf (rest := rest) (ρ := ρ) (pre := pre ++ [x.den ρ]) (by simp [hk]) h
      simpa [SV.denL] using this
theorem enter {f : FuncId} {fn : Func} {c : Code} {R : Ending → World → Prop} (sargs : List SV) (hf : P.funcs[f]? = some fn) (hb : fn.body = some c) (hle : Nat.ble sargs.length fn.ntmps = true)
    (h : At P (bodyPost P fn R) w0.heap.size w0 fn.ntmps noF ⟨.code c, [], frOf 0 sargs, []⟩) : Calls P f (SV.denL [] sargs).toArray w0 R := by
  refine calls_of_wp hf hb (h [] _ w0 ⟨⟨rfl, ?_, ?_⟩, ?_⟩ trivial)
  · have := Nat.le_of_ble_eq_true hle
    simp [SV.denL_eq]; omega
  · intro t s hs
    have := look_frOf (ρ := []) (pre := []) (rest := List.replicate (fn.ntmps - sargs.length) undef) rfl hs
    rw [← Array.getElem?_toList]
    simpa [SV.denL_eq] using this
  · exact ⟨Below.refl _ _, Nat.le_refl _, rfl, List.nodup_nil, by simp, by simp⟩

/-! ### a loop -/
theorem wp_loop_x {σ : Type} {c : Code} (I : σ → Act → World → Prop) (μ : σ → Nat)
    (round : ∀ x a w, I x a w → c.wp P (Exit.then (fun a' w' => ∃ x', I x' a' w' ∧ μ x' < μ x) Q) a w) {x : σ} {a : Act} {w : World} (h : I x a w) : (Code.loop c).wp P Q a w := by
  have hm : ∀ a w, (∃ x, I x a w) → ∃ x, I x a w ∧ ∀ y, I y a w → μ x ≤ μ y := by
    intro a w hx
    have key : ∀ n, ∀ y, I y a w → μ y = n → ∃ x, I x a w ∧ ∀ y, I y a w → μ x ≤ μ y := by
      intro n
      induction n using Nat.strongRecOn with
      | _ n ih =>
        intro y hy hn
        by_cases hmin : ∀ z, I z a w → μ y ≤ μ z
        · exact ⟨y, hy, hmin⟩
        · obtain ⟨z, hz⟩ := Classical.not_forall.1 hmin
          obtain ⟨hz1, hz2⟩ := Classical.not_imp.1 hz
          exact ih (μ z) (by omega) z hz1 rfl
    obtain ⟨y, hy⟩ := hx
    exact key _ y hy rfl
  let ν : Act → World → Nat := fun a w => @dite _ (∃ x, I x a w) (Classical.propDecidable _) (fun hx => μ (Classical.choose (hm a w hx))) (fun _ => 0)
  refine wp_loop (fun a w => ∃ x, I x a w) ν ⟨x, h⟩ fun a w hx => ?_
  obtain ⟨h1, _⟩ := Classical.choose_spec (hm a w hx)
  refine Code.wp_mono ?_ (round _ a w h1)
  intro e a' w' hq
  cases e <;> first
    | exact hq
    | (obtain ⟨x', hx', hlt⟩ := hq
       refine ⟨⟨x', hx'⟩, ?_⟩
       have hx2 : ∃ x, I x a' w' := ⟨x', hx'⟩
       have h2 := (Classical.choose_spec (hm a' w' hx2)).2 x' hx'
       simp only [ν, dif_pos hx, dif_pos hx2]
       omega)

/-- What a round hands on: a state of the family, and a smaller measure. -/
def Next (N : Nat) (w0 : World) (ntm : Nat) {σ : Type} (fr : σ → Fr) (loc : σ → Loc) (G : σ → List Nat → World → Prop) (μ : σ → Nat) (x : σ) (a : Act) (w : World) : Prop :=
  ∃ x', (∃ ρ, Inv N w0 ntm ρ (fr x') (loc x') a w ∧ G x' ρ w) ∧ μ x' < μ x
def subFr (small big : Fr) : Prop := small.map (fun p => look big p.1) = small.map (fun p => some p.2)
theorem look_sub : ∀ {small big : Fr}, subFr small big → ∀ t s, look small t = some s → look big t = some s
  | [], _, _, t, s, h => by simp [look] at h
  | (k, x) :: l, big, hs, t, s, h => by
    simp only [subFr, List.map_cons, List.cons.injEq] at hs
    simp only [look] at h
    split at h
    · rename_i hb
      have hb := Nat.eq_of_beq_eq_true hb
      subst hb
      rw [← h]; exact hs.1
    · exact look_sub hs.2 t s h
theorem AInv.sub {ρ : List Nat} {small big : Fr} {a : Act} (h : AInv ntm ρ big a) (hs : subFr small big) : AInv ntm ρ small a :=
  ⟨h.defers, h.size, fun t s hl => h.slot t s (look_sub hs t s hl)⟩
theorem At.loop {σ : Type} {s : S} (c : Code) (fr : σ → Fr) (loc : σ → Loc) (G : σ → List Nat → World → Prop) (μ : σ → Nat) (x0 : σ) (hc : s.pc = .code (.loop c)) (hsub : subFr (fr x0) s.fr) (hloc : s.loc = loc x0)
    (hG : ∀ ρ a w, Inv N w0 ntm ρ s.fr s.loc a w → F ρ w → G x0 ρ w)
    (h : ∀ x, At P Q N w0 ntm (G x) ⟨.code c, .next (Next N w0 ntm fr loc G μ x) :: s.ks, fr x, loc x⟩) : At P Q N w0 ntm F s := by
  intro ρ a w hi hf
  rw [hc]
  refine wp_loop_x (fun x a w => ∃ ρ, Inv N w0 ntm ρ (fr x) (loc x) a w ∧ G x ρ w) μ (x := x0) ?_ ⟨ρ, ⟨hi.act.sub hsub, hloc ▸ hi.mem⟩, hG ρ a w hi hf⟩
  rintro x a w ⟨ρ, hi, hg⟩
  exact h x ρ a w hi hg
theorem At.next {σ : Type} {s : S} {fr : σ → Fr} {loc : σ → Loc} {G : σ → List Nat → World → Prop} {μ : σ → Nat} {x : σ} (x' : σ) {ks : List K} (hp : s.pc = .exit .normal) (hk : s.ks = .next (Next N w0 ntm fr loc G μ x) :: ks)
    (hsub : subFr (fr x') s.fr) (hloc : s.loc = loc x') (hG : ∀ ρ a w, Inv N w0 ntm ρ s.fr s.loc a w → F ρ w → G x' ρ w) (hμ : μ x' < μ x) : At P Q N w0 ntm F s := by
  intro ρ a w hi hf
  rw [hp, hk]
  exact ⟨x', ⟨ρ, ⟨hi.act.sub hsub, hloc ▸ hi.mem⟩, hG ρ a w hi hf⟩, hμ⟩
end
end Go.Sx
