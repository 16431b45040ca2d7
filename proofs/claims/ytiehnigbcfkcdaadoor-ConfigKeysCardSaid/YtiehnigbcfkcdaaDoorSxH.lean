import Derived.Test.YtiehnigbcfkcdaaDoorSxG
import Derived.Test.YtiehnigbcfkcdaaDoorSxR
set_option linter.unusedSimpArgs false
set_option linter.unusedVariables false
namespace Go.Sx
open Go.RowKit
section
variable {P : Program}

/-- One step of what needs no help. -/
def hasGoto : Code → Bool
  | .goto _ => true
  | .seq a b => hasGoto a || hasGoto b
  | .cond _ x y => hasGoto x || hasGoto y
  | .block _ c => hasGoto c
  | .loop c => hasGoto c
  | .scope c => hasGoto c
  | _ => false
def isMem : Op → Bool
  | .box .. => true
  | .alloc .. => true
  | .buildSlice .. => true
  | .store .. => true
  | .call c => match c.callee with | .builtin .append => true | _ => false
  | _ => false
def tailAt : List Oper → Nat
  | [] => 0
  | o :: l => match isMem o.op with | true => 0 | false => tailAt l + 1
/-- A call that may make new memory. -/
def freshO (P : Program) (o : Oper) : Bool :=
  match o.op with
  | .call c => match c.callee with
    | .value _ => match P.underlying o.type with
      | some (.slice _) => true
      | some (.pointer _) => true
      | _ => false
    | _ => false
  | _ => false
def freshL (P : Program) : List Oper → Bool
  | [] => false
  | o :: l => freshO P o || freshL P l
def anyR (P : Program) (ops : Array Oper) (s : S) : Option S :=
  match P.follows .mixedOrders with
  | true => some { s with pc := .any ops ops.size [] }
  | false => none
def step1 (P : Program) (ntm u : Nat) (s : S) : Option S :=
  match s.pc with
  | .code .skip => some { s with pc := .exit .normal }
  | .code (.label _) => some { s with pc := .exit .normal }
  | .code (.seq a b) => some { s with pc := .code a, ks := .seq b :: s.ks }
  | .code (.block id c) => some { s with pc := .code c, ks := .block id :: s.ks }
  | .code (.scope c) => match hasGoto c with
    | false => some { s with pc := .code c, ks := .scope :: s.ks }
    | true => none
  | .code (.goto l) => some { s with pc := .exit (.goto l) }
  | .code (.exit id) => some { s with pc := .exit (.exit id) }
  | .code .ret => some { s with pc := .exit .ret }
  | .code (.loop c) => match u with
    | 0 => none
    | m + 1 => some { s with pc := .code c, ks := .rounds c m :: s.ks }
  | .code (.cond c x y) => match evalS s.fr c with
    | some (.v (.bool true)) => some { s with pc := .code x }
    | some (.v (.bool false)) => some { s with pc := .code y }
    | _ => none
  | .code (.region _ ops false) => some { s with pc := .ops ops ops.toList }
  | .code (.region _ ops true) => match freshL P ops.toList with
    | true => anyR P ops s
    | false => match Nat.beq (tailAt ops.toList) ops.size with
      | true => match P.follows .mixedOrders && Region.lexB .any ops with
        | true => some { s with pc := .qops ops ops.toList }
        | false => anyR P ops s
      | false => match P.follows .mixedOrders && Region.lexTailB .any ops (tailAt ops.toList) with
        | true => some { s with pc := .qops ops (ops.toList.take (tailAt ops.toList)), ks := .tail ops (ops.toList.drop (tailAt ops.toList)) :: s.ks }
        | false => anyR P ops s
  | .any all f dn => match Region.ready .any all (listedOf all.size dn) with
    | [] => some { s with pc := .exit .normal }
    | [j] => match f with
      | 0 => none
      | f + 1 => some { s with pc := .ops all ((all.toList.drop j).take 1), ks := .any all f (j :: dn) :: s.ks }
    | _ => none
  | .ops _ [] => some { s with pc := .exit .normal }
  | .ops all (o :: rest) => match guardS all s.fr o with
    | some false => (putS ntm s.fr o.dst (.v undef)).map fun fr => { s with pc := .ops all rest, fr }
    | some true => match pureOp P s.loc s.fr o.op with
      | some r => (putS ntm s.fr o.dst r).map fun fr => { s with pc := .ops all rest, fr }
      | none => match memOp P s.fr s.loc o.op with
        | some (r, loc) => (putS ntm s.fr o.dst (r.getD (.v undef))).map fun fr => { s with pc := .ops all rest, fr, loc }
        | none => none
    | none => none
  | .qops _ [] => some { s with pc := .exit .normal }
  | .qops all (o :: rest) => match guardS all s.fr o with
    | some false => (putS ntm s.fr o.dst (.v undef)).map fun fr => { s with pc := .qops all rest, fr }
    | some true => match pureOp P s.loc s.fr o.op with
      | some r => (putS ntm s.fr o.dst r).map fun fr => { s with pc := .qops all rest, fr }
      | none => none
    | none => none
  | .exit .normal => match s.ks with
    | .seq c :: ks => some { s with pc := .code c, ks }
    | .block _ :: ks => some { s with ks }
    | .scope :: ks => some { s with ks }
    | .jump _ :: ks => some { s with ks }
    | .tail all l :: ks => some { s with pc := .ops all l, ks }
    | .any all f dn :: ks => some { s with pc := .any all f dn, ks }
    | .rounds c (n + 1) :: ks => some { s with pc := .code c, ks := .rounds c n :: ks }
    | _ => none
  | .exit (.exit id) => match s.ks with
    | .seq _ :: ks => some { s with ks }
    | .next _ :: ks => some { s with ks }
    | .rounds _ _ :: ks => some { s with ks }
    | .scope :: ks => some { s with ks }
    | .jump _ :: ks => some { s with ks }
    | .block id' :: ks => match Nat.beq id id' with
      | true => some { s with pc := .exit .normal, ks }
      | false => some { s with ks }
    | .tail _ _ :: _ => none
    | .any _ _ _ :: _ => none
    | [] => none
  | .exit .ret => match s.ks with
    | .seq _ :: ks => some { s with ks }
    | .next _ :: ks => some { s with ks }
    | .rounds _ _ :: ks => some { s with ks }
    | .scope :: ks => some { s with ks }
    | .jump _ :: ks => some { s with ks }
    | .block _ :: ks => some { s with ks }
    | .tail _ _ :: _ => none
    | .any _ _ _ :: _ => none
    | [] => none
  | .exit (.goto _) => match s.ks with
    | .seq _ :: ks => some { s with ks }
    | .next _ :: ks => some { s with ks }
    | .rounds _ _ :: ks => some { s with ks }
    | .block _ :: ks => some { s with ks }
    | _ => none
  | _ => none

/-- What a stretch of the walk hands on. -/
def Onto (P : Program) (Q : Exit → Act → World → Prop) (N : Nat) (w0 : World) (ntm : Nat) (ρ : List Nat) (w : World) (s : S) : Prop :=
  ∀ ρ' a' w', Grow w.heap.size ρ ρ' → Inv N w0 ntm ρ' s.fr s.loc a' w' → Keep ρ w w' → Ok P Q s.pc s.ks a' w'

theorem Onto.stay {Q : Exit → Act → World → Prop} {N : Nat} {w0 : World} {ntm : Nat} {ρ : List Nat} {w : World} {s : S} (h : Onto P Q N w0 ntm ρ w s) {a : Act} (hi : Inv N w0 ntm ρ s.fr s.loc a w) : Ok P Q s.pc s.ks a w :=
  h ρ a w (Grow.refl _ _) hi (Keep.refl _ _)

theorem quiet_put {ops : Array Oper} {C : World → Prop} {Q : Act → Prop} {a : Act} {o : Oper} {rest : List Oper} {v : Value} (hw : Region.wanted o (yielded ops a.tmps) = true)
    (hr : ∀ w, C w → (execOp a.eval o).run P w = .ok (.value v) w) (h : wpQuiet P ops C Q rest (a.put o.dst v)) : wpQuiet P ops C Q (o :: rest) a := by
  unfold wpQuiet
  rw [if_pos hw]
  exact ⟨v, fun w hC => by unfold Oper.quietAt; rw [hr w hC]; exact ⟨rfl, rfl⟩, h⟩

theorem wp_then {o : Oper} {a : Act} {w : World} {next K f : Act → World → Prop} {Q : Exit → Act → World → Prop} (hn : ∀ a w, next a w → K a w) (h : o.wp P a w next (Exit.then f Q)) : o.wp P a w K Q := by
  unfold Oper.wp at *
  generalize (execOp a.eval o).run P w = r at *
  cases r with
  | ok n w' =>
    cases n <;> simp only [Oper.upon] at h ⊢
    case value => exact hn _ _ h
    case skip => exact hn _ _ h
    case defer => exact hn _ _ h
    case row => exact h.mono fun _ _ hh => hn _ _ hh
    case enter =>
      refine h.mono fun e w'' hh => ?_
      cases e with
      | returned v => exact hn _ _ hh
      | panicked c => exact hh
      | outgrown => exact hh
  | halt x w' =>
    cases x <;> simp only [Oper.upon] at h ⊢
    exact h
theorem wpOp_of_list {all : Array Oper} {Q : Exit → Act → World → Prop} {K : Act → World → Prop} {j : Nat} {a : Act} {w : World} (h : wpList P all (Exit.then K Q) ((all.toList.drop j).take 1) a w) : wpOp P all Q j K a w := by
  unfold wpOp
  cases hj : all[j]? with
  | none =>
    have h0 : all.toList.drop j = [] := by
      rw [List.drop_eq_nil_iff]
      have := Array.getElem?_eq_none_iff.1 hj
      simpa using this
    rw [h0] at h
    exact h
  | some o =>
    have h0 : (all.toList.drop j).take 1 = [o] := by
      obtain ⟨hl, he⟩ := Array.getElem?_eq_some_iff.1 hj
      have hl' : j < all.toList.length := by simpa using hl
      rw [List.drop_eq_getElem_cons hl', List.take_succ_cons, List.take_zero]
      simp [he]
    rw [h0] at h
    unfold wpList at h
    simp only
    split
    · rename_i hw
      rw [if_pos hw] at h
      rcases h with h | ⟨h1, a', w', h2⟩
      · exact .inl (wp_then (fun _ _ hh => hh) h)
      · exact .inr ⟨h1, a', w', h2⟩
    · rename_i hw
      rw [if_neg hw] at h
      exact h
theorem anyR_sound {Q : Exit → Act → World → Prop} {N : Nat} {w0 : World} {ntm : Nat} {ρ : List Nat} {a : Act} {w : World} {s s' : S} {ops : Array Oper} {id : Nat} (hs : anyR P ops s = some s')
    (hi : Inv N w0 ntm ρ s.fr s.loc a w) (h : Onto P Q N w0 ntm ρ w s') : (Code.region id ops true).wp P (postK P s.ks Q) a w := by
  have hbel : Below w.heap.size w { w with drawn := w.drawn + 1 } := ⟨rfl, rfl, rfl, Nat.le_refl _, fun _ _ => rfl⟩
  unfold anyR at hs
  split at hs
  · rename_i hm
    simp only [Option.some.injEq] at hs; subst hs
    exact wp_region_any hm (h ρ a { w with drawn := w.drawn + 1 } (Grow.refl _ _) ⟨hi.act, hi.mem.after hbel⟩ (Keep.of_below hbel))
  · cases hs
theorem step1_sound {Q : Exit → Act → World → Prop} {N : Nat} {w0 : World} {ntm : Nat} {ρ : List Nat} {a : Act} {w : World} {s s' : S} {u : Nat} (hs : step1 P ntm u s = some s')
    (hi : Inv N w0 ntm ρ s.fr s.loc a w) (h : Onto P Q N w0 ntm ρ w s') : Ok P Q s.pc s.ks a w := by
  obtain ⟨pc, ks, fr, loc⟩ := s
  simp only at hi
  unfold step1 at hs
  simp only at hs
  split at hs
  · simp only [Option.some.injEq] at hs; subst hs; exact wp_skip (h.stay hi)
  · simp only [Option.some.injEq] at hs; subst hs; exact wp_label (h.stay hi)
  · simp only [Option.some.injEq] at hs; subst hs; exact wp_seq (h.stay hi)
  · simp only [Option.some.injEq] at hs; subst hs; exact wp_block (h.stay hi)
  · split at hs
    · simp only [Option.some.injEq] at hs; subst hs; exact wp_scope_straight (h.stay hi)
    · cases hs
  · simp only [Option.some.injEq] at hs; subst hs; exact wp_goto (h.stay hi)
  · simp only [Option.some.injEq] at hs; subst hs; exact wp_exit (h.stay hi)
  · simp only [Option.some.injEq] at hs; subst hs; exact wp_ret (h.stay hi)
  · split at hs
    · cases hs
    · rename_i m
      simp only [Option.some.injEq] at hs; subst hs
      exact wp_loop_rounds (m + 1) (by rw [rounds_succ]; exact h.stay hi)
  · split at hs
    · rename_i hc
      simp only [Option.some.injEq] at hs; subst hs
      exact wp_cond_true (evalS_sound hi.act hc) (h.stay hi)
    · rename_i hc
      simp only [Option.some.injEq] at hs; subst hs
      exact wp_cond_false (evalS_sound hi.act hc) (h.stay hi)
    · cases hs
  · simp only [Option.some.injEq] at hs; subst hs; exact wp_region_list (h.stay hi)
  · have hbel : Below w.heap.size w { w with drawn := w.drawn + 1 } := ⟨rfl, rfl, rfl, Nat.le_refl _, fun _ _ => rfl⟩
    split at hs
    · exact anyR_sound hs hi h
    split at hs
    · split at hs
      · rename_i hb
        simp only [Bool.and_eq_true] at hb
        simp only [Option.some.injEq] at hs; subst hs
        have hk := h ρ a { w with drawn := w.drawn + 1 } (Grow.refl _ _) ⟨hi.act, hi.mem.after hbel⟩ (Keep.of_below hbel)
        exact wp_region_quiet hb.1 hb.2 (Below.refl _ _) hk
      · exact anyR_sound hs hi h
    · split at hs
      · rename_i hb
        simp only [Bool.and_eq_true] at hb
        simp only [Option.some.injEq] at hs; subst hs
        have hk := h ρ a { w with drawn := w.drawn + 1 } (Grow.refl _ _) ⟨hi.act, hi.mem.after hbel⟩ (Keep.of_below hbel)
        exact wp_region_quiet_tail _ hb.1 hb.2 (Below.refl _ _) hk
      · exact anyR_sound hs hi h
  · rename_i all f dn
    split at hs
    · rename_i hr
      simp only [Option.some.injEq] at hs; subst hs
      have hk := h.stay hi
      show wpAny P .any all _ f _ a w
      cases f with
      | zero => exact ⟨hr, hk⟩
      | succ f => exact ⟨fun _ => hk, fun i hi' => by rw [hr] at hi'; cases hi'⟩
    · rename_i j hr
      split at hs
      · cases hs
      · rename_i f
        simp only [Option.some.injEq] at hs; subst hs
        have hk := h.stay hi
        refine ⟨fun h0 => (by rw [hr] at h0; cases h0), fun i hi' => ?_⟩
        rw [hr] at hi'
        have : i = j := by simpa using hi'
        subst this
        exact wpOp_of_list hk
    · cases hs
  · rename_i all
    simp only [Option.some.injEq] at hs; subst hs
    show wpList P all _ [] a w
    exact wpList_nil (h.stay hi)
  · rename_i all o rest
    split at hs
    · rename_i hg
      obtain ⟨fr', hp, he⟩ := Option.map_eq_some_iff.1 hs
      subst he
      have hw := guardS_ok hi.act hg
      show wpList P all _ (o :: rest) a w
      unfold wpList
      rw [if_neg (by rw [hw]; simp)]
      exact h ρ _ w (Grow.refl _ _) ⟨putS_ok hi.act hp, hi.mem⟩ (Keep.refl _ _)
    · rename_i hg
      have hw := guardS_ok hi.act hg
      split at hs
      · rename_i r hr
        obtain ⟨fr', hp, he⟩ := Option.map_eq_some_iff.1 hs
        subst he
        show wpList P all _ (o :: rest) a w
        unfold wpList
        rw [if_pos hw]
        refine .inl ?_
        unfold Oper.wp
        rw [run_pureOp hi.act (fun _ => hi.mem) hr]
        exact h ρ _ w (Grow.refl _ _) ⟨putS_ok hi.act hp, hi.mem⟩ (Keep.refl _ _)
      · split at hs
        · rename_i r loc' hr
          obtain ⟨fr', hp, he⟩ := Option.map_eq_some_iff.1 hs
          subst he
          obtain ⟨ρ', w', h1, h3, h4, h5, h7⟩ := run_memOp hi.act hi.mem hr
          show wpList P all _ (o :: rest) a w
          unfold wpList
          rw [if_pos hw]
          refine .inl ?_
          unfold Oper.wp
          rw [h7]
          cases r with
          | some s0 => exact h ρ' _ w' h1 ⟨putS_ok h3 hp, h4⟩ h5
          | none => exact h ρ' _ w' h1 ⟨putS_ok h3 hp, h4⟩ h5
        · cases hs
    · cases hs
  · simp only [Option.some.injEq] at hs; subst hs
    simp only [Ok, wpQuiet]
    intro w' hb
    exact h ρ a w' (Grow.refl _ _) ⟨hi.act, hi.mem.after hb⟩ (Keep.of_below hb)
  · rename_i all o rest
    split at hs
    · rename_i hg
      obtain ⟨fr', hp, he⟩ := Option.map_eq_some_iff.1 hs
      subst he
      have hw := guardS_ok hi.act hg
      show wpQuiet P all _ _ (o :: rest) a
      unfold wpQuiet
      rw [if_neg (by rw [hw]; simp)]
      exact h ρ _ w (Grow.refl _ _) ⟨putS_ok hi.act hp, hi.mem⟩ (Keep.refl _ _)
    · rename_i hg
      have hw := guardS_ok hi.act hg
      split at hs
      · rename_i r hr
        obtain ⟨fr', hp, he⟩ := Option.map_eq_some_iff.1 hs
        subst he
        refine quiet_put hw (fun w' hb => run_pureOp hi.act (fun _ => hi.mem.after hb) hr) ?_
        exact h ρ _ w (Grow.refl _ _) ⟨putS_ok hi.act hp, hi.mem⟩ (Keep.refl _ _)
      · cases hs
    · cases hs
  · split at hs <;> simp only [Option.some.injEq, reduceCtorEq] at hs <;> subst hs <;> exact h.stay hi
  · split at hs
    · simp only [Option.some.injEq] at hs; subst hs; exact h.stay hi
    · simp only [Option.some.injEq] at hs; subst hs; exact h.stay hi
    · simp only [Option.some.injEq] at hs; subst hs; exact h.stay hi
    · simp only [Option.some.injEq] at hs; subst hs; exact h.stay hi
    · simp only [Option.some.injEq] at hs; subst hs; exact h.stay hi
    · split at hs
      · rename_i hb
        simp only [Option.some.injEq] at hs; subst hs
        have := Nat.eq_of_beq_eq_true hb
        subst this
        simp only [Ok, postK, Exit.inBlock, if_true]
        exact h.stay hi
      · rename_i hb
        simp only [Option.some.injEq] at hs; subst hs
        simp only [Ok, postK, Exit.inBlock]
        rw [if_neg (fun e => by subst e; simp at hb)]
        exact h.stay hi
    · cases hs
    · cases hs
    · cases hs
  · split at hs <;> simp only [Option.some.injEq, reduceCtorEq] at hs <;> subst hs <;> exact h.stay hi
  · split at hs <;> simp only [Option.some.injEq, reduceCtorEq] at hs <;> subst hs <;> exact h.stay hi
  · cases hs

def srun (P : Program) (ntm u : Nat) : Nat → S → S
  | 0, s => s
  | n + 1, s => match step1 P ntm u s with
    | some s' => srun P ntm u n s'
    | none => s

theorem srun_sound {Q : Exit → Act → World → Prop} {N : Nat} {w0 : World} {ntm u : Nat} : ∀ (n : Nat) {s : S} {ρ : List Nat} {a : Act} {w : World},
    Inv N w0 ntm ρ s.fr s.loc a w → Onto P Q N w0 ntm ρ w (srun P ntm u n s) → Ok P Q s.pc s.ks a w
  | 0, s, ρ, a, w, hi, h => h.stay hi
  | n + 1, s, ρ, a, w, hi, h => by
    simp only [srun] at h
    split at h
    · rename_i s' hs
      exact step1_sound hs hi fun ρ' a' w' h1 h4 h5 => srun_sound n h4 fun ρ'' a'' w'' k1 k4 k5 => h ρ'' a'' w'' (h1.trans k1 h5.size) k4 (h5.trans k5 fun x hx => h1.of_mem hx)
    · exact h.stay hi
end
end Go.Sx
