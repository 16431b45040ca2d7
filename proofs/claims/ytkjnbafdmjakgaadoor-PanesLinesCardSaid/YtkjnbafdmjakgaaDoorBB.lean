import Derived.Test.YtkjnbafdmjakgaaDoorBM
import Derived.Lib.Builder
import Derived.Lib.AppendStr
import Derived.Laws.Externs
set_option linter.unusedSimpArgs false
set_option linter.unusedVariables false
/-! A strings.Builder of one's own, as a fact: a block of two places, and the row that is its buffer. -/
namespace Go.Sx
open Go.RowKit
section
variable {P : Program} {Q : Exit → Act → World → Prop} {N : Nat} {w0 : World} {ntm : Nat} {F : List Nat → World → Prop}

def BldG (T e B b : Nat) (p v : Value) (A : Option Addr) (n c : Nat) (xs : List Value) (ρ : List Nat) (w : World) : Prop :=
  w.heap[b]? = some (.cells #[p, v] T (0, 0)) ∧ Row B e 1 A n c xs ρ w ∧ b ∉ ρ ∧ B ≤ b
section
variable {T e B b : Nat} {p v : Value} {A : Option Addr} {n c : Nat} {xs : List Value} {ρ : List Nat} {w : World}
theorem BldG.lt (h : BldG T e B b p v A n c xs ρ w) : b < w.heap.size := (Array.getElem?_eq_some_iff.1 h.1).1
theorem BldG.stable : Stable (BldG T e B b p v A n c xs) := fun ρ w ρ' w' hg hk h => by
  refine ⟨(hk.block b h.lt h.2.2.1).trans h.1, h.2.1.keep hg hk, fun hm => ?_, h.2.2.2⟩
  rcases hg.of_mem hm with h1 | h1
  · exact h.2.2.1 h1
  · have := h.lt; omega
theorem BldG.fewer : FewerK 0 (BldG T e B b p v A n c xs) := fun ρ w k _ h => ⟨h.1, Row.fewer _ _ _ _ _ _ _ ρ w k h.2.1, fun hm => h.2.2.1 (List.mem_of_mem_take hm), h.2.2.2⟩
theorem BldG.own (h : BldG T e B b p v A n c xs ρ w) (hT : T ≠ e) : (Value.slice A n c).ownBlock ≠ some b := by
  intro hb
  rcases h.2.1.1.2 with ⟨h', _⟩ | ⟨g, cap, cur, hv, _, hg, _⟩
  · rw [h'] at hb; cases hb
  · rw [hv] at hb
    simp only [Value.ownBlock, Option.some.injEq] at hb
    subst hb
    rw [h.1] at hg
    injection hg with hg
    injection hg with _ hg _
    exact hT hg
theorem BldG.cell0 (h : BldG T e B b p v A n c xs ρ w) : w.cell? ⟨b, 0, none⟩ = some p := by simp [World.cell?, h.1]
theorem BldG.cell1 (h : BldG T e B b p v A n c xs ρ w) : w.cell? ⟨b, 1, none⟩ = some v := by simp [World.cell?, h.1]
theorem BldG.shape (h : BldG T e B b p v A n c xs ρ w) : w.shape? b = some (T, 2) := by simp [World.shape?, h.1]
/-- One of the two places written. -/
theorem BldG.put (h : BldG T e B b p v A n c xs ρ w) (hT : T ≠ e) (i : Nat) (u : Value) (q : Array Value) (hq : (#[p, v] : Array Value).setIfInBounds i u = q) : (w.setCell ⟨b, i, none⟩ u).heap[b]? = some (.cells q T (0, 0)) ∧ Row B e 1 A n c xs ρ (w.setCell ⟨b, i, none⟩ u) := by
  refine ⟨?_, ⟨h.2.1.1.1, ?_⟩, h.2.1.2⟩
  · rw [heap_setCell_same w b i _ T u h.1, hq]
  · rcases h.2.1.1.2 with h2 | ⟨g, cap, cur, hv, hb, hg, hr⟩
    · exact .inl h2
    · refine .inr ⟨g, cap, cur, hv, hb, ?_, hr⟩
      rw [heap_setCell_other _ _ _ _ (fun hgb => ?_)]
      · exact hg
      · have hgb : g = b := hgb
        exact h.own hT (by rw [hv, ← hgb]; rfl)
end
theorem WInv.setOut {ρ : List Nat} {loc : Loc} {w : World} (h : WInv N w0 ρ loc w) {b : Nat} (hN : N ≤ b) (hm : b ∉ ρ) (i : Nat) (u : Value) : WInv N w0 ρ loc (w.setCell ⟨b, i, none⟩ u) := by
  have hsz : (w.setCell ⟨b, i, none⟩ u).heap.size = w.heap.size := by simp [World.setCell]
  refine ⟨h.below.setCell (p := ⟨b, i, none⟩) hN u, by rw [hsz]; exact h.hN, h.len, h.nodup, fun x hx => by rw [hsz]; exact h.ge x hx, fun k cs t hi => ?_⟩
  have hold := h.cells k cs t hi
  have hmm : nth ρ k ∈ ρ := by
    have : k < ρ.length := by rw [h.len]; exact (List.getElem?_eq_some_iff.1 hi).1
    simp [nth, List.getD, this]
  rw [heap_setCell_other _ _ _ _ (fun he => hm (by have he : nth ρ k = b := he; rw [← he]; exact hmm))]
  exact hold
/-- A place of the builder written. -/
theorem At.bldSt {s : S} {T e B b : Nat} {p v p' v' : Value} {A : Option Addr} {n c : Nat} {xs : List Value} (i : Nat) (cv : SV) (u : Value) (hq : stI P s = some (⟨b, i, none⟩, cv)) (hu : ∀ ρ, cv.den ρ = u) (hi2 : i < 2) (hpv : (#[p, v] : Array Value).setIfInBounds i u = #[p', v']) (hT : T ≠ e) (hN : N ≤ B)
    (h : At P Q N w0 ntm (BldG T e B b p' v' A n c xs) s.past) : At P Q N w0 ntm (BldG T e B b p v A n c xs) s := by
  unfold stI at hq
  split at hq
  · rename_i o ho hpl
    obtain ⟨all, rest, h1, h2, h3⟩ := S.past_at ho hpl
    intro ρ act w hi hf
    obtain ⟨hput1, hput2⟩ := hf.put hT i u _ hpv
    have hcell : ∃ x, w.cell? ⟨b, i, none⟩ = some x := by
      match i, hi2 with
      | 0, _ => exact ⟨_, hf.cell0⟩
      | 1, _ => exact ⟨_, hf.cell1⟩
    obtain ⟨x, hx⟩ := hcell
    have hz : (⟨b, i, none⟩ : Addr).add 0 = ⟨b, i, none⟩ := by rw [add_ok, Nat.add_zero]
    obtain ⟨hd, hrun⟩ := run_stQ hi.act hq (w := w) (v0 := x) (by rw [hz]; exact hx) (by rw [hz]; exact frozen_of_row w b i _ T hf.1)
    rw [hz, hu] at hrun
    have hk := h ρ act _ (by rw [h2]; exact ⟨hi.act, hi.mem.setOut (Nat.le_trans hN hf.2.2.2) hf.2.2.1 i u⟩) ⟨hput1, hput2, hf.2.2.1, hf.2.2.2⟩
    rw [h2] at hk
    rw [h1]
    show wpList P all _ (o :: rest) act w
    unfold wpList
    rw [if_pos (guardS_ok hi.act h3)]
    refine .inl ?_
    unfold Oper.wp
    rw [hrun, Oper.upon_skip, hd]
    exact hk
  · cases hq

/-! ### a string put behind a row of bytes -/
def apsQ (fr : Fr) (o : Oper) : Option (TypeId × TypeId × SV × SV) :=
  match o.op with
  | .call { callee := .builtin .append, args := ⟨[x, y]⟩, argTypes := ⟨[t, u]⟩ } => match evalS fr x, evalS fr y with
    | some sx, some sy => some (t, u, sx.asSl, sy)
    | _, _ => none
  | _ => none
theorem run_apsQ {ρ : List Nat} {fr : Fr} {a : Act} (ha : AInv ntm ρ fr a) {o : Oper} {t u : TypeId} {sx sy : SV} (h : apsQ fr o = some (t, u, sx, sy)) {v : Value} {w w' : World} (hr : (Builtin.append_ #[t, u] o.type #[sx.den ρ, sy.den ρ]).run P w = .ok v w') :
    (execOp a.eval o).run P w = .ok (.value v) w' := by
  obtain ⟨dst, op, ty, pos, after, guard⟩ := o
  unfold apsQ at h
  simp only at h
  split at h
  · split at h
    · rename_i s1 s2 hx hy
      simp only [Option.some.injEq, Prod.mk.injEq] at h
      obtain ⟨rfl, rfl, rfl, rfl⟩ := h
      simp only at hr
      rw [SV.asSl_den] at hr
      simp [execOp, resolve, invoke, builtin, evalS_sound ha hx, evalS_sound ha hy, hr]
    · cases h
  · cases h
def apsI (ntm : Nat) (s : S) : Option (TypeId × TypeId × SV × SV) := match s.head?, s.dstOk ntm, s.plain with
  | some o, true, true => apsQ s.fr o
  | _, _, _ => none
theorem At.apStr {s : S} {T B b : Nat} {p v : Value} {A : Option Addr} {n c : Nat} {xs : List Value} (t u e : TypeId) (sv : SV) (str : ByteArray) (hq : apsI ntm s = some (t, u, .sl A n c, sv)) (hsv : ∀ ρ, sv.den ρ = .string str) (ht : P.underlying t = some (.slice e)) (hu : P.underlying u = some .string)
    (hinfo : (P.info? e).map (fun i => (i.zero, i.size, i.bytes)) = some (some (.int .u8 0), 1, 1)) (hlen : n + str.size ≤ 140737488355328) (hN : N ≤ B) (hT : T ≠ e) (hloc : s.loc = [])
    (h : ∀ A' c', At P Q N w0 ntm (BldG T e B b p v A' (n + str.size) c' (xs ++ Lib.strCells str)) (s.tail ntm (.sl A' (n + str.size) c'))) : At P Q N w0 ntm (BldG T e B b p v A n c xs) s := by
  unfold apsI at hq
  split at hq
  · rename_i o ho hd hp
    refine At.opx (X := Option Addr × Nat) o (fun x => .sl x.1 (n + str.size) x.2) (fun x => BldG T e B b p v x.1 (n + str.size) x.2 (xs ++ Lib.strCells str)) ho hd hp ?_ (fun x => h x.1 x.2)
    intro ρ a w hi hf
    have hρ : ρ = [] := List.length_eq_zero_iff.1 (by rw [hi.mem.len, hloc]; rfl)
    obtain ⟨i, hi1, hi2⟩ := Option.map_eq_some_iff.1 hinfo
    simp only [Prod.mk.injEq] at hi2
    obtain ⟨v', w', hrun, hown, hg, _⟩ := Lib.run_append_own_string (P := P) w B t u o.type e i ht hu hi1 hi2.1 hi2.2.1 hi2.2.2 (.slice A n c) n xs hf.2.1.1 str (by simp only [maxLen]; omega) hlen (Nat.le_trans hf.2.2.2 (Nat.le_of_lt hf.lt))
    obtain ⟨A', c', rfl⟩ : ∃ A' c', v' = .slice A' (n + str.size) c' := by
      rcases hown.2 with ⟨hv, h0⟩ | ⟨g, cap, cur, hv, _⟩
      · exact ⟨none, 0, by rw [hv, h0]⟩
      · exact ⟨_, _, hv⟩
    have hne := hf.own hT
    have hbk : w'.heap[b]? = some (.cells #[p, v] T (0, 0)) := (hg.block b hf.lt (fun he => hne he.symm)).trans hf.1
    refine ⟨(A', c'), w', run_apsQ hi.act hq (by rw [hsv]; exact hrun), hi.mem.grown hg (fun g hgo => ⟨Nat.le_trans hN (hf.2.1.1.lt g hgo).1, hf.2.1.2 g hgo⟩), hbk, ⟨hown, fun g _ => by rw [hρ]; simp⟩, hf.2.2.1, hf.2.2.2⟩
  · cases hq
/-- An element put behind the buffer. -/
theorem At.apB {s : S} {T B b : Nat} {p v : Value} {A : Option Addr} {n c : Nat} {xs : List Value} (t e bytes : Nat) (i off k : Nat) (cells : List SV) (ct : TypeId) (news : List Value) (hq : apsI ntm s = some (t, t, .sl A n c, .ls i off 1 k)) (ht : elemT P t = some (e, 1, bytes)) (hl : s.loc[i]? = some (cells, ct))
    (hle : off + 1 * 1 ≤ cells.length) (hone : oneL ((cells.drop off).take (1 * 1)) = true) (hbytes : (n + 1) * bytes ≤ 140737488355328) (h63 : n + 1 ≤ maxLen) (hN : N ≤ B) (hT : T ≠ e) (hnews : ∀ ρ, SV.denL ρ ((cells.drop off).take (1 * 1)) = news)
    (h : ∀ A' c', At P Q N w0 ntm (BldG T e B b p v A' (n + 1) c' (xs ++ news)) (s.tail ntm (.sl A' (n + 1) c'))) : At P Q N w0 ntm (BldG T e B b p v A n c xs) s := by
  unfold apsI at hq
  split at hq
  · rename_i o ho hd hp
    have hq' : appS s.fr o = some (t, .sl A n c, .ls i off 1 k) := by
      unfold apsQ at hq
      unfold appS
      split at hq
      · split at hq
        · rename_i s1 s2 hx hy
          simp only [Option.some.injEq, Prod.mk.injEq] at hq
          obtain ⟨rfl, rfl, h3, rfl⟩ := hq
          rename_i heq
          simp only [heq, hx, hy, Nat.beq_refl, h3]
        · cases hq
      · cases hq
    refine At.append o t e 1 bytes B A n c xs i off 1 k cells ct ho hd hp hq' ht hl hle hone hbytes h63 hN
      (fun ρ w => (w.heap[b]? = some (.cells #[p, v] T (0, 0)) ∧ b ∉ ρ ∧ B ≤ b) ∧ (Value.slice A n c).ownBlock ≠ some b) (fun ρ w => w.heap[b]? = some (.cells #[p, v] T (0, 0)) ∧ b ∉ ρ ∧ B ≤ b)
      (fun ρ w hf => ⟨hf.2.1, Nat.le_trans hf.2.2.2 (Nat.le_of_lt hf.lt), ⟨hf.1, hf.2.2.1, hf.2.2.2⟩, hf.own hT⟩) (fun ρ w w' hf hg => ⟨(hg.block b (Array.getElem?_eq_some_iff.1 hf.1.1).1 (fun he => hf.2 he.symm)).trans hf.1.1, hf.1.2⟩) news hnews (fun x => ?_)
    exact At.mono (fun ρ w hf => ⟨hf.2.2.1, hf.1, hf.2.2.2.1, hf.2.2.2.2⟩) (h x.1 x.2)
  · cases hq

/-! ### pointers turned to unsafe ones and back; a function without a body -/
def cvuQ (fr : Fr) (o : Oper) : Option (TypeId × TypeId × SV) :=
  match o.op with
  | .convert src dst x => match evalS fr x with
    | some sx => some (src, dst, sx)
    | none => none
  | _ => none
theorem run_cvuQ {ρ : List Nat} {fr : Fr} {a : Act} (ha : AInv ntm ρ fr a) {o : Oper} {src dst : TypeId} {sx : SV} (h : cvuQ fr o = some (src, dst, sx)) {r : Value} {w : World} (hr : (convert src dst (sx.den ρ)).run P w = .ok r w) : (execOp a.eval o).run P w = .ok (.value r) w := by
  obtain ⟨d, op, ty, pos, after, guard⟩ := o
  unfold cvuQ at h
  simp only at h
  split at h
  · split at h
    · rename_i sx' hx
      simp only [Option.some.injEq, Prod.mk.injEq] at h
      obtain ⟨rfl, rfl, rfl⟩ := h
      simp [execOp, evalS_sound ha hx, hr, Result.andThen]
    · cases h
  · cases h
def cvuI (ntm : Nat) (s : S) : Option (TypeId × TypeId × SV) := match s.head?, s.dstOk ntm with
  | some o, true => cvuQ s.fr o
  | _, _ => none
theorem At.cvu {s : S} (src dst : TypeId) (sx r : SV) (hq : cvuI ntm s = some (src, dst, sx)) (hF : Stable F) (hr : ∀ ρ w, WInv N w0 ρ s.loc w → F ρ w → (convert src dst (sx.den ρ)).run P w = .ok (r.den ρ) w) (h : At P Q N w0 ntm F (s.tail ntm r)) : At P Q N w0 ntm F s := by
  unfold cvuI at hq
  split at hq
  · rename_i o ho hd
    exact At.op hF o r ho hd (fun ρ a w hi hf => run_cvuQ hi.act hq (hr ρ w hi.mem hf)) h
  · cases hq
def nckI (ntm : Nat) (s : S) : Option Addr := match s.head?, s.dstOk ntm with
  | some o, true => match o.op with
    | .nilCheck x => match evalS s.fr x with
      | some (.v (.pointer (some a))) => some a
      | _ => none
    | _ => none
  | _, _ => none
/-- A pointer outside is not nil. -/
theorem At.nck {s : S} (a : Addr) (hq : nckI ntm s = some a) (hF : Stable F) (h : At P Q N w0 ntm F (s.tail ntm (.v (.pointer (some a))))) : At P Q N w0 ntm F s := by
  unfold nckI at hq
  split at hq
  · rename_i o ho hd
    refine At.op hF o (.v (.pointer (some a))) ho hd (fun ρ act w hi hf => ?_) h
    obtain ⟨dst, op, ty, pos, after, guard⟩ := o
    simp only at hq
    split at hq
    · split at hq
      · rename_i x a' hx
        simp only [Option.some.injEq] at hq
        subst hq
        simp [execOp, evalS_sound hi.act hx, SV.den]
      · cases hq
    · cases hq
  · cases hq
def pcI (ntm : Nat) (s : S) : Option (BinOp × TypeId × Option Addr × Option Addr) := match s.head?, s.dstOk ntm with
  | some o, true => match o.op with
    | .binOp op t x y _ => match evalS s.fr x, evalS s.fr y with
      | some (.v (.pointer p)), some (.v (.pointer q)) => some (op, t, p, q)
      | _, _ => none
    | _ => none
  | _, _ => none
/-- Two pointers held against each other. -/
theorem At.pcmp {s : S} (op : BinOp) (t : TypeId) (p q : Option Addr) (b : Bool) (hq : pcI ntm s = some (op, t, p, q)) (hF : Stable F) (hr : ∀ w, (binOp op t (.pointer p) (.pointer q)).run P w = .ok (.bool b) w) (h : At P Q N w0 ntm F (s.tail ntm (.v (.bool b)))) : At P Q N w0 ntm F s := by
  unfold pcI at hq
  split at hq
  · rename_i o ho hd
    refine At.op hF o (.v (.bool b)) ho hd (fun ρ act w hi hf => ?_) h
    obtain ⟨dst, opr, ty, pos, after, guard⟩ := o
    simp only at hq
    split at hq
    · split at hq
      · rename_i op' t' x y tt _ _ p' q' hx hy
        simp only [Option.some.injEq, Prod.mk.injEq] at hq
        obtain ⟨rfl, rfl, rfl, rfl⟩ := hq
        have hg : (eqGuard op' t' x y (.pointer p') (.pointer q')).run P w = .ok () w := by cases op' <;> rfl
        simp only [execOp, evalS_sound hi.act hx, evalS_sound hi.act hy, SV.den, Sem.run_bind, hg, hr, Result.andThen_ok, Sem.run_pure]
      · cases hq
    · cases hq
  · cases hq
theorem run_eql_none {t e : TypeId} {j : TypeInfo} (a : Addr) (ht : P.underlying t = some (.pointer e)) (he : P.info? e = some j) (w : World) : (binOp .eql t (.pointer (some a)) (.pointer none)).run P w = .ok (.bool false) w := by
  have h : ∀ d : Nat, (Op.equalIn (d + 1) t (.pointer (some a)) (.pointer none)).run P w = .ok false w := fun d => by
    simp [Op.equalIn, run_underlying ht, sizeOf, typeInfo, he]
  simp only [binOp]
  simp [Op.equal, Op.maxDepth, h 9999]
theorem At.extern {s : S} (g : FuncId) (vs : List SV) (fn : Func) (f : Array Value → Sem Value) (r : SV) (hc : s.call? = some (g, vs)) (hd : s.dstOk ntm = true) (hf : P.funcs[g]? = some fn) (hname : (fn.name == "runtime.NumGoroutine") = false) (hb : fn.body.isNone = true) (hn : Extern.findNext fn = none) (he : Extern.find fn = some f)
    (hF : Stable F) (hr : ∀ ρ w, WInv N w0 ρ s.loc w → F ρ w → (f (SV.denL ρ vs).toArray).run P w = .ok (r.den ρ) w) (h : At P Q N w0 ntm F (s.tail ntm r)) : At P Q N w0 ntm F s := by
  unfold S.call? at hc
  split at hc
  · rename_i o ho
    refine At.op hF o r ho hd (fun ρ a w hi hfw => ?_) h
    have hrun := hr ρ w hi.mem hfw
    obtain ⟨dst, op, ty, pos, after, guard⟩ := o
    unfold callS at hc
    simp only at hc
    split at hc
    · rename_i fo args _
      split at hc
      · rename_i g' caps vs' hfv hv
        simp only [Option.some.injEq, Prod.mk.injEq] at hc
        obtain ⟨rfl, rfl⟩ := hc
        have e2 := evalL_sound hi.act hv
        have e3 : args.map a.eval = (SV.denL ρ vs').toArray := Array.ext' (by rw [← e2]; simp)
        have hcf : ∀ xs, (callFunc g' xs).run P w = ((f xs).run P w).andThen fun v w' => .ok (.value v) w' := fun xs => run_callFunc_extern hf hname hb hn he xs w
        have e4 : (SV.denL ρ (vs' ++ caps)).toArray = (SV.denL ρ vs').toArray ++ (SV.denL ρ caps).toArray := by simp [SV.denL_eq]
        rw [e4] at hrun
        simp only [execOp, resolve, Deferred.ofValue, evalS_sound hi.act hfv, SV.den, invoke, Sem.run_bind, Sem.run_pure, Result.andThen_ok, hcf, e3, Array.empty_append, hrun]
        
      · cases hc
    · cases hc
  · cases hc

/-! ### a new builder, put beside the local blocks; its calls -/
def BldV (T e B b : Nat) (xs : List Value) (ρ : List Nat) (w : World) : Prop := ∃ p A n c, (p = .pointer none ∨ p = .pointer (some ⟨b, 0, none⟩)) ∧ BldG T e B b p (.slice A n c) A n c xs ρ w
theorem BldV.stable {T e B b : Nat} {xs : List Value} : Stable (BldV T e B b xs) := fun ρ w ρ' w' hg hk ⟨p, A, n, c, hp, h⟩ => ⟨p, A, n, c, hp, BldG.stable ρ w ρ' w' hg hk h⟩
theorem BldV.fewer {T e B b : Nat} {xs : List Value} : FewerK 0 (BldV T e B b xs) := fun ρ w k hk ⟨p, A, n, c, hp, h⟩ => ⟨p, A, n, c, hp, BldG.fewer ρ w k hk h⟩
theorem At.bldNew {s : S} (t : Nat) (ts : List Nat) (T e : Nat) (hl : look s.fr t = some (.lp 0 0)) (hloc : s.loc = [([.v (.pointer none), .v (.slice none 0 0)], T)])
    (hsc : (scopedFr 0 (s.keep ts 0).fr && scopedLoc 0 (s.keep ts 0).loc) = true) (h : ∀ b, At P Q N w0 ntm (BldV T e N b []) ((s.keep ts 0).bind t (.v (.pointer (some ⟨b, 0, none⟩))))) : At P Q N w0 ntm noF s := by
  intro ρ a w hi _
  simp only [Bool.and_eq_true] at hsc
  have hk := hi.keep ts 0 hsc.1 hsc.2
  have hl1 : s.loc[0]? = some ([.v (.pointer none), .v (.slice none 0 0)], T) := by rw [hloc]; rfl
  have hcell := hi.mem.cells 0 _ _ hl1
  have hρl : ρ.length = 1 := by rw [hi.mem.len, hloc]; rfl
  have hmi : nth ρ 0 ∈ ρ := nth_mem (by omega)
  have hgi := hi.mem.ge _ hmi
  refine h (nth ρ 0) (ρ.take 0) a w ⟨⟨hk.act.defers, hk.act.size, fun t' x hx => ?_⟩, hk.mem⟩ ⟨_, none, 0, 0, .inl rfl, hcell, Row.nil _ _ _ _ _, by simp, hgi.1⟩
  simp only [S.bind, look] at hx
  split at hx
  · rename_i hb
    have := Nat.eq_of_beq_eq_true hb
    subst this
    simp only [Option.some.injEq] at hx
    subst hx
    exact hi.act.slot _ _ hl
  · exact hk.act.slot t' x hx
/-- A call behind which other facts hold, no local block standing. -/
theorem At.facts {s : S} {F G : List Nat → World → Prop} (g : FuncId) (vs : List SV) (r : SV) (hc : s.call? = some (g, vs)) (hb : bodied P g = true) (hd : s.dstOk ntm = true) (hp : s.plain = true) (hsc : scopedFr s.loc.length s.fr = true) (hloc : s.loc = [])
    (hr : ∀ w, WInv N w0 [] [] w → F [] w → Calls P g (SV.denL [] vs).toArray w fun e' w' => e' = .returned (r.den []) ∧ G [] w' ∧ Below N w w')
    (h : At P Q N w0 ntm G ((s.tail ntm r).withLoc s.loc)) : At P Q N w0 ntm F s := by
  refine At.callg (X := Unit) g vs (fun _ => r) (fun _ => s.loc) (fun _ => G) hc hb hd hp hsc ?_ (fun _ => h)
  intro ρ w hm hf
  have hρ : ρ = [] := List.length_eq_zero_iff.1 (by rw [hm.len, hloc]; rfl)
  subst hρ
  rw [hloc] at hm ⊢
  refine (hr w hm hf).mono ?_
  rintro e' w' ⟨rfl, hv, hbel⟩
  exact ⟨(), [], rfl, Grow.refl _ _, ⟨hm.below.trans hbel, Nat.le_trans hm.hN hbel.size, rfl, List.nodup_nil, by simp, by simp⟩, hv⟩
end
end Go.Sx
