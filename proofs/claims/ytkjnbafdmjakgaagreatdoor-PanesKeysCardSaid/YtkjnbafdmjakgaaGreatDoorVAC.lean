/- Joined texts: SxM, SxN, SxO, SxQ, SxS, SxU, SxW, SxX, SxY, SxAA, SxBB, SxCC, SxDD. -/
import Derived.Test.YtkjnbafdmjakgaaGreatDoorVAB
import Derived.Maps.AppendAt
import Derived.ScopeJumps
import Derived.Laws.BytesString
import Derived.Laws.Slices
import Derived.Laws.IdiomStrings
set_option linter.unusedSectionVars false
set_option linter.unusedSimpArgs false
set_option linter.unusedVariables false
section
namespace Go.Sx
open Go.RowKit
section
variable {P : Program} {Q : Exit → Act → World → Prop} {N : Nat} {w0 : World} {ntm : Nat} {F : List Nat → World → Prop}
variable [Md]
def S.plain (s : S) : Bool := match s.pc with | .ops .. => true | _ => false
theorem At.opx {X : Type} {s : S} (o : Oper) (r : X → SV) (G : X → List Nat → World → Prop) (ho : s.head? = some o) (hd : s.dstOk ntm = true) (hp : s.plain = true)
  (hr : ∀ ρ a w, Inv N w0 ntm ρ s.fr s.loc a w → F ρ w → ∃ x w', (execOp a.eval o).run P w = .ok (.value ((r x).den ρ)) w' ∧ WInv N w0 ρ s.loc w' ∧ G x ρ w')
  (h : ∀ x, At P Q N w0 ntm (G x) (s.tail ntm (r x))) : At P Q N w0 ntm F s := by
 intro ρ a w hi hf
 obtain ⟨pc, ks, fr, loc⟩ := s
 cases pc with
 | ops all rest =>
  cases rest with
  | nil => simp [S.head?] at ho
  | cons o' rest =>
   simp only [S.head?] at ho
   split at ho
   ·rename_i hg
    simp only [Option.some.injEq] at ho
    subst ho
    obtain ⟨x, w', h1, h2, h3⟩ := hr ρ a w hi hf
    obtain ⟨fr', hpp⟩ := putS_some (fr := fr) (ntm := ntm) hd (r x)
    have hk := h x ρ (a.put o'.dst ((r x).den ρ)) w' (by simp only [S.tail, hpp]; exact ⟨putS_ok hi.act hpp, h2⟩) h3
    simp only [S.tail, hpp] at hk
    show wpList P all _ (o' :: rest) a w
    unfold wpList
    rw [if_pos (guardS_ok hi.act hg)]
    refine .inl ?_
    unfold Oper.wp
    rw [h1]
    exact hk
   ·cases ho
 | qops all rest => simp [S.plain] at hp
 | code c => simp [S.plain] at hp
 | any _ _ _ => simp [S.plain] at hp
 | exit e => simp [S.plain] at hp
def S.withLoc (s : S) (l : Loc) : S := { s with loc := l }
theorem At.callg {X : Type} {s : S} (g : FuncId) (vs : List SV) (r : X → SV) (nl : X → Loc) (G : X → List Nat → World → Prop) (hc : s.call? = some (g, vs)) (hb : bodied P g = true) (hd : s.dstOk ntm = true) (hp : s.plain = true)
  (hsc : scopedFr s.loc.length s.fr = true)
  (hr : ∀ ρ w, WInv N w0 ρ s.loc w → F ρ w → Calls P g (SV.denL ρ vs).toArray w fun e w' => ∃ x ρ', e = .returned ((r x).den ρ') ∧ Grow w.heap.size ρ ρ' ∧ WInv N w0 ρ' (nl x) w' ∧ G x ρ' w')
  (h : ∀ x, At P Q N w0 ntm (G x) ((s.tail ntm (r x)).withLoc (nl x))) : At P Q N w0 ntm F s := by
 intro ρ a w hi hf
 obtain ⟨pc, ks, fr, loc⟩ := s
 unfold S.call? at hc
 split at hc
 ·rename_i o ho
  cases pc with
  | ops all rest =>
   cases rest with
   | nil => simp [S.head?] at ho
   | cons o' rest =>
    simp only [S.head?] at ho
    split at ho
    ·rename_i hg
     simp only [Option.some.injEq] at ho
     subst ho
     show wpList P all _ (o' :: rest) a w
     unfold wpList
     rw [if_pos (guardS_ok hi.act hg)]
     refine .inl ?_
     unfold Oper.wp
     rw [run_callS hi.act hc hb]
     refine (hr ρ w hi.mem hf).mono ?_
     rintro e w' ⟨x, ρ', rfl, ⟨ext, rfl, hext⟩, hw, hG⟩
     obtain ⟨fr', hpp⟩ := putS_some (fr := fr) (ntm := ntm) hd (r x)
     have ha : AInv ntm (ρ ++ ext) fr a := by
      refine ⟨hi.act.defers, hi.act.size, fun t s hl => ?_⟩
      have hs := scopedFr_look hsc hl
      have hlen := hi.mem.len
      have hden : s.den (ρ ++ ext) = s.den ρ := by
       have := SV.den_take (ρ ++ ext) loc.length s hs
       rw [← this]
       congr 1
       simp only at hlen
       rw [← hlen]
       simp
      rw [hden]
      exact hi.act.slot t s hl
     have hk := h x (ρ ++ ext) (a.put o'.dst ((r x).den (ρ ++ ext))) w' (by simp only [S.tail, hpp, S.withLoc]; exact ⟨putS_ok ha hpp, hw⟩) hG
     simp only [S.tail, hpp, S.withLoc] at hk
     exact hk
    ·cases ho
  | qops all rest => simp [S.plain] at hp
  | code c => simp [S.plain] at hp
  | any _ _ _ => simp [S.plain] at hp
  | exit e => simp [S.plain] at hp
 ·cases hc
theorem WInv.grown {w w' : World} {ρ : List Nat} {loc : Loc} {row : Option Nat} (h : WInv N w0 ρ loc w) (hg : w.grownBy w' row) (hrow : ∀ g, row = some g → N ≤ g ∧ g ∉ ρ) : WInv N w0 ρ loc w' :=
 ⟨h.below.grown hg h.hN (fun k hk => (hrow k hk).1), Nat.le_trans h.hN hg.size, h.len, h.nodup, fun b hm => ⟨(h.ge b hm).1, Nat.lt_of_lt_of_le (h.ge b hm).2 hg.size⟩, fun i c t hi => by
  have hold := h.cells i c t hi
  have hm : nth ρ i ∈ ρ := by
   have : i < ρ.length := by rw [h.len]; exact (List.getElem?_eq_some_iff.1 hi).1
   simp [nth, List.getD, this]
  rw [hg.block _ (Array.getElem?_eq_some_iff.1 hold).1 (fun e => (hrow _ e.symm).2 hm)]
  exact hold⟩
/-! ### a row of one's own -/
def Row (base e size : Nat) (A : Option Addr) (n c : Nat) (xs : List Value) (ρ : List Nat) (w : World) : Prop :=
 w.ownsRow base e size (.slice A n c) n xs ∧ ∀ g, (Value.slice A n c).ownBlock = some g → g ∉ ρ
theorem Row.nil (base e size : Nat) (ρ : List Nat) (w : World) : Row base e size none 0 0 [] ρ w := ⟨World.ownsRow_nil _ _ _ _, fun g h => by simp [Value.ownBlock] at h⟩
theorem Row.keep {base e size : Nat} {A : Option Addr} {n c : Nat} {xs : List Value} {ρ ρ' : List Nat} {w w' : World} (h : Row base e size A n c xs ρ w) (hg : Grow w.heap.size ρ ρ') (hk : Keep ρ w w') : Row base e size A n c xs ρ' w' := by
 have hlt := h.1.lt
 refine ⟨?_, fun g hh hm => ?_⟩
 ·obtain ⟨h1, h2⟩ := h.1
  refine ⟨h1, ?_⟩
  rcases h2 with h2 | ⟨g, cap, cur, hv, hb, hc, hr⟩
  ·exact .inl h2
  ·have ho : (Value.slice A n c).ownBlock = some g := by rw [hv]; rfl
   exact .inr ⟨g, cap, cur, hv, hb, by rw [hk.block g (hlt g ho).2 (h.2 g ho)]; exact hc, hr⟩
 ·rcases hg.of_mem hm with h1 | h1
  ·exact h.2 g hh h1
  ·have := (hlt g hh).2; omega
theorem Row.fewer (base e size : Nat) (A : Option Addr) (n c : Nat) (xs : List Value) : Fewer (Row base e size A n c xs) := fun _ _ _ h => ⟨h.1, fun g hg hm => h.2 g hg (List.mem_of_mem_take hm)⟩
theorem Row.len {base e size : Nat} {A : Option Addr} {n c : Nat} {xs : List Value} {ρ : List Nat} {w : World} (h : Row base e size A n c xs ρ w) : xs.length = n * size := h.1.1
theorem Row.cell {base e size : Nat} {A : Option Addr} {n c : Nat} {xs : List Value} {ρ : List Nat} {w : World} (h : Row base e size A n c xs ρ w) {j : Nat} (hj : j < n * size) : ∃ g, A = some ⟨g, 0, none⟩ ∧ w.cell? ⟨g, j, none⟩ = xs[j]? := by
 rcases h.1.2 with ⟨h2, h3⟩ | ⟨g, cap, cur, hv, _⟩
 ·subst h3; simp at hj
 ·injection hv with hA _ hc
  subst hA; subst hc
  exact ⟨g, rfl, h.1.cellAt j hj⟩
def elemT (P : Program) (t : TypeId) : Option (TypeId × Nat × Nat) :=
 match P.underlying t with
 | some (.slice e) => match P.info? e with
  | some i => match i.zero with
   | some z => match Nat.beq z.cells.size i.size && Nat.blt 0 i.size with
    | true => some (e, i.size, i.bytes)
    | false => none
   | none => none
  | none => none
 | _ => none
theorem run_append_row {t ty e size bytes : Nat} (ht : elemT P t = some (e, size, bytes)) {base : Nat} {A : Option Addr} {n c : Nat} {xs : List Value} {ρ : List Nat} {w : World} (h : Row base e size A n c xs ρ w) (hbase : base ≤ w.heap.size) (hρ : ∀ b ∈ ρ, b < w.heap.size)
  (a : Addr) (m k : Nat) (news : List Value) (hl : news.length = m * size) (hnews : ∀ j u, news[j]? = some u → w.cell? (a.add j) = some u) (h1 : ∀ u ∈ news, u.oneCell' = true)
  (hbytes : (n + m) * bytes ≤ 140737488355328) (h63 : n + m ≤ maxLen) :
  ∃ A' c' w', (Builtin.append_ #[t, t] ty #[.slice A n c, .slice (some a) m k]).run P w = .ok (.slice A' (n + m) c') w' ∧ Row base e size A' (n + m) c' (xs ++ news) ρ w' ∧ w.grownBy w' (Value.slice A n c).ownBlock ∧
   ((Value.slice A' (n + m) c').ownBlock = (Value.slice A n c).ownBlock ∨ (Value.slice A' (n + m) c').ownBlock = some w.heap.size) := by
 unfold elemT at ht
 split at ht
 ·rename_i e' hu
  split at ht
  ·rename_i i hi
   split at ht
   ·rename_i z hz
    split at ht
    ·rename_i hb
     simp only [Bool.and_eq_true] at hb
     simp only [Option.some.injEq, Prod.mk.injEq] at ht
     obtain ⟨rfl, rfl, rfl⟩ := ht
     have hzs := Nat.eq_of_beq_eq_true hb.1
     have hsz : 0 < i.size := by simpa using hb.2
     obtain ⟨v', w', hrun, h2, h3, _, h5⟩ := run_append_own_at (P := P) w base t ty e' i z i.size i.bytes hu hi hz rfl rfl hzs hsz (.slice A n c) n xs h.1 a m k news hl hnews h1 h63 hbytes hbase
     have hv : ∃ A' c', v' = .slice A' (n + m) c' := by
      rcases h2.2 with ⟨hv, h0⟩ | ⟨g, cap, cur, hv, _⟩
      ·exact ⟨none, 0, by rw [hv, h0]⟩
      ·exact ⟨_, _, hv⟩
     obtain ⟨A', c', rfl⟩ := hv
     refine ⟨A', c', w', hrun, ⟨h2, fun g hg hm => ?_⟩, h3, h5⟩
     rcases h5 with h5 | h5
     ·exact h.2 g (h5 ▸ hg) hm
     ·rw [h5] at hg
      injection hg with hg
      have := hρ g hm
      omega
    ·cases ht
   ·cases ht
  ·cases ht
 ·cases ht
def SV.asSl : SV → SV
 | .v (.slice A n c) => .sl A n c
 | s => s
theorem SV.asSl_den (ρ : List Nat) : ∀ s : SV, s.asSl.den ρ = s.den ρ := by
 intro s
 cases s with
 | v x => cases x <;> rfl
 | _ => rfl
def appS (fr : Fr) (o : Oper) : Option (TypeId × SV × SV) :=
 match o.op with
 | .call { callee := .builtin .append, args := ⟨[x, y]⟩, argTypes := ⟨[t, t']⟩ } => match Nat.beq t t', evalS fr x, evalS fr y with
  | true, some sx, some sy => some (t, sx.asSl, sy)
  | _, _, _ => none
 | _ => none
theorem run_appS {ρ : List Nat} {fr : Fr} {a : Act} (ha : AInv ntm ρ fr a) {o : Oper} {t : TypeId} {sx sy : SV} (h : appS fr o = some (t, sx, sy)) {v : Value} {w w' : World} (hr : (Builtin.append_ #[t, t] o.type #[sx.den ρ, sy.den ρ]).run P w = .ok v w') :
  (execOp a.eval o).run P w = .ok (.value v) w' := by
 obtain ⟨dst, op, ty, pos, after, guard⟩ := o
 unfold appS at h
 simp only at h
 split at h
 ·rename_i x y t0 t0'
  split at h
  ·rename_i s1 s2 hb hx hy
   simp only [Option.some.injEq, Prod.mk.injEq] at h
   obtain ⟨rfl, rfl, rfl⟩ := h
   have := Nat.eq_of_beq_eq_true hb
   subst this
   simp only at hr
   rw [SV.asSl_den] at hr
   simp [execOp, resolve, invoke, builtin, evalS_sound ha hx, evalS_sound ha hy, hr]
  ·cases h
 ·cases h
theorem At.append {s : S} (o : Oper) (t e size bytes : Nat) (base : Nat) (A : Option Addr) (n c : Nat) (xs : List Value) (i off m k : Nat) (cells : List SV) (ct : TypeId) (ho : s.head? = some o) (hd : s.dstOk ntm = true) (hp : s.plain = true)
  (ha : appS s.fr o = some (t, .sl A n c, .ls i off m k)) (ht : elemT P t = some (e, size, bytes)) (hl : s.loc[i]? = some (cells, ct)) (hle : off + m * size ≤ cells.length) (hone : oneL ((cells.drop off).take (m * size)) = true)
  (hbytes : (n + m) * bytes ≤ 140737488355328) (h63 : n + m ≤ maxLen) (hN : N ≤ base)
  (F2 : List Nat → World → Prop) (G : List Nat → World → Prop) (hF : ∀ ρ w, F ρ w → Row base e size A n c xs ρ w ∧ base ≤ w.heap.size ∧ F2 ρ w) (hG : ∀ ρ w w', F2 ρ w → w.grownBy w' (Value.slice A n c).ownBlock → G ρ w')
  (news : List Value) (hnews : ∀ ρ, SV.denL ρ ((cells.drop off).take (m * size)) = news)
  (h : ∀ x : Option Addr × Nat, At P Q N w0 ntm (fun ρ w => Row base e size x.1 (n + m) x.2 (xs ++ news) ρ w ∧ base ≤ w.heap.size ∧ G ρ w) (s.tail ntm (.sl x.1 (n + m) x.2))) : At P Q N w0 ntm F s := by
 refine At.opx o (fun x : Option Addr × Nat => .sl x.1 (n + m) x.2) (fun x ρ w => Row base e size x.1 (n + m) x.2 (xs ++ news) ρ w ∧ base ≤ w.heap.size ∧ G ρ w) ho hd hp ?_ h
 intro ρ a w hi hf
 obtain ⟨hrow, hb, hf2⟩ := hF ρ w hf
 have hlen : news.length = m * size := by
  rw [← hnews ρ]
  simp [SV.denL_eq]; omega
 obtain ⟨A', c', w', h1, h2, h3, h4⟩ := run_append_row (P := P) (ty := o.type) ht hrow hb (fun b hb => (hi.mem.ge b hb).2) ⟨nth ρ i, off, none⟩ m k news hlen (fun j u hj => by
   rw [add_ok, cell_of_loc hi.mem hl]
   rw [← hnews ρ] at hj
   have hjn : j < m * size := by
    have := (List.getElem?_eq_some_iff.1 hj).1
    simp [SV.denL_eq] at this
    omega
   simpa [SV.denL_eq, List.getElem?_take, hjn, List.getElem?_drop] using hj) (by rw [← hnews ρ]; exact oneL_den hone) hbytes h63
 refine ⟨(A', c'), w', run_appS hi.act ha h1, hi.mem.grown h3 (fun g hg => ?_), h2, Nat.le_trans hb h3.size, hG ρ w w' hf2 h3⟩
 exact ⟨Nat.le_trans hN (hrow.1.lt g hg).1, hrow.2 g hg⟩
end
section
variable {P : Program} {Q : Exit → Act → World → Prop} {N : Nat} {w0 : World} {ntm : Nat} {F : List Nat → World → Prop}
theorem enterF {f : FuncId} {fn : Func} {c : Code} {R : Ending → World → Prop} (sargs : List SV) (hf : P.funcs[f]? = some fn) (hb : fn.body = some c) (hle : Nat.ble sargs.length fn.ntmps = true)
  (hN : N ≤ w0.heap.size) (hF : F [] w0) (h : At P (bodyPost P fn R) N w0 fn.ntmps F ⟨.code c, [], frOf 0 sargs, []⟩) : Calls P f (SV.denL [] sargs).toArray w0 R := by
 refine calls_of_wp hf hb (h [] _ w0 ⟨⟨rfl, ?_, ?_⟩, ?_⟩ hF)
 ·have := Nat.le_of_ble_eq_true hle
  simp [SV.denL_eq]; omega
 ·intro t s hs
  have := look_frOf (ρ := []) (pre := []) (rest := List.replicate (fn.ntmps - sargs.length) undef) rfl hs
  rw [← Array.getElem?_toList]
  simpa [SV.denL_eq] using this
 ·exact ⟨Below.refl _ _, hN, rfl, List.nodup_nil, by simp, by simp⟩
end
end Go.Sx
namespace Go.Sx
open Go.RowKit
section
variable {P : Program} {Q : Exit → Act → World → Prop} {N : Nat} {w0 : World} {ntm : Nat} {F : List Nat → World → Prop}
variable [Md]
theorem At.mono {F' : List Nat → World → Prop} {s : S} (hF : ∀ ρ w, F ρ w → F' ρ w) (h : At P Q N w0 ntm F' s) : At P Q N w0 ntm F s := fun ρ a w hi hf => h ρ a w hi (hF ρ w hf)
theorem At.pure {F' : List Nat → World → Prop} {p : Prop} {s : S} (h : p → At P Q N w0 ntm F' s) : At P Q N w0 ntm (fun ρ w => F' ρ w ∧ p) s := fun ρ a w hi hf => h hf.2 ρ a w hi hf.1
theorem Stable.and {F G : List Nat → World → Prop} (h : Stable F) (k : Stable G) : Stable (fun ρ w => F ρ w ∧ G ρ w) := fun ρ w ρ' w' hg hk ⟨h1, h2⟩ => ⟨h ρ w ρ' w' hg hk h1, k ρ w ρ' w' hg hk h2⟩
structure Chg (ok : Nat → Prop) (w w' : World) : Prop where
 os : w'.os = w.os
 tape : w'.tape = w.tape
 output : w'.output = w.output
 size : w.heap.size ≤ w'.heap.size
 block : ∀ k, k < w.heap.size → ¬ ok k → w'.heap[k]? = w.heap[k]?
theorem Chg.refl (ok : Nat → Prop) (w : World) : Chg ok w w := ⟨rfl, rfl, rfl, Nat.le_refl _, fun _ _ _ => rfl⟩
theorem Chg.trans {ok : Nat → Prop} {a b c : World} (h : Chg ok a b) (k : Chg ok b c) : Chg ok a c :=
 ⟨k.os.trans h.os, k.tape.trans h.tape, k.output.trans h.output, Nat.le_trans h.size k.size, fun i hi ho => (k.block i (Nat.lt_of_lt_of_le hi h.size) ho).trans (h.block i hi ho)⟩
theorem Chg.mono {ok ok' : Nat → Prop} {a b : World} (h : Chg ok a b) (ho : ∀ k, k < a.heap.size → ok k → ok' k) : Chg ok' a b :=
 ⟨h.os, h.tape, h.output, h.size, fun i hi hn => h.block i hi fun hk => hn (ho i hi hk)⟩
theorem Chg.below {ok : Nat → Prop} {a b : World} {B : Nat} (h : Chg ok a b) (hB : B ≤ a.heap.size) (ho : ∀ k, k < B → ¬ ok k) : Below B a b :=
 ⟨h.os, h.tape, h.output, h.size, fun i hi => h.block i (Nat.lt_of_lt_of_le hi hB) (ho i hi)⟩
theorem Chg.ofBelow {ok : Nat → Prop} {a b : World} (h : Below a.heap.size a b) : Chg ok a b :=
 ⟨h.os, h.tape, h.output, h.size, fun i hi _ => h.block i hi⟩
theorem Chg.ofGrown {ok : Nat → Prop} {a b : World} {row : Option Nat} (h : a.grownBy b row) (ho : ∀ k, some k = row → k < a.heap.size → ok k) : Chg ok a b :=
 ⟨h.os, h.tape, h.output, h.size, fun i hi hn => h.block i hi fun e => hn (ho i e hi)⟩
def FewerK (j : Nat) (F : List Nat → World → Prop) : Prop := ∀ ρ w k, j ≤ k → F ρ w → F (ρ.take k) w
theorem At.toJ {j : Nat} (hF : Stable F) (hF' : FewerK j F) (u n : Nat) (ts : List Nat) (k : Nat) {s : S} (s' : S) (hs : (srun P ntm u n s).keep ts k = s') (hsc : (scopedFr k s'.fr && (scopedLoc k s'.loc && Nat.ble j k)) = true) (h : At P Q N w0 ntm F s') : At P Q N w0 ntm F s := by
 refine At.run hF u n ?_
 intro ρ a w hi hf
 simp only [Bool.and_eq_true] at hsc
 subst hs
 exact h _ a w (hi.keep ts k hsc.1 hsc.2.1) (hF' _ _ _ (Nat.le_of_ble_eq_true hsc.2.2) hf)
def FrameR (w0 : World) (ok : Nat → Prop) (ρ0 : List Nat) (ρ : List Nat) (w : World) : Prop := Chg ok w0 w ∧ (∀ b ∈ ρ, ok b ∨ w0.heap.size ≤ b) ∧ ρ.take ρ0.length = ρ0
theorem FrameR.stable {ok : Nat → Prop} {ρ0 : List Nat} : Stable (FrameR w0 ok ρ0) := fun ρ w ρ' w' hg hk ⟨h1, h2, h3⟩ =>
 ⟨⟨hk.os.trans h1.os, hk.tape.trans h1.tape, hk.output.trans h1.output, Nat.le_trans h1.size hk.size, fun k hk' hne => (hk.block k (Nat.lt_of_lt_of_le hk' h1.size) (fun hm => by
   rcases h2 k hm with h | h
   ·exact hne h
   ·omega)).trans (h1.block k hk' hne)⟩,
  fun b hb => by
   rcases hg.of_mem hb with h | h
   ·exact h2 b h
   ·have := h1.size; exact .inr (by omega), by
  obtain ⟨ext, rfl, _⟩ := hg
  have hl : ρ0.length ≤ ρ.length := by
   have := congrArg List.length h3
   simp at this; omega
  rw [List.take_append_of_le_length hl]; exact h3⟩
theorem FrameR.fewer {ok : Nat → Prop} {ρ0 : List Nat} : FewerK ρ0.length (FrameR w0 ok ρ0) := fun ρ _ k hk h => ⟨h.1, fun b hb => h.2.1 b (List.mem_of_mem_take hb), by
 rw [List.take_take, Nat.min_eq_left hk]; exact h.2.2⟩
theorem FrameR.start (ok : Nat → Prop) (ρ : List Nat) (h : ∀ b ∈ ρ, ok b) : FrameR w0 ok ρ ρ w0 := ⟨Chg.refl _ _, fun b hb => .inl (h b hb), by simp⟩
theorem FrameR.nth {ok : Nat → Prop} {ρ0 ρ : List Nat} {w : World} (h : FrameR w0 ok ρ0 ρ w) {i : Nat} (hi : i < ρ0.length) : nth ρ i = nth ρ0 i := by
 have := h.2.2
 conv => rhs; rw [← this]
 simp [Go.Sx.nth, List.getD, hi]
def RowF (w0 : World) (ok : Nat → Prop) (ρ0 : List Nat) (base e size : Nat) (A : Option Addr) (n c : Nat) (xs : List Value) (ρ : List Nat) (w : World) : Prop :=
 (Row base e size A n c xs ρ w ∧ base ≤ w.heap.size) ∧ FrameR w0 ok ρ0 ρ w ∧ ∀ g, (Value.slice A n c).ownBlock = some g → ok g ∨ w0.heap.size ≤ g
theorem RowF.stable {ok : Nat → Prop} {ρ0 : List Nat} {base e size : Nat} {A : Option Addr} {n c : Nat} {xs : List Value} : Stable (RowF w0 ok ρ0 base e size A n c xs) := fun ρ w ρ' w' hg hk ⟨⟨h1, h2⟩, h3, h4⟩ =>
 ⟨⟨h1.keep hg hk, Nat.le_trans h2 hk.size⟩, FrameR.stable ρ w ρ' w' hg hk h3, h4⟩
theorem RowF.fewer {ok : Nat → Prop} {ρ0 : List Nat} {base e size : Nat} {A : Option Addr} {n c : Nat} {xs : List Value} : FewerK ρ0.length (RowF w0 ok ρ0 base e size A n c xs) := fun ρ w k hk ⟨⟨h1, h2⟩, h3, h4⟩ =>
 ⟨⟨Row.fewer _ _ _ _ _ _ _ ρ w k h1, h2⟩, FrameR.fewer ρ w k hk h3, h4⟩
theorem FrameR.chg {ok ok' : Nat → Prop} {ρ0 ρ : List Nat} {w w' : World} (h : FrameR w0 ok ρ0 ρ w) (hg : Chg ok' w w') (hr : ∀ g, g < w.heap.size → ok' g → ok g ∨ w0.heap.size ≤ g) : FrameR w0 ok ρ0 ρ w' :=
 ⟨⟨hg.os.trans h.1.os, hg.tape.trans h.1.tape, hg.output.trans h.1.output, Nat.le_trans h.1.size hg.size, fun k hk hne => (hg.block k (Nat.lt_of_lt_of_le hk h.1.size) (fun e => by
  rcases hr k (Nat.lt_of_lt_of_le hk h.1.size) e with h1 | h1
  ·exact hne h1
  ·omega)).trans (h.1.block k hk hne)⟩, h.2⟩
theorem FrameR.grown {ok : Nat → Prop} {row : Option Nat} {ρ0 ρ : List Nat} {w w' : World} (h : FrameR w0 ok ρ0 ρ w) (hg : w.grownBy w' row) (hr : ∀ g, row = some g → ok g ∨ w0.heap.size ≤ g) : FrameR w0 ok ρ0 ρ w' :=
 h.chg (Chg.ofGrown (ok := fun k => some k = row) hg fun _ e _ => e) fun g _ e => hr g e.symm
theorem At.appendF {s : S} (ok : Nat → Prop) (ρ0 : List Nat) (o : Oper) (t e size bytes : Nat) (base : Nat) (A : Option Addr) (n c : Nat) (xs : List Value) (i off m k : Nat) (cells : List SV) (ct : TypeId) (news : List Value) (ho : s.head? = some o) (hd : s.dstOk ntm = true) (hp : s.plain = true)
  (ha : appS s.fr o = some (t, .sl A n c, .ls i off m k)) (ht : elemT P t = some (e, size, bytes)) (hl : s.loc[i]? = some (cells, ct)) (hle : Nat.ble (off + m * size) cells.length = true) (hone : oneL ((cells.drop off).take (m * size)) = true)
  (hnews : ∀ ρ, SV.denL ρ ((cells.drop off).take (m * size)) = news)
  (hbytes : (n + m) * bytes ≤ 140737488355328) (h63 : n + m ≤ maxLen) (hN : N ≤ base)
  (h : ∀ (A' : Option Addr) (c' : Nat), At P Q N w0 ntm (RowF w0 ok ρ0 base e size A' (n + m) c' (xs ++ news)) (s.tail ntm (.sl A' (n + m) c'))) : At P Q N w0 ntm (RowF w0 ok ρ0 base e size A n c xs) s := by
 refine At.opx o (fun x : Option Addr × Nat => .sl x.1 (n + m) x.2) (fun x ρ w => RowF w0 ok ρ0 base e size x.1 (n + m) x.2 (xs ++ news) ρ w) ho hd hp ?_ (fun x => h x.1 x.2)
 intro ρ a w hi ⟨⟨hrow, hb⟩, hfr, hblk⟩
 have hlen : news.length = m * size := by
  rw [← hnews ρ]
  have := Nat.le_of_ble_eq_true hle
  simp [SV.denL_eq]; omega
 obtain ⟨A', c', w', h1, h2, h3, h4⟩ := run_append_row (P := P) (ty := o.type) ht hrow hb (fun b hb => (hi.mem.ge b hb).2) ⟨nth ρ i, off, none⟩ m k news hlen (fun j u hj => by
   rw [add_ok, cell_of_loc hi.mem hl]
   rw [← hnews ρ] at hj
   have hjn : j < m * size := by
    have := (List.getElem?_eq_some_iff.1 hj).1
    simp [SV.denL_eq] at this
    omega
   simpa [SV.denL_eq, List.getElem?_take, hjn, List.getElem?_drop] using hj) (by rw [← hnews ρ]; exact oneL_den hone) hbytes h63
 refine ⟨(A', c'), w', run_appS hi.act ha h1, hi.mem.grown h3 (fun g hg => ⟨Nat.le_trans hN (hrow.1.lt g hg).1, hrow.2 g hg⟩), ⟨h2, Nat.le_trans hb h3.size⟩, hfr.grown h3 hblk, fun g hg => ?_⟩
 rcases h4 with h4 | h4
 ·exact hblk g (h4 ▸ hg)
 ·rw [h4] at hg
  injection hg with hg
  have := hfr.1.size
  exact .inr (by omega)
end
end Go.Sx
namespace Go.Sx
open Go.RowKit
section
variable {P : Program} {Q : Exit → Act → World → Prop} {N : Nat} {w0 : World} {ntm : Nat} {F : List Nat → World → Prop}
variable [Md]
structure AppQ where
 t : TypeId
 e : TypeId
 size : Nat
 bytes : Nat
 A : Option Addr
 n : Nat
 c : Nat
 m : Nat
 nl : List SV
def appQ (P : Program) (ntm : Nat) (s : S) : Option (Oper × AppQ × Nat × Nat × Nat × List SV × TypeId) :=
 match s.head? with
 | some o => match appS s.fr o with
  | some (t, .sl A n c, .ls i off m k) => match elemT P t, s.loc[i]? with
   | some (e, size, bytes), some (cells, ct) => match s.plain && (Nat.ble (off + m * size) cells.length && oneL ((cells.drop off).take (m * size))) && s.dstOk ntm with
    | true => some (o, ⟨t, e, size, bytes, A, n, c, m, (cells.drop off).take (m * size)⟩, i, off, k, cells, ct)
    | false => none
   | _, _ => none
  | _ => none
 | none => none
def appI (P : Program) (ntm : Nat) (s : S) : Option AppQ := (appQ P ntm s).map (·.2.1)
theorem At.appq {s : S} (q : AppQ) (ok : Nat → Prop) (ρ0 : List Nat) (base : Nat) (xs news : List Value) (hq : appI P ntm s = some q) (hnews : ∀ ρ, SV.denL ρ q.nl = news)
  (hbytes : (q.n + q.m) * q.bytes ≤ 140737488355328) (h63 : q.n + q.m ≤ maxLen) (hN : N ≤ base)
  (h : ∀ (A' : Option Addr) (c' : Nat), At P Q N w0 ntm (RowF w0 ok ρ0 base q.e q.size A' (q.n + q.m) c' (xs ++ news)) (s.tail ntm (.sl A' (q.n + q.m) c'))) : At P Q N w0 ntm (RowF w0 ok ρ0 base q.e q.size q.A q.n q.c xs) s := by
 unfold appI at hq
 obtain ⟨⟨o, q', i, off, k, cells, ct⟩, h1, h2⟩ := Option.map_eq_some_iff.1 hq
 simp only at h2
 subst h2
 unfold appQ at h1
 split at h1
 ·rename_i o' ho
  split at h1
  ·rename_i t A n c i' off' m k' ha
   split at h1
   ·rename_i e size bytes cells' ct' ht hl
    split at h1
    ·rename_i hb
     simp only [Option.some.injEq, Prod.mk.injEq] at h1
     obtain ⟨rfl, rfl, rfl, rfl, rfl, rfl, rfl⟩ := h1
     simp only [Bool.and_eq_true] at hb
     exact At.appendF ok ρ0 _ t e size bytes base A n c xs _ _ m _ _ _ news ho hb.2 hb.1.1 ha ht hl hb.1.2.1 hb.1.2.2 hnews hbytes h63 hN h
    ·cases h1
   ·cases h1
  ·cases h1
 ·cases h1
theorem At.app {s : S} (t e size bytes : Nat) (A : Option Addr) (n c m : Nat) (nl : List SV) (ok : Nat → Prop) (ρ0 : List Nat) (base : Nat) (xs news : List Value) (hq : appI P ntm s = some ⟨t, e, size, bytes, A, n, c, m, nl⟩) (hnews : ∀ ρ, SV.denL ρ nl = news)
  (hbytes : (n + m) * bytes ≤ 140737488355328) (h63 : n + m ≤ maxLen) (hN : N ≤ base)
  (h : ∀ (A' : Option Addr) (c' : Nat), At P Q N w0 ntm (RowF w0 ok ρ0 base e size A' (n + m) c' (xs ++ news)) (s.tail ntm (.sl A' (n + m) c'))) : At P Q N w0 ntm (RowF w0 ok ρ0 base e size A n c xs) s :=
 At.appq ⟨t, e, size, bytes, A, n, c, m, nl⟩ ok ρ0 base xs news hq hnews hbytes h63 hN h
end
end Go.Sx
end
section
namespace Go.Sx
open Go.RowKit
section
variable {P : Program} {Q : Exit → Act → World → Prop} {N : Nat} {w0 : World} {ntm : Nat} {F : List Nat → World → Prop}
theorem enterG {f : FuncId} {fn : Func} {c : Code} {R : Ending → World → Prop} (sargs : List SV) (ρ0 : List Nat) (loc0 : Loc) (hf : P.funcs[f]? = some fn) (hb : fn.body = some c) (hle : Nat.ble sargs.length fn.ntmps = true)
  (hm : WInv N w0 ρ0 loc0 w0) (hF : F ρ0 w0) (h : At P (bodyPost P fn R) N w0 fn.ntmps F ⟨.code c, [], frOf 0 sargs, loc0⟩) : Calls P f (SV.denL ρ0 sargs).toArray w0 R := by
 refine calls_of_wp hf hb (h ρ0 _ w0 ⟨⟨rfl, ?_, ?_⟩, hm⟩ hF)
 ·have := Nat.le_of_ble_eq_true hle
  simp [SV.denL_eq]; omega
 ·intro t s hs
  have := look_frOf (ρ := ρ0) (pre := []) (rest := List.replicate (fn.ntmps - sargs.length) undef) rfl hs
  rw [← Array.getElem?_toList]
  simpa [SV.denL_eq] using this
variable [Md]
theorem WInv.start1 {p : Nat} {c : List SV} {t : TypeId} (hN : N ≤ p) (h : w0.heap[p]? = some (.cells (SV.denL [p] c).toArray t)) : WInv N w0 [p] [(c, t)] w0 := by
 have hp := (Array.getElem?_eq_some_iff.1 h).1
 refine ⟨Below.refl _ _, by omega, rfl, by simp, fun b hb => ?_, fun i c' t' hi => ?_⟩
 ·simp at hb; subst hb; exact ⟨hN, hp⟩
 ·cases i with
  | zero => simp at hi; obtain ⟨rfl, rfl⟩ := hi; simpa [nth] using h
  | succ i => simp at hi
theorem WInv.step {ok : Nat → Prop} {ρ : List Nat} {loc loc' : Loc} {w1 w2 : World} (h : WInv N w0 ρ loc w1) (hc : Chg ok w1 w2) (hok : ∀ g, g < w1.heap.size → ok g → N ≤ g) (hl : loc'.length = loc.length)
  (hcells : ∀ i c t, loc'[i]? = some (c, t) → w2.heap[nth ρ i]? = some (.cells (SV.denL ρ c).toArray t)) : WInv N w0 ρ loc' w2 :=
 ⟨h.below.trans (hc.below h.hN fun k hk ho => by have := hok k (Nat.lt_of_lt_of_le hk h.hN) ho; omega), Nat.le_trans h.hN hc.size, h.len.trans hl.symm, h.nodup, fun b hb => ⟨(h.ge b hb).1, Nat.lt_of_lt_of_le (h.ge b hb).2 hc.size⟩, hcells⟩
theorem nth_mem {ρ : List Nat} {i : Nat} (h : i < ρ.length) : nth ρ i ∈ ρ := by simp [nth, List.getD, h]
theorem WInv.kept {ok : Nat → Prop} {ρ : List Nat} {loc : Loc} {w1 w2 : World} (h : WInv N w0 ρ loc w1) (hc : Chg ok w1 w2) {i : Nat} {c : List SV} {t : TypeId} (hi : loc[i]? = some (c, t)) (hn : ¬ ok (nth ρ i)) : w2.heap[nth ρ i]? = some (.cells (SV.denL ρ c).toArray t) := by
 have hold := h.cells i c t hi
 rw [hc.block _ (Array.getElem?_eq_some_iff.1 hold).1 hn]
 exact hold
theorem nth_inj {ρ : List Nat} (hn : ρ.Nodup) {i j : Nat} (hi : i < ρ.length) (hj : j < ρ.length) (h : nth ρ i = nth ρ j) : i = j := by
 simp only [nth, List.getD, List.getElem?_eq_getElem hi, List.getElem?_eq_getElem hj, Option.getD_some] at h
 exact (List.getElem_inj hn).1 h
theorem denL_closed {ρ ρ' : List Nat} {l : List SV} (h : SV.scopedL 0 l = true) : SV.denL ρ l = SV.denL ρ' l := by
 rw [← SV.denL_take ρ 0 l h, ← SV.denL_take ρ' 0 l h]
 simp
end
end Go.Sx
end
section
namespace Go.Sx
open Go.RowKit
section
variable {P : Program} {Q : Exit → Act → World → Prop} {N : Nat} {w0 : World} {ntm : Nat} {F : List Nat → World → Prop}
variable [Md]
def SV.shift (n : Nat) : SV → SV
 | .lp i o => .lp (n + i) o
 | .ls i o l c => .ls (n + i) o l c
 | s => s
def SV.shiftOk : SV → Bool
 | .lp _ _ => true
 | .ls _ _ _ _ => true
 | s => s.inBlk 0
theorem SV.shift_den {ρ ρc : List Nat} {n : Nat} (hn : ρ.length = n) : ∀ {s : SV}, s.shiftOk = true → (s.shift n).den (ρ ++ ρc) = s.den ρc := by
  have hnth : ∀ i, nth (ρ ++ ρc) (n + i) = nth ρc i := fun i => by
    simp only [nth, List.getD]
    rw [List.getElem?_append_right (by omega)]
    congr 2; omega
  intro s h
  cases s <;> simp only [SV.shift, SV.den, hnth] <;> simp only [SV.shiftOk] at h
  all_goals first
    | rfl
    | (have h1 := SV.den_take (ρ ++ ρc) 0 _ h
       have h2 := SV.den_take ρc 0 _ h
       simp only [List.take_zero, SV.den] at h1 h2
       rw [← h1, ← h2])
theorem At.newcall {s : S} (g : FuncId) (vs : List SV) (v : SV) (locc : Loc) (hF : Stable F) (hc : s.call? = some (g, vs)) (hb : bodied P g = true) (hd : s.dstOk ntm = true) (hp : s.plain = true)
  (hsc : scopedFr s.loc.length s.fr = true) (hl : scopedLoc s.loc.length s.loc = true) (hv : v.shiftOk = true) (hcl : scopedLoc 0 locc = true)
  (hr : ∀ ρ w, WInv N w0 ρ s.loc w → F ρ w → Calls P g (SV.denL ρ vs).toArray w fun e' w' => ∃ ρc, e' = .returned (v.den ρc) ∧ WInv w.heap.size w ρc locc w')
  (h : At P Q N w0 ntm F ((s.tail ntm (v.shift s.loc.length)).withLoc (s.loc ++ locc))) : At P Q N w0 ntm F s := by
 refine At.callg (X := Unit) g vs (fun _ => v.shift s.loc.length) (fun _ => s.loc ++ locc) (fun _ => F) hc hb hd hp hsc ?_ (fun _ => h)
 intro ρ w hm hf
 refine (hr ρ w hm hf).mono ?_
 rintro e' w' ⟨ρc, rfl, km⟩
 have hblk : ∀ k, k < w.heap.size → w'.heap[k]? = w.heap[k]? := km.below.block
 have hgrow : Grow w.heap.size ρ (ρ ++ ρc) := ⟨ρc, rfl, fun x hx => (km.ge x hx).1⟩
 have hlen := hm.len
 refine ⟨(), ρ ++ ρc, by rw [SV.shift_den hm.len hv], hgrow, ⟨hm.below.trans (km.below.mono hm.hN), Nat.le_trans hm.hN km.below.size, by simp [hm.len, km.len], ?_, ?_, ?_⟩, hF ρ w (ρ ++ ρc) w' hgrow ⟨km.below.os, km.below.tape, km.below.output, km.below.size, fun k hk _ => hblk k hk⟩ hf⟩
 ·rw [List.nodup_append]
  refine ⟨hm.nodup, km.nodup, fun x hx y hy => ?_⟩
  have := (hm.ge x hx).2
  have := (km.ge y hy).1
  omega
 ·intro b hb
  rcases List.mem_append.1 hb with hb | hb
  ·exact ⟨(hm.ge b hb).1, Nat.lt_of_lt_of_le (hm.ge b hb).2 km.below.size⟩
  ·exact ⟨Nat.le_trans hm.hN (km.ge b hb).1, (km.ge b hb).2⟩
 ·intro i c t hi
  by_cases hlt : i < s.loc.length
  ·rw [List.getElem?_append_left hlt] at hi
   have hold := hm.cells i c t hi
   have hs := scopedLoc_get hl hi
   have hn : nth (ρ ++ ρc) i = nth ρ i := by simp only [nth, List.getD]; rw [List.getElem?_append_left (by omega)]
   have hden : SV.denL (ρ ++ ρc) c = SV.denL ρ c := by
    rw [← SV.denL_take (ρ ++ ρc) s.loc.length c hs, ← hlen]
    simp
   rw [hn, hden, hblk _ (Array.getElem?_eq_some_iff.1 hold).1]
   exact hold
  ·rw [List.getElem?_append_right (by omega)] at hi
   have hn : nth (ρ ++ ρc) i = nth ρc (i - s.loc.length) := by
    simp only [nth, List.getD]
    rw [List.getElem?_append_right (by omega), hlen]
   rw [hn, denL_closed (ρ' := ρc) (scopedLoc_get hcl hi)]
   exact km.cells _ c t hi
def Src (w : World) (a : Addr) (xs : List Value) : Prop := ∀ j u, xs[j]? = some u → w.cell? (a.add j) = some u
theorem cell_below {B : Nat} {w w' : World} (h : Below B w w') {a : Addr} (ha : a.block < B) : w'.cell? a = w.cell? a := by
 unfold World.cell?
 rw [h.block _ ha]
def newQ (P : Program) (ntm : Nat) (s : S) (ts : List Nat) : Option (TypeId × Nat × Nat × Addr × Nat × Nat) :=
 match s.head? with
 | some o => match appS s.fr o with
  | some (t, .ls i 0 0 0, .sl (some a) n c) => match elemT P t, s.loc[i]? with
   | some (e, size, bytes), some ([], ct) => match s.plain && s.dstOk ntm && Nat.beq s.loc.length (i + 1) && Nat.beq ct e && scopedFr i (s.keep ts i).fr && scopedLoc i (s.keep ts i).loc with
    | true => some (e, size, bytes, a, n, c)
    | false => none
   | _, _ => none
  | _ => none
 | none => none
theorem At.appNew {s : S} (ts : List Nat) (e size bytes : Nat) (a : Addr) (n c : Nat) (xs : List Value) (hq : newQ P ntm s ts = some (e, size, bytes, a, n, c)) (hN : N = w0.heap.size) (ha : a.block < w0.heap.size) (hsrc : Src w0 a xs) (hl : xs.length = n * size) (h1 : ∀ u ∈ xs, u.oneCell' = true)
  (hbytes : n * bytes ≤ 140737488355328) (h63 : n ≤ maxLen)
  (h : ∀ (A' : Option Addr) (c' : Nat), At P Q N w0 ntm (RowF w0 (fun _ => False) [] w0.heap.size e size A' n c' xs) ((s.keep ts (s.loc.length - 1)).tail ntm (.sl A' n c'))) : At P Q N w0 ntm noF s := by
 intro ρ act w hi _
 unfold newQ at hq
 split at hq
 ·rename_i o ho
  split at hq
  ·rename_i t i a' n' c' hap
   split at hq
   ·rename_i e' size' bytes' ct ht hloc
    split at hq
    ·rename_i hb
     simp only [Option.some.injEq, Prod.mk.injEq] at hq
     obtain ⟨rfl, rfl, rfl, rfl, rfl, rfl⟩ := hq
     simp only [Bool.and_eq_true] at hb
     obtain ⟨⟨⟨⟨⟨hp, hd⟩, hlen⟩, hct⟩, hsf⟩, hsl⟩ := hb
     have hlen := Nat.eq_of_beq_eq_true hlen
     have hct := Nat.eq_of_beq_eq_true hct
     subst hct
     have him : s.loc.length - 1 = i := by omega
     rw [him] at h
     have hk := hi.keep ts i hsf hsl
     have hcell := hi.mem.cells i _ _ hloc
     have hρl : ρ.length = i + 1 := by rw [hi.mem.len, hlen]
     have hmi : nth ρ i ∈ ρ := nth_mem (by omega)
     have hgi := hi.mem.ge _ hmi
     have hni : ∀ g, some g = (Value.slice (some ⟨nth ρ i, 0, none⟩) 0 0).ownBlock → g ∉ ρ.take i := by
      intro g hg hmem
      simp only [Value.ownBlock, Option.some.injEq] at hg
      subst hg
      obtain ⟨j, hj, he⟩ := List.getElem_of_mem hmem
      have hj' : j < i := by simp at hj; omega
      have hnj : nth ρ j = nth ρ i := by
       rw [← he]
       simp only [nth, List.getD, List.getElem_take, List.getElem?_eq_getElem (show j < ρ.length by omega), Option.getD_some]
      have := nth_inj hi.mem.nodup (by omega) (by omega) hnj
      omega
     have hrow : w.ownsRow w0.heap.size ct size' (.slice (some ⟨nth ρ i, 0, none⟩) 0 0) 0 [] :=
      ⟨by simp, .inr ⟨nth ρ i, 0, #[], rfl, hN ▸ hgi.1, hcell, Nat.le_refl _, Nat.zero_le _, by simp, by simp⟩⟩
     have hrow' : Row w0.heap.size ct size' (some ⟨nth ρ i, 0, none⟩) 0 0 [] (ρ.take i) w := ⟨hrow, fun g hg => hni g hg.symm⟩
     have hsize : w0.heap.size ≤ w.heap.size := hi.mem.below.size
     obtain ⟨A', cc, w', hrun, h2, h3, h4⟩ := run_append_row (P := P) (ty := o.type) ht hrow' hsize (fun b hb => (hi.mem.ge b (List.mem_of_mem_take hb)).2) a' n' c' xs hl (fun j u hj => by
      rw [cell_below hi.mem.below (by rw [hN]; unfold Addr.add; split <;> exact ha)]
      exact hsrc j u hj) h1 (by simpa using hbytes) (by simpa using h63)
     simp only [Nat.zero_add, List.nil_append] at hrun h2 h4
     have hrun' := run_appS (ntm := ntm) hi.act hap (v := .slice A' n' cc) (w := w) (w' := w') hrun
     have hchg : Chg (fun _ => False) w0 w' := Chg.mono (ok := fun k => w0.heap.size ≤ k) ((Chg.ofBelow (hN ▸ hi.mem.below)).trans (Chg.ofGrown h3 fun k hk _ => by
       simp only [Value.ownBlock, Option.some.injEq] at hk
       subst hk
       exact hN ▸ hgi.1)) (fun k hk1 hk2 => by omega)
     have hfr : FrameR w0 (fun _ => False) [] (ρ.take i) w' := ⟨hchg, fun b hb => .inr (hN ▸ (hi.mem.ge b (List.mem_of_mem_take hb)).1), by simp⟩
     have hrowF : RowF w0 (fun _ => False) [] w0.heap.size ct size' A' n' cc xs (ρ.take i) w' := ⟨⟨h2, Nat.le_trans hsize h3.size⟩, hfr, fun g hg => by
      rcases h4 with h4 | h4
      ·rw [h4] at hg
       simp only [Value.ownBlock, Option.some.injEq] at hg
       subst hg
       exact .inr (hN ▸ hgi.1)
      ·rw [h4] at hg
       injection hg with hg
       exact .inr (by omega)⟩
     have hm' : WInv N w0 (ρ.take i) (s.keep ts i).loc w' := hk.mem.grown h3 (fun g hg => ⟨by
      simp only [Value.ownBlock, Option.some.injEq] at hg
      subst hg
      exact hgi.1, hni g hg.symm⟩)
     obtain ⟨pc, ks, fr, loc⟩ := s
     cases pc with
     | ops all rest =>
      cases rest with
      | nil => simp [S.head?] at ho
      | cons o' rest =>
       simp only [S.head?] at ho
       split at ho
       ·rename_i hg
        simp only [Option.some.injEq] at ho
        subst ho
        obtain ⟨fr', hpp⟩ := putS_some (fr := keepFr fr ts) (ntm := ntm) hd (.sl A' n' cc)
        have hk' := h A' cc (ρ.take i) (act.put o'.dst (.slice A' n' cc)) w' (by
         simp only [S.tail, S.keep, hpp]
         exact ⟨putS_ok hk.act hpp, hm'⟩) hrowF
        simp only [S.tail, S.keep, hpp] at hk'
        show wpList P all _ (o' :: rest) act w
        unfold wpList
        rw [if_pos (guardS_ok hi.act hg)]
        refine .inl ?_
        unfold Oper.wp
        rw [hrun']
        exact hk'
       ·cases ho
     | qops all rest => simp [S.plain] at hp
     | code c => simp [S.plain] at hp
     | any _ _ _ => simp [S.plain] at hp
     | exit e => simp [S.plain] at hp
    ·cases hq
   ·cases hq
  ·cases hq
 ·cases hq
end
end Go.Sx
end
section
namespace Go.Sx
open Go.RowKit
section
variable {P : Program} {Q : Exit → Act → World → Prop} {N : Nat} {w0 : World} {ntm : Nat} {F : List Nat → World → Prop}
variable [Md]
theorem wp_scope_x {σ : Type} {c : Code} (I : σ → Act → World → Prop) (lab : σ → Nat) (rest : σ → Code) (μ : σ → Nat) (hf : ∀ x, findLabel c (lab x) = some (rest x)) {a : Act} {w : World}
  (first : c.wp P (exJumps (fun l a w => ∃ x, lab x = l ∧ I x a w) Q) a w)
  (pass : ∀ x a w, I x a w → (rest x).wp P (exJumps (fun l a' w' => ∃ x', lab x' = l ∧ I x' a' w' ∧ μ x' < μ x) Q) a w) : (Code.scope c).wp P Q a w := by
 intro b k cs
 have hg : ∀ x, gotoIn (lab x) (.inScope c :: k) = some (.code (rest x) :: .inScope c :: k) := fun x => by simp [gotoIn, hf x]
 have key : ∀ n x a w, μ x = n → I x a w → ∃ e a' w', Q e a' w' ∧ Arrives P (lone (b.at a (.code (rest x) :: .inScope c :: k)) cs w) b k cs e a' w' := by
  intro n
  induction n using Nat.strongRecOn with
  | _ n ih =>
   intro x a w hn hI
   obtain ⟨e, a₁, w₁, hq, harr⟩ := pass x a w hI b (.inScope c :: k) cs
   cases e with
   | normal => exact ⟨.normal, a₁, w₁, hq, Steps.trans harr (.one step_inScope)⟩
   | exit id => exact ⟨.exit id, a₁, w₁, hq, fun k' hk => harr k' (by simp [exitTo, hk])⟩
   | goto l' =>
    obtain ⟨x', rfl, hI', hlt⟩ := hq
    obtain ⟨e₂, a₂, w₂, hq₂, harr₂⟩ := ih _ (by omega) x' a₁ w₁ rfl hI'
    exact ⟨e₂, a₂, w₂, hq₂, .of_steps (harr _ (hg x')) harr₂⟩
   | ret => exact ⟨_, a₁, w₁, hq, harr⟩
   | panic ch => exact ⟨_, a₁, w₁, hq, harr⟩
   | outgrown => exact ⟨_, a₁, w₁, hq, harr⟩
 obtain ⟨e, a₁, w₁, hq, harr⟩ := first b (.inScope c :: k) cs
 cases e with
 | normal => exact ⟨.normal, a₁, w₁, hq, .head step_scope (Steps.trans harr (.one step_inScope))⟩
 | exit id => exact ⟨.exit id, a₁, w₁, hq, fun k' hk => .head step_scope (harr k' (by simp [exitTo, hk]))⟩
 | goto l' =>
  obtain ⟨x, rfl, hI⟩ := hq
  obtain ⟨e₂, a₂, w₂, hq₂, harr₂⟩ := key _ x a₁ w₁ rfl hI
  exact ⟨e₂, a₂, w₂, hq₂, .of_steps (.head step_scope (harr _ (hg x))) harr₂⟩
 | ret => exact ⟨_, a₁, w₁, hq, .of_steps (.one step_scope) harr⟩
 | panic ch => exact ⟨_, a₁, w₁, hq, .of_steps (.one step_scope) harr⟩
 | outgrown => exact ⟨_, a₁, w₁, hq, .of_steps (.one step_scope) harr⟩
def Jump (N : Nat) (w0 : World) (ntm : Nat) {σ : Type} (lab : σ → Nat) (fr : σ → Fr) (loc : σ → Loc) (G : σ → List Nat → World → Prop) (p : σ → Prop) (l : Nat) (a : Act) (w : World) : Prop :=
 ∃ x, lab x = l ∧ (∃ ρ, Inv N w0 ntm ρ (fr x) (loc x) a w ∧ G x ρ w) ∧ p x
theorem At.scope {σ : Type} {s : S} (c : Code) (lab : σ → Nat) (rest : σ → Code) (fr : σ → Fr) (loc : σ → Loc) (G : σ → List Nat → World → Prop) (μ : σ → Nat) (hc : s.pc = .code (.scope c)) (hf : ∀ x, findLabel c (lab x) = some (rest x))
  (first : At P Q N w0 ntm F ⟨.code c, .jump (Jump N w0 ntm lab fr loc G (fun _ => True)) :: s.ks, s.fr, s.loc⟩)
  (pass : ∀ x, At P Q N w0 ntm (G x) ⟨.code (rest x), .jump (Jump N w0 ntm lab fr loc G (fun x' => μ x' < μ x)) :: s.ks, fr x, loc x⟩) : At P Q N w0 ntm F s := by
 intro ρ a w hi hfF
 rw [hc]
 refine CW_fn rfl fun hm => ?_
 refine wp_scope_x (σ := σ) (fun x a w => ∃ ρ, Inv N w0 ntm ρ (fr x) (loc x) a w ∧ G x ρ w) lab rest μ hf ?_ ?_
 ·refine Code.wp_mono ?_ ((CW_none hm).1 (first ρ a w hi hfF))
  intro e a' w' hq
  cases e with
  | goto l =>
   obtain ⟨x, h1, h2, _⟩ := hq
   exact ⟨x, h1, h2⟩
  | _ => exact hq
 ·rintro x a w ⟨ρ, hi, hg⟩
  refine Code.wp_mono ?_ ((CW_none hm).1 (pass x ρ a w hi hg))
  intro e a' w' hq
  cases e with
  | goto l =>
   obtain ⟨x', h1, h2, h3⟩ := hq
   exact ⟨x', h1, h2, h3⟩
  | _ => exact hq
theorem At.jump {σ : Type} {s : S} {lab : σ → Nat} {fr : σ → Fr} {loc : σ → Loc} {G : σ → List Nat → World → Prop} {p : σ → Prop} {l : Nat} {ks : List K} (x : σ) (hp : s.pc = .exit (.goto l)) (hk : s.ks = .jump (Jump N w0 ntm lab fr loc G p) :: ks) (hl : lab x = l)
  (hsub : subFr (fr x) s.fr) (hloc : s.loc = loc x) (hG : ∀ ρ a w, Inv N w0 ntm ρ s.fr s.loc a w → F ρ w → G x ρ w) (hpx : p x) : At P Q N w0 ntm F s := by
 intro ρ a w hi hf
 rw [hp, hk]
 exact ⟨x, hl, ⟨ρ, ⟨hi.act.sub hsub, hloc ▸ hi.mem⟩, hG ρ a w hi hf⟩, hpx⟩
end
end Go.Sx
namespace Go.Sx
open Go.RowKit
section
variable {P : Program} {Q : Exit → Act → World → Prop} {N : Nat} {w0 : World} {ntm : Nat} {F : List Nat → World → Prop}
variable [Md]
def idxQ (P : Program) (fr : Fr) (o : Oper) : Option (Addr × Nat × Int × Nat) :=
 match o.op with
 | .indexAddr t x ix => match P.underlying t, evalS fr x, evalS fr ix with
  | some (.slice e), some (.sl (some a) n _), some si => match litOf si, sizeT P e with
   | some (.int _ i, _), some size => some (a, n, i, size)
   | _, _ => none
  | _, _, _ => none
 | _ => none
theorem run_idxQ {ρ : List Nat} {fr : Fr} {act : Act} (ha : AInv ntm ρ fr act) {o : Oper} {a : Addr} {n size : Nat} {i : Int} (h : idxQ P fr o = some (a, n, i, size)) (h0 : 0 ≤ i) (hn : i < n) (w : World) :
  (execOp act.eval o).run P w = .ok (.value (.pointer (some (a.add (i.toNat * size))))) w := by
 obtain ⟨dst, op, ty, pos, after, guard⟩ := o
 unfold idxQ at h
 simp only at h
 split at h
 ·split at h
  ·rename_i e a' n' c' si hu hx hi
   split at h
   ·rename_i k i' lf size' hl hs
    simp only [Option.some.injEq, Prod.mk.injEq] at h
    obtain ⟨rfl, rfl, rfl, rfl⟩ := h
    have hsi := litOf_den (ρ := ρ) hl
    have hb : 0 ≤ i' ∧ i' < (n' : Int) := ⟨h0, hn⟩
    simp [execOp, evalS_sound ha hx, evalS_sound ha hi, hsi, SV.den, Instr.indexAt, asIntOf, run_underlying hu, hb, run_sizeT hs]
   ·cases h
  ·cases h
 ·cases h
def ldQ (P : Program) (fr : Fr) (o : Oper) : Option Addr :=
 match o.op with
 | .load t x => match evalS fr x, isAggT P t with
  | some (.v (.pointer (some a))), some false => some a
  | _, _ => none
 | _ => none
theorem run_ldQ {ρ : List Nat} {fr : Fr} {act : Act} (ha : AInv ntm ρ fr act) {o : Oper} {a : Addr} {v : Value} {w : World} (h : ldQ P fr o = some a) (hc : w.cell? a = some v) :
  (execOp act.eval o).run P w = .ok (.value v) w := by
 obtain ⟨dst, op, ty, pos, after, guard⟩ := o
 unfold ldQ at h
 simp only at h
 split at h
 ·split at h
  ·rename_i a' hx hb
   simp only [Option.some.injEq] at h
   subst h
   simp [execOp, evalS_sound ha hx, SV.den, Instr.loadAt, Instr.sureAddr, loadVar, run_isAggT hb, hc]
  ·cases h
 ·cases h
def idxI (P : Program) (ntm : Nat) (s : S) : Option (Addr × Nat × Int × Nat) :=
 match s.head?, s.dstOk ntm with
 | some o, true => idxQ P s.fr o
 | _, _ => none
def ldI (P : Program) (ntm : Nat) (s : S) : Option Addr :=
 match s.head?, s.dstOk ntm with
 | some o, true => ldQ P s.fr o
 | _, _ => none
theorem At.idx {s : S} (a : Addr) (n size : Nat) (i : Int) (hq : idxI P ntm s = some (a, n, i, size)) (h0 : 0 ≤ i) (hn : i < n)
  (hF : Stable F) (h : At P Q N w0 ntm F (s.tail ntm (.v (.pointer (some (a.add (i.toNat * size))))))) : At P Q N w0 ntm F s := by
 unfold idxI at hq
 split at hq
 ·rename_i o ho hd
  exact At.op hF o (.v (.pointer (some (a.add (i.toNat * size))))) ho hd (fun ρ act w hi _ => run_idxQ hi.act hq h0 hn w) h
 ·cases hq
theorem At.ldx {s : S} (a : Addr) (r : SV) (hq : ldI P ntm s = some a) (hF : Stable F) (hr : ∀ ρ w, WInv N w0 ρ s.loc w → F ρ w → w.cell? a = some (r.den ρ))
  (h : At P Q N w0 ntm F (s.tail ntm r)) : At P Q N w0 ntm F s := by
 unfold ldI at hq
 split at hq
 ·rename_i o ho hd
  exact At.op hF o r ho hd (fun ρ act w hi hf => run_ldQ hi.act hq (hr ρ w hi.mem hf)) h
 ·cases hq
def SV.canon : SV → SV
 | .v (.int k n) => .io k n
 | .v (.bool b) => .bo b
 | .v (.string x) => .so x
 | s => s
theorem SV.canon_den (ρ : List Nat) : ∀ s : SV, s.canon.den ρ = s.den ρ := by
 intro s
 cases s with
 | v x => cases x <;> rfl
 | _ => rfl
def canonFr (fr : Fr) : Fr := fr.map fun p => (p.1, p.2.canon)
theorem look_canon : ∀ {fr : Fr} {t : Nat} {s : SV}, look (canonFr fr) t = some s → ∃ s', look fr t = some s' ∧ s = s'.canon
 | [], t, s, h => by simp [canonFr, look] at h
 | (k, x) :: l, t, s, h => by
  simp only [canonFr, List.map_cons, look] at h ⊢
  split at h
  ·exact ⟨x, rfl, by simpa using h.symm⟩
  ·exact look_canon h
theorem At.canon {s : S} (s' : S) (hs : { s with fr := canonFr s.fr } = s') (h : At P Q N w0 ntm F s') : At P Q N w0 ntm F s := by
 subst hs
 intro ρ a w hi hf
 refine h ρ a w ⟨⟨hi.act.defers, hi.act.size, fun t x hl => ?_⟩, hi.mem⟩ hf
 obtain ⟨x', h1, rfl⟩ := look_canon hl
 rw [SV.canon_den]
 exact hi.act.slot t x' h1
end
end Go.Sx
end
section
namespace Go.Sx
open Go.RowKit
section
variable {P : Program} {Q : Exit → Act → World → Prop} {N : Nat} {w0 : World} {ntm : Nat} {F : List Nat → World → Prop}
variable [Md]
/-! ### bytes as a string -/
def strOf (bs : List Nat) : ByteArray := (bs.map fun b : Nat => ((b : Nat) : Int)).foldl (fun r n => r.push (UInt8.ofNat n.toNat)) ByteArray.empty
def cvQ (P : Program) (fr : Fr) (o : Oper) : Option (Option Addr × Nat × Nat) :=
 match o.op with
 | .convert src dst x => match P.underlying src, P.underlying dst, evalS fr x with
  | some (.slice e), some .string, some (.sl a n c) => match P.underlying e with
   | some (.int .u8) => some (a, n, c)
   | _ => none
  | _, _, _ => none
 | _ => none
theorem run_cvQ {ρ : List Nat} {fr : Fr} {act : Act} (ha : AInv ntm ρ fr act) {o : Oper} {A : Option Addr} {n c : Nat} {w : World} (bs : List Nat) (h : cvQ P fr o = some (A, n, c)) (hn : bs.length = n)
  (hc : ∀ a, A = some a → ∀ (j b : Nat), bs[j]? = some b → w.cell? (a.add j) = some (.int .u8 (b : Int))) (h0 : A = none → bs = []) :
  (execOp act.eval o).run P w = .ok (.value (.string (strOf bs))) w := by
 obtain ⟨dst, op, ty, pos, after, guard⟩ := o
 unfold cvQ at h
 simp only at h
 split at h
 ·rename_i src dst x
  split at h
  ·rename_i e a' n' c' hs hd hx
   split at h
   ·rename_i he
    simp only [Option.some.injEq, Prod.mk.injEq] at h
    obtain ⟨rfl, rfl, rfl⟩ := h
    have hk := run_convert_bytes_string w src dst e a' n' c' hs he hd
    have hr : (convert src dst (.slice a' n' c')).run P w = .ok (.string (strOf bs)) w := by
     rw [hk]
     cases a' with
     | none =>
      rw [h0 rfl]
      rfl
     | some a =>
      subst hn
      exact run_bytesToString w a bs.length c' (bs.map fun b : Nat => ((b : Nat) : Int)) (by
       have := run_loadCells_list (P := P) w a (bs.map fun b : Nat => Value.int .u8 ((b : Nat) : Int)) (fun j v hj => by
        simp only [List.getElem?_map, Option.map_eq_some_iff] at hj
        obtain ⟨b, hb, rfl⟩ := hj
        exact hc a rfl j b hb)
       simp only [List.length_map] at this
       rw [this, List.map_map]
       rfl)
    simp [execOp, evalS_sound ha hx, SV.den, hr]
   ·cases h
  ·cases h
 ·cases h
def cvI (P : Program) (ntm : Nat) (s : S) : Option (Option Addr × Nat × Nat) :=
 match s.head?, s.dstOk ntm with
 | some o, true => cvQ P s.fr o
 | _, _ => none
end
end Go.Sx
end
section
namespace Go.Sx
open Go.RowKit
section
variable {P : Program} {Q : Exit → Act → World → Prop} {N : Nat} {w0 : World} {ntm : Nat} {F : List Nat → World → Prop}
variable [Md]
def allOf {α : Type} : List α → (α → Prop) → Prop
 | [], _ => True
 | x :: l, p => p x ∧ allOf l p
theorem allOf.nil {α : Type} {p : α → Prop} : allOf [] p := trivial
theorem allOf.cons {α : Type} {x : α} {l : List α} {p : α → Prop} (h : p x) (hl : allOf l p) : allOf (x :: l) p := ⟨h, hl⟩
theorem allOf.mem {α : Type} {p : α → Prop} : ∀ {l : List α}, allOf l p → ∀ x ∈ l, p x
 | [], _, x, h => by cases h
 | y :: l, h, x, hx => by
  rcases List.mem_cons.1 hx with rfl | hx
  ·exact h.1
  ·exact allOf.mem h.2 x hx
theorem At.fork {s : S} {all : Array Oper} {f : Nat} {dn : List Nat} (js : List Nat) (hpc : s.pc = .any all (f + 1) dn) (hr : Region.ready .any all (listedOf all.size dn) = js) (hne : js.isEmpty = false)
  (h : allOf js fun j => At P Q N w0 ntm F ⟨.ops all ((all.toList.drop j).take 1), .any all f (j :: dn) :: s.ks, s.fr, s.loc⟩) : At P Q N w0 ntm F s := by
 intro ρ a w hi hf
 rw [hpc]
 refine ⟨fun h0 => ?_, fun j hj => ?_⟩
 ·rw [hr] at h0
  rw [h0] at hne
  cases hne
 ·rw [hr] at hj
  exact wpOp_of_list (h.mem j hj ρ a w hi hf)
theorem wp_mono2 {o : Oper} {a : Act} {w : World} {K K' : Act → World → Prop} {Q Q' : Exit → Act → World → Prop} (hK : ∀ a w, K a w → K' a w) (hQ : ∀ e a w, Q e a w → Q' e a w) (h : o.wp P a w K Q) : o.wp P a w K' Q' := by
 unfold Oper.wp at *
 generalize (execOp a.eval o).run P w = r at *
 cases r with
 | ok n w' =>
  cases n <;> simp only [Oper.upon] at h ⊢
  case value => exact hK _ _ h
  case skip => exact hK _ _ h
  case defer => exact hK _ _ h
  case row => exact h.mono fun _ _ hh => hK _ _ hh
  case enter =>
   refine h.mono fun e w'' hh => ?_
   cases e with
   | returned v => exact hK _ _ hh
   | panicked c => exact hQ _ _ _ hh
   | outgrown =>
    obtain ⟨a', w', h'⟩ := hh
    exact ⟨a', w', hQ _ _ _ h'⟩
 | halt x w' =>
  cases x <;> simp only [Oper.upon] at h ⊢
  exact hQ _ _ _ h
theorem wpAny_mono2 {md : Region.Mode} {ops : Array Oper} {Q Q' : Exit → Act → World → Prop} (hQ : ∀ e a w, Q e a w → Q' e a w) : ∀ (f : Nat) (listed : Array Bool) (a : Act) (w : World), wpAny P md ops Q f listed a w → wpAny P md ops Q' f listed a w
 | 0, _, _, _, h => ⟨h.1, hQ _ _ _ h.2⟩
 | f + 1, listed, a, w, h => ⟨fun h0 => hQ _ _ _ (h.1 h0), fun i hi => by
  have hk := h.2 i hi
  unfold wpOp at hk ⊢
  split
  ·rename_i ho
   simp only [ho] at hk
   exact wpAny_mono2 hQ f _ _ _ hk
  ·rename_i o ho
   simp only [ho] at hk
   split
   ·rename_i hw
    rw [if_pos hw] at hk
    rcases hk with hk | ⟨h1, a', w', h2⟩
    ·exact .inl (wp_mono2 (fun a w hh => wpAny_mono2 hQ f _ a w hh) hQ hk)
    ·exact .inr ⟨h1, a', w', hQ _ _ _ h2⟩
   ·rename_i hw
    rw [if_neg hw] at hk
    exact wpAny_mono2 hQ f _ _ _ hk⟩
def Here (N : Nat) (w0 : World) (ntm : Nat) {σ : Type} (fr : σ → Fr) (loc : σ → Loc) (G : σ → List Nat → World → Prop) (a : Act) (w : World) : Prop := ∃ x ρ, Inv N w0 ntm ρ (fr x) (loc x) a w ∧ G x ρ w
end
end Go.Sx
namespace Go.Sx
open Go.RowKit
section
variable {P : Program} {Q : Exit → Act → World → Prop} {N : Nat} {w0 : World} {ntm : Nat} {F : List Nat → World → Prop}
variable [Md]
theorem At.cvy {s : S} (A : Option Addr) (n c : Nat) (bs : List Nat) (r : SV) (hq : cvI P ntm s = some (A, n, c)) (hF : Stable F) (hr : ∀ ρ, r.den ρ = .string (strOf bs))
  (hc : ∀ ρ w, WInv N w0 ρ s.loc w → F ρ w → bs.length = n ∧ (A = none → bs = []) ∧ ∀ a, A = some a → ∀ (j b : Nat), bs[j]? = some b → w.cell? (a.add j) = some (.int .u8 (b : Int)))
  (h : At P Q N w0 ntm F (s.tail ntm r)) : At P Q N w0 ntm F s := by
 unfold cvI at hq
 split at hq
 ·rename_i o ho hd
  exact At.op hF o r ho hd (fun ρ act w hi hf => by
   obtain ⟨h1, h2, h3⟩ := hc ρ w hi.mem hf
   rw [hr]
   exact run_cvQ hi.act bs hq h1 h3 h2) h
 ·cases hq
end
end Go.Sx
end
section
namespace Go.Sx
open Go.RowKit
section
variable {P : Program} {Q : Exit → Act → World → Prop} {N : Nat} {w0 : World} {ntm : Nat} {F : List Nat → World → Prop}
variable [Md]
end
end Go.Sx
namespace Go.Sx
open Go.RowKit
section
variable {P : Program} {ops : Array Oper} {md : Region.Mode} {Q : Exit → Act → World → Prop}
variable [Md]
theorem defer_put (a : Act) (x : Option Tmp) (v : Value) (d : Deferred) : { (a.put x v) with defers := d :: (a.put x v).defers } = ({ a with defers := d :: a.defers } : Act).put x v := by
 cases x <;> rfl
theorem wpOp_put (hQ : ∀ e a w, Q e a w → e = .normal) {j : Nat} {oi oj : Oper} {v : Value} (hj : ops[j]? = some oj) (hap : oi.apart ops oj = true) (hsj : ∀ cs b, oj.op ≠ .select cs b) {K : Act → World → Prop} {a : Act} {w : World}
  (h : wpOp P ops Q j K (a.put oi.dst v) w) : wpOp P ops Q j (fun a' w' => K (a'.put oi.dst v) w') a w := by
 obtain ⟨h1, h2, h3⟩ := Oper.apart_spec hap
 unfold wpOp at h ⊢
 simp only [hj] at h ⊢
 rw [wanted_put oj a oi.dst v h1] at h
 split
 ·rename_i hw
  rw [if_pos hw] at h
  rcases h with h | ⟨_, a', w', h'⟩
  ·refine .inl ?_
   unfold Oper.wp at h ⊢
   rw [execOp_put oj hsj a oi.dst v h1] at h
   generalize (execOp a.eval oj).run P w = r at *
   cases r with
   | ok n w' =>
    cases n <;> simp only [Oper.upon] at h ⊢
    case value u => rw [← Act.put_comm a v u h2]; exact h
    case skip => rw [← Act.put_comm a v undef h2]; exact h
    case defer d =>
     rw [defer_put] at h
     rw [← Act.put_comm _ v undef h2]
     exact h
    case row => exact h.mono fun u w'' hh => by rw [← Act.put_comm a v u h2]; exact hh
    case enter =>
     refine h.mono fun e w'' hh => ?_
     cases e with
     | returned u =>
      show K ((a.put oj.dst u).put oi.dst v) w''
      rw [← Act.put_comm a v u h2]
      exact hh
     | panicked c => exact absurd (hQ _ _ _ hh) (by simp)
     | outgrown =>
      obtain ⟨a', w', h'⟩ := hh
      exact absurd (hQ _ _ _ h') (by simp)
   | halt x w' =>
    cases x <;> simp only [Oper.upon] at h ⊢
    exact absurd (hQ _ _ _ h) (by simp)
  ·exact absurd (hQ _ _ _ h') (by simp)
 ·rename_i hw
  rw [if_neg hw] at h
  rw [← Act.put_comm a v undef h2]
  exact h
theorem wpAny_first (hQ : ∀ e a w, Q e a w → e = .normal) {i : Nat} {oi : Oper} {v : Value} (hi : ops[i]? = some oi) (hsel : ∀ (j : Nat) (o : Oper) cs b, ops[j]? = some o → o.op ≠ .select cs b) :
  ∀ (f : Nat) (listed : Array Bool) (a : Act) (w : World),
   (∀ j oj, ops[j]? = some oj → j ≠ i → listed.getD j true = false → (∀ e ∈ oj.after, Region.binds md e = true → e.on ≠ i) → oi.apart ops oj = true) →
   i ∈ Region.ready md ops listed → Region.wanted oi (yielded ops a.tmps) = true → (∀ w, (execOp a.eval oi).run P w = .ok (.value v) w) →
   wpAny P md ops Q f (listed.setIfInBounds i true) (a.put oi.dst v) w → wpAny P md ops Q (f + 1) listed a w := by
 intro f
 induction f with
 | zero =>
  intro listed a w _ hr hw hv H
  refine ⟨fun h => (by rw [h] at hr; cases hr), fun j hj => ?_⟩
  by_cases hji : j = i
  ·subst hji
   unfold wpOp
   simp only [hi, hw, if_true]
   refine .inl ?_
   unfold Oper.wp
   rw [hv w]
   exact H
  ·have := ready_mono hj hji
   rw [H.1] at this
   cases this
 | succ f ih =>
  intro listed a w hfree hr hw hv H
  refine ⟨fun h => (by rw [h] at hr; cases hr), fun j hj => ?_⟩
  by_cases hji : j = i
  ·subst hji
   unfold wpOp
   simp only [hi, hw, if_true]
   refine .inl ?_
   unfold Oper.wp
   rw [hv w]
   exact H
  ·have h1 := H.2 j (ready_mono hj hji)
   obtain ⟨hjun, oj, hoj, hall⟩ := mem_ready.1 hj
   have hnot : ∀ e ∈ oj.after, Region.binds md e = true → e.on ≠ i := fun e he hb heq => by
    have h1 := hall e he hb
    rw [heq, getD_both (mem_ready.1 hr).1] at h1
    cases h1
   have hap := hfree j oj hoj hji hjun hnot
   have h2 := wpOp_put hQ hoj hap (fun cs b => hsel j oj cs b hoj) h1
   obtain ⟨a1, a2, a3⟩ := Oper.apart_spec hap
   unfold wpOp at h2 ⊢
   simp only [hoj] at h2 ⊢
   have step : ∀ (u : Value) (w' : World), wpAny P md ops Q f ((listed.setIfInBounds i true).setIfInBounds j true) ((a.put oj.dst u).put oi.dst v) w' → wpAny P md ops Q (f + 1) (listed.setIfInBounds j true) (a.put oj.dst u) w' := by
    intro u w' hh
    refine ih (listed.setIfInBounds j true) (a.put oj.dst u) w' (fun k ok hk hki hun hno => ?_) (ready_mono hr (Ne.symm hji)) ?_ (fun w => ?_) ?_
    ·refine hfree k ok hk hki ?_ hno
     by_cases hjk : j = k
     ·subst hjk; exact hjun
     ·rw [getD_set_ne true hjk] at hun; exact hun
    ·rw [wanted_put oi a oj.dst u a3]; exact hw
    ·rw [execOp_put oi (fun cs b => hsel i oi cs b hi) a oj.dst u a3]; exact hv w
    ·rw [Array.setIfInBounds_comm _ _ hji]
     exact hh
   split
   ·rename_i hwj
    rw [if_pos hwj] at h2
    rcases h2 with h2 | ⟨_, a', w', h'⟩
    ·refine .inl ?_
     unfold Oper.wp at h2 ⊢
     generalize (execOp a.eval oj).run P w = r at *
     cases r with
     | ok n w' =>
      cases n <;> simp only [Oper.upon] at h2 ⊢
      case value u => exact step u w' h2
      case skip => exact step undef w' h2
      case defer d =>
       refine ih (listed.setIfInBounds j true) _ w' (fun k ok hk hki hun hno => ?_) (ready_mono hr (Ne.symm hji)) ?_ (fun w => ?_) ?_
       ·refine hfree k ok hk hki ?_ hno
        by_cases hjk : j = k
        ·subst hjk; exact hjun
        ·rw [getD_set_ne true hjk] at hun; exact hun
       ·rw [wanted_put oi _ oj.dst undef a3]; exact hw
       ·rw [execOp_put oi (fun cs b => hsel i oi cs b hi) _ oj.dst undef a3]; exact hv w
       ·rw [Array.setIfInBounds_comm _ _ hji]
        exact h2
      case row => exact h2.mono fun u w'' hh => step u w'' hh
      case enter =>
       refine h2.mono fun e w'' hh => ?_
       cases e with
       | returned u => exact step u w'' hh
       | panicked c => exact absurd (hQ _ _ _ hh) (by simp)
       | outgrown =>
        obtain ⟨a', w', h'⟩ := hh
        exact absurd (hQ _ _ _ h') (by simp)
     | halt x w' =>
      cases x <;> simp only [Oper.upon] at h2 ⊢
      exact absurd (hQ _ _ _ h2) (by simp)
    ·exact absurd (hQ _ _ _ h') (by simp)
   ·rename_i hwj
    rw [if_neg hwj] at h2
    exact step undef w h2
def addrOp (P : Program) (fr : Fr) : Op → Option SV
 | .load _ _ => none
 | op => pureOp P [] fr op
theorem run_addrOp {ntm : Nat} {ρ : List Nat} {fr : Fr} {a : Act} (ha : AInv ntm ρ fr a) {o : Oper} {s : SV} (h : addrOp P fr o.op = some s) (w : World) : (execOp a.eval o).run P w = .ok (.value (s.den ρ)) w := by
 have hl : ∀ t x, o.op ≠ .load t x := fun t x e => by rw [e] at h; cases h
 have h' : pureOp P [] fr o.op = some s := by
  revert h
  unfold addrOp
  split
  ·intro h; cases h
  ·exact id
 exact run_pureOp (N := 0) (w0 := w) (loc := []) ha (fun ⟨t, x, e⟩ => absurd e (hl t x)) h'
variable {N : Nat} {w0 : World} {ntm : Nat} {F : List Nat → World → Prop}
def pick (P : Program) (ntm : Nat) (all : Array Oper) (listed : Array Bool) (fr : Fr) : List Nat → Option (Nat × Fr)
 | [] => none
 | j :: js => match all[j]? with
  | some o => match guardS all fr o, Region.free .any all listed j && Region.noSelect all, addrOp P fr o.op with
   | some true, true, some r => match putS ntm fr o.dst r with
    | some fr' => some (j, fr')
    | none => pick P ntm all listed fr js
   | _, _, _ => pick P ntm all listed fr js
  | none => pick P ntm all listed fr js
theorem pick_spec {all : Array Oper} {listed : Array Bool} {fr fr' : Fr} {j : Nat} : ∀ {js : List Nat}, pick P ntm all listed fr js = some (j, fr') →
  j ∈ js ∧ ∃ o r, all[j]? = some o ∧ guardS all fr o = some true ∧ (Region.free .any all listed j && Region.noSelect all) = true ∧ addrOp P fr o.op = some r ∧ putS ntm fr o.dst r = some fr'
 | [], h => by cases h
 | k :: js, h => by
  have more : pick P ntm all listed fr js = some (j, fr') → j ∈ k :: js ∧ ∃ o r, all[j]? = some o ∧ guardS all fr o = some true ∧ (Region.free .any all listed j && Region.noSelect all) = true ∧ addrOp P fr o.op = some r ∧ putS ntm fr o.dst r = some fr' := fun h' =>
   let ⟨h1, h2⟩ := pick_spec h'
   ⟨List.mem_cons_of_mem _ h1, h2⟩
  unfold pick at h
  split at h
  ·rename_i o ho
   split at h
   ·rename_i r hg hf ha
    split at h
    ·rename_i fr1 hp
     simp only [Option.some.injEq, Prod.mk.injEq] at h
     obtain ⟨rfl, rfl⟩ := h
     exact ⟨List.mem_cons_self, o, r, ho, hg, hf, ha, hp⟩
    ·exact more h
   ·exact more h
  ·exact more h
def purify (P : Program) (ntm : Nat) : Nat → S → S
 | 0, s => s
 | f + 1, s => match s.pc, s.ks with
  | .any all (g + 1) dn, [] => match pick P ntm all (listedOf all.size dn) s.fr (Region.ready .any all (listedOf all.size dn)) with
   | some (j, fr') => purify P ntm f ⟨.any all g (j :: dn), [], fr', s.loc⟩
   | none => s
  | _, _ => s
theorem At.purify0 (hQ : ∀ e a w, Q e a w → e = .normal) : ∀ (f : Nat) {s : S}, At P Q N w0 ntm F (purify P ntm f s) → At P Q N w0 ntm F s
 | 0, s, h => h
 | f + 1, s, h => by
  obtain ⟨pc, ks, fr, loc⟩ := s
  unfold purify at h
  simp only at h
  split at h
  ·rename_i all g dn
   split at h
   ·rename_i j fr' hp
    obtain ⟨hj, o, r, ho, hg, hfs, ha, hput⟩ := pick_spec hp
    simp only [Bool.and_eq_true] at hfs
    have ih := At.purify0 hQ f h
    intro ρ a w hi hf
    refine wpAny_first hQ ho (Region.noSelect_spec hfs.2) g _ a w (Region.free_spec ho hfs.1) hj (guardS_ok hi.act hg) (run_addrOp hi.act ha) ?_
    exact ih ρ _ w ⟨putS_ok hi.act hput, hi.mem⟩ hf
   ·exact h
  ·exact h
def Fin (N : Nat) (w0 : World) (ntm : Nat) {σ : Type} (fr : σ → Fr) (loc : σ → Loc) (G : σ → List Nat → World → Prop) (e : Exit) (a : Act) (w : World) : Prop := e = .normal ∧ Here N w0 ntm fr loc G a w
theorem At.cutN {σ : Type} {s : S} (fr : σ → Fr) (loc : σ → Loc) (G : σ → List Nat → World → Prop) {all : Array Oper} {f : Nat} {dn : List Nat} (hpc : s.pc = .any all f dn)
  (h1 : At P (Fin N w0 ntm fr loc G) N w0 ntm F ⟨.any all f dn, [], s.fr, s.loc⟩) (h2 : ∀ x, At P Q N w0 ntm (G x) ⟨.exit .normal, s.ks, fr x, loc x⟩) : At P Q N w0 ntm F s := by
 intro ρ a w hi hf
 rw [hpc]
 refine wpAny_mono2 (fun e a w h => ?_) _ _ _ _ (h1 ρ a w hi hf)
 obtain ⟨rfl, x, ρ', hi', hg⟩ := h
 exact h2 x ρ' a w hi' hg
theorem At.fin {σ : Type} {s : S} {fr : σ → Fr} {loc : σ → Loc} {G : σ → List Nat → World → Prop} (x : σ) (hp : s.pc = .exit .normal) (hk : s.ks = [])
  (hsub : subFr (fr x) s.fr) (hloc : s.loc = loc x) (hG : ∀ ρ a w, Inv N w0 ntm ρ s.fr s.loc a w → F ρ w → G x ρ w) : At P (Fin N w0 ntm fr loc G) N w0 ntm F s := by
 intro ρ a w hi hf
 rw [hp, hk]
 exact ⟨rfl, x, ρ, ⟨hi.act.sub hsub, hloc ▸ hi.mem⟩, hG ρ a w hi hf⟩
end
end Go.Sx
end
section
namespace Go.Sx
open Go.RowKit
section
variable {P : Program} {Q : Exit → Act → World → Prop} {N : Nat} {w0 : World} {ntm : Nat} {F : List Nat → World → Prop}
variable [Md]
/-! ### part of a slice that lies outside -/
def slQ (P : Program) (fr : Fr) (o : Oper) : Option (Option Addr × Nat × Nat × Option Int × Int × Nat) :=
 match o.op with
 | .slice t x lo (some hi) none => match P.underlying t, evalS fr x, (evalS fr hi).bind litOf with
  | some (.slice e), some (.sl A n c), some (.int _ h, _) => match sizeT P e, lo with
   | some size, none => some (A, n, c, none, h, size)
   | some size, some l => match (evalS fr l).bind litOf with
    | some (.int _ li, _) => some (A, n, c, some li, h, size)
    | _ => none
   | _, _ => none
  | _, _, _ => none
 | _ => none
theorem run_slQ {ρ : List Nat} {fr : Fr} {act : Act} (ha : AInv ntm ρ fr act) {o : Oper} {A : Option Addr} {n c size : Nat} {lo : Option Int} {h : Int} (hq : slQ P fr o = some (A, n, c, lo, h, size)) (h0 : 0 ≤ lo.getD 0) (h1 : lo.getD 0 ≤ h) (h2 : h ≤ c) (w : World) :
  (execOp act.eval o).run P w = .ok (.value (.slice (if c = (lo.getD 0).toNat then A else A.map (·.add ((lo.getD 0).toNat * size))) (h.toNat - (lo.getD 0).toNat) (c - (lo.getD 0).toNat))) w := by
 obtain ⟨dst, op, ty, pos, after, guard⟩ := o
 unfold slQ at hq
 simp only at hq
 split at hq
 ·rename_i t x lo' hi
  split at hq
  ·rename_i e A' n' c' k h' lf hu hx hhi
   obtain ⟨sh, hsh, hlh⟩ := Option.bind_eq_some_iff.1 hhi
   have hel : P.underlying t = some (.slice (P.elem t)) := by simp [Program.elem, hu]
   have hel2 : P.elem t = e := by simp [Program.elem, hu]
   split at hq
   ·rename_i size' hs
    simp only [Option.some.injEq, Prod.mk.injEq] at hq
    obtain ⟨rfl, rfl, rfl, rfl, rfl, rfl⟩ := hq
    simp only [Option.getD_none] at h0 h1 h2 ⊢
    have := run_slice_h (P := P) w t A' n' c' hel k h' (by omega) h2
    rw [hel2] at this
    simp [execOp, evalS_sound ha hx, evalS_sound ha hsh, litOf_den hlh, SV.den, run_sliceAt_slice w t _ _ _ _ hel, this, run_sizeT hs, sliced, Result.andThen]
   ·rename_i size' l hs
    split at hq
    ·rename_i kl li lfl hll
     obtain ⟨sl, hsl, hll2⟩ := Option.bind_eq_some_iff.1 hll
     simp only [Option.some.injEq, Prod.mk.injEq] at hq
     obtain ⟨rfl, rfl, rfl, rfl, rfl, rfl⟩ := hq
     simp only [Option.getD_some] at h0 h1 h2 ⊢
     have := run_slice_lh (P := P) w t A' n' c' hel kl k li h' h0 h1 h2
     rw [hel2] at this
     simp [execOp, evalS_sound ha hx, evalS_sound ha hsh, evalS_sound ha hsl, litOf_den hlh, litOf_den hll2, SV.den, run_sliceAt_slice w t _ _ _ _ hel, this, run_sizeT hs, sliced, Result.andThen]
    ·cases hq
   ·cases hq
  ·cases hq
 ·cases hq
def slI (P : Program) (ntm : Nat) (s : S) : Option (Option Addr × Nat × Nat × Option Int × Int × Nat) :=
 match s.head?, s.dstOk ntm with
 | some o, true => slQ P s.fr o
 | _, _ => none
theorem At.slx {s : S} (A : Option Addr) (n c : Nat) (lo : Option Int) (h : Int) (size : Nat) (r : SV) (hq : slI P ntm s = some (A, n, c, lo, h, size)) (hF : Stable F) (h0 : 0 ≤ lo.getD 0) (h1 : lo.getD 0 ≤ h)
  (hr : ∀ ρ w, WInv N w0 ρ s.loc w → F ρ w → h ≤ c ∧ r.den ρ = .slice (if c = (lo.getD 0).toNat then A else A.map (·.add ((lo.getD 0).toNat * size))) (h.toNat - (lo.getD 0).toNat) (c - (lo.getD 0).toNat))
  (hk : At P Q N w0 ntm F (s.tail ntm r)) : At P Q N w0 ntm F s := by
 unfold slI at hq
 split at hq
 ·rename_i o ho hd
  exact At.op hF o r ho hd (fun ρ act w hi hf => by
   obtain ⟨h2, h3⟩ := hr ρ w hi.mem hf
   rw [h3]
   exact run_slQ hi.act hq h0 h1 h2 w) hk
 ·cases hq
/-! ### a local, empty row becomes a row of one's own; a row that came in is put behind -/
def S.bind (s : S) (t : Nat) (v : SV) : S := { s with fr := (t, v) :: s.fr }
def outQ (P : Program) (ntm : Nat) (s : S) : Option (Oper × TypeId × TypeId × Nat × Nat × Option Addr × Nat × Nat × Option Addr × Nat × Nat) :=
 match s.head? with
 | some o => match appS s.fr o with
  | some (t, .sl A n c, sy) => match elemT P t, sy.asSl, s.plain && s.dstOk ntm with
   | some (e, size, bytes), .sl B m k, true => some (o, t, e, size, bytes, A, n, c, B, m, k)
   | _, _, _ => none
  | _ => none
 | none => none
def outI (P : Program) (ntm : Nat) (s : S) : Option (TypeId × Nat × Nat × Option Addr × Nat × Nat × Option Addr × Nat × Nat) := (outQ P ntm s).map fun (_, _, e, size, bytes, A, n, c, B, m, k) => (e, size, bytes, A, n, c, B, m, k)
theorem At.appOut {s : S} (e size bytes : Nat) (A : Option Addr) (n c : Nat) (b : Addr) (m k : Nat) (ok : Nat → Prop) (ρ0 : List Nat) (base : Nat) (xs news : List Value) (hq : outI P ntm s = some (e, size, bytes, A, n, c, some b, m, k)) (hl : news.length = m * size) (h1 : ∀ u ∈ news, u.oneCell' = true)
  (hsrc : ∀ ρ w, WInv N w0 ρ s.loc w → RowF w0 ok ρ0 base e size A n c xs ρ w → Src w b news)
  (hbytes : (n + m) * bytes ≤ 140737488355328) (h63 : n + m ≤ maxLen) (hN : N ≤ base)
  (h : ∀ (A' : Option Addr) (c' : Nat), At P Q N w0 ntm (RowF w0 ok ρ0 base e size A' (n + m) c' (xs ++ news)) (s.tail ntm (.sl A' (n + m) c'))) : At P Q N w0 ntm (RowF w0 ok ρ0 base e size A n c xs) s := by
 unfold outI at hq
 obtain ⟨⟨o, t, e', size', bytes', A', n', c', B', m', k'⟩, hq1, hq2⟩ := Option.map_eq_some_iff.1 hq
 simp only [Prod.mk.injEq] at hq2
 obtain ⟨rfl, rfl, rfl, rfl, rfl, rfl, rfl, rfl, rfl⟩ := hq2
 unfold outQ at hq1
 split at hq1
 ·rename_i o' ho
  split at hq1
  ·rename_i t' A1 n1 c1 sy ha
   split at hq1
   ·rename_i e1 size1 bytes1 B1 m1 k1 ht hsy hpd
    simp only [Option.some.injEq, Prod.mk.injEq] at hq1
    obtain ⟨rfl, rfl, rfl, rfl, rfl, rfl, rfl, rfl, rfl, rfl, rfl⟩ := hq1
    simp only [Bool.and_eq_true] at hpd
    refine At.opx o' (fun x : Option Addr × Nat => .sl x.1 (n1 + m1) x.2) (fun x ρ w => RowF w0 ok ρ0 base e1 size1 x.1 (n1 + m1) x.2 (xs ++ news) ρ w) ho hpd.2 hpd.1 ?_ (fun x => h x.1 x.2)
    intro ρ a w hi hf
    have hf' := hf
    obtain ⟨⟨hrow, hb⟩, hfr, hblk⟩ := hf
    obtain ⟨A', c', w', r1, r2, r3, r4⟩ := run_append_row (P := P) (ty := o'.type) ht hrow hb (fun b hb => (hi.mem.ge b hb).2) b m1 k1 news hl (hsrc ρ w hi.mem hf') h1 hbytes h63
    refine ⟨(A', c'), w', run_appS hi.act ha (by
     have : sy.den ρ = .slice (some b) m1 k1 := by rw [← SV.asSl_den, hsy]; rfl
     rw [this]
     exact r1), hi.mem.grown r3 (fun g hg => ⟨Nat.le_trans hN (hrow.1.lt g hg).1, hrow.2 g hg⟩), ⟨r2, Nat.le_trans hb r3.size⟩, hfr.grown r3 hblk, fun g hg => ?_⟩
    rcases r4 with r4 | r4
    ·exact hblk g (r4 ▸ hg)
    ·rw [r4] at hg
     injection hg with hg
     have := hfr.1.size
     exact .inr (by omega)
   ·cases hq1
  ·cases hq1
 ·cases hq1
theorem run_append_none (t ty e : TypeId) (size bytes : Nat) (ht : elemT P t = some (e, size, bytes)) (base : Nat) (A : Option Addr) (n c : Nat) (xs : List Value) (w : World) (hown : w.ownsRow base e size (.slice A n c) n xs) (k : Nat) :
  (Builtin.append_ #[t, t] ty #[.slice A n c, .slice none 0 k]).run P w = .ok (.slice A n c) w := by
 unfold elemT at ht
 split at ht
 ·rename_i e' hu
  split at ht
  ·rename_i i hi
   split at ht
   ·rename_i z hz
    split at ht
    ·simp only [Option.some.injEq, Prod.mk.injEq] at ht
     obtain ⟨rfl, rfl, rfl⟩ := ht
     rcases hown.2 with ⟨hv, _⟩ | ⟨g, cap, cur, hv, _, _, hnc, _⟩
     ·injection hv with h1 h2 h3
      subst h1 h2 h3
      simp [Builtin.append_, run_underlying hu, sizeOf, typeInfo, hi, Builtin.lenOf, Builtin.firstCells]
     ·injection hv with h1 _ h3
      subst h1 h3
      simp [Builtin.append_, run_underlying hu, sizeOf, typeInfo, hi, Builtin.lenOf, Builtin.firstCells, hnc, storeCells]
    ·cases ht
   ·cases ht
  ·cases ht
 ·cases ht
theorem At.appNone {s : S} (e size bytes : Nat) (A : Option Addr) (n c k : Nat) (ok : Nat → Prop) (ρ0 : List Nat) (base : Nat) (xs : List Value) (hq : outI P ntm s = some (e, size, bytes, A, n, c, none, 0, k))
  (h : At P Q N w0 ntm (RowF w0 ok ρ0 base e size A n c xs) (s.tail ntm (.sl A n c))) : At P Q N w0 ntm (RowF w0 ok ρ0 base e size A n c xs) s := by
 unfold outI at hq
 obtain ⟨⟨o, t, e', size', bytes', A', n', c', B', m', k'⟩, hq1, hq2⟩ := Option.map_eq_some_iff.1 hq
 simp only [Prod.mk.injEq] at hq2
 obtain ⟨rfl, rfl, rfl, rfl, rfl, rfl, rfl, rfl, rfl⟩ := hq2
 unfold outQ at hq1
 split at hq1
 ·rename_i o' ho
  split at hq1
  ·rename_i t' A1 n1 c1 sy ha
   split at hq1
   ·rename_i e1 size1 bytes1 B1 m1 k1 ht hsy hpd
    simp only [Option.some.injEq, Prod.mk.injEq] at hq1
    obtain ⟨rfl, rfl, rfl, rfl, rfl, rfl, rfl, rfl, rfl, rfl, rfl⟩ := hq1
    simp only [Bool.and_eq_true] at hpd
    refine At.op RowF.stable o' (.sl A1 n1 c1) ho hpd.2 (fun ρ a w hi hf => ?_) h
    exact run_appS hi.act ha (by
     have : sy.den ρ = .slice none 0 k1 := by rw [← SV.asSl_den, hsy]; rfl
     rw [this]
     exact run_append_none t' o'.type e1 size1 bytes1 ht base A1 n1 c1 xs w hf.1.1.1 k1)
   ·cases hq1
  ·cases hq1
 ·cases hq1
def slFr (fr : Fr) : Fr := fr.map fun p => (p.1, p.2.asSl)
theorem look_slFr : ∀ {fr : Fr} {t : Nat} {s : SV}, look (Go.Sx.slFr fr) t = some s → ∃ s', look fr t = some s' ∧ s = s'.asSl
 | [], t, s, h => by simp [Go.Sx.slFr, look] at h
 | (k, x) :: l, t, s, h => by
  simp only [Go.Sx.slFr, List.map_cons, look] at h ⊢
  split at h
  ·exact ⟨x, rfl, by simpa using h.symm⟩
  ·exact look_slFr h
theorem At.slFr {s : S} (s' : S) (hs : { s with fr := Go.Sx.slFr s.fr } = s') (h : At P Q N w0 ntm F s') : At P Q N w0 ntm F s := by
 subst hs
 intro ρ a w hi hf
 refine h ρ a w ⟨⟨hi.act.defers, hi.act.size, fun t x hl => ?_⟩, hi.mem⟩ hf
 obtain ⟨x', h1, rfl⟩ := look_slFr hl
 rw [SV.asSl_den]
 exact hi.act.slot t x' h1
/-! ### in a region that draws its order: a part of a slice ahead of all else -/
def anyAt (s : S) (j : Nat) : Option Oper :=
 match s.pc, s.ks with
 | .any all (_ + 1) dn, [] => match all[j]? with
  | some o => match guardS all s.fr o, (Region.free .any all (listedOf all.size dn) j && Region.noSelect all) && (Region.ready .any all (listedOf all.size dn)).contains j with
   | some true, true => some o
   | _, _ => none
  | none => none
 | _, _ => none
def anyPut (ntm : Nat) (s : S) (j : Nat) (r : SV) : Option S :=
 match s.pc, s.ks with
 | .any all (g + 1) dn, [] => match all[j]? with
  | some o => (putS ntm s.fr o.dst r).map fun fr' => ⟨.any all g (j :: dn), [], fr', s.loc⟩
  | none => none
 | _, _ => none
def S.anyNext (s : S) (ntm : Nat) (j : Nat) (r : SV) : S := (anyPut ntm s j r).getD s
theorem At.first {s : S} (hQ : ∀ e a w, Q e a w → e = .normal) (j : Nat) (o : Oper) (r : SV) (ho : anyAt s j = some o) (hp : (anyPut ntm s j r).isSome = true)
  (hrun : ∀ ρ a w, AInv ntm ρ s.fr a → (execOp a.eval o).run P w = .ok (.value (r.den ρ)) w) (h : At P Q N w0 ntm F (s.anyNext ntm j r)) : At P Q N w0 ntm F s := by
 obtain ⟨pc, ks, fr, loc⟩ := s
 unfold anyAt at ho
 simp only at ho
 split at ho
 ·rename_i all g dn
  split at ho
  ·rename_i o' ho'
   split at ho
   ·rename_i hg hfs
    simp only [Option.some.injEq] at ho
    subst ho
    simp only [Bool.and_eq_true] at hfs
    unfold S.anyNext at h
    unfold anyPut at h hp
    simp only [ho'] at h hp
    rcases hput : putS ntm fr o'.dst r with _ | fr'
    ·rw [hput] at hp; cases hp
    ·rw [hput] at h
     simp only [Option.map_some, Option.getD_some] at h
     intro ρ a w hi hf
     refine wpAny_first hQ ho' (Region.noSelect_spec hfs.1.2) g _ a w (Region.free_spec ho' hfs.1.1) (by simpa using hfs.2) (guardS_ok hi.act hg) (fun w => hrun ρ a w hi.act) ?_
     exact h ρ _ w ⟨putS_ok hi.act hput, hi.mem⟩ hf
   ·cases ho
  ·cases ho
 ·cases ho
end
end Go.Sx
end
section
namespace Go.Sx
open Go.RowKit
section
variable {P : Program} {Q : Exit → Act → World → Prop} {N : Nat} {w0 : World} {ntm : Nat} {F : List Nat → World → Prop}
variable [Md]
/-! ### values of several cells that lie outside -/
def ldaQ (P : Program) (fr : Fr) (o : Oper) : Option (Addr × Nat) :=
 match o.op with
 | .load t x => match evalS fr x, isAggT P t, sizeT P t with
  | some (.v (.pointer (some a))), some true, some n => some (a, n)
  | _, _, _ => none
 | _ => none
theorem run_ldaQ {ρ : List Nat} {fr : Fr} {act : Act} (ha : AInv ntm ρ fr act) {o : Oper} {a : Addr} {cs : List Value} {w : World} (h : ldaQ P fr o = some (a, cs.length)) (hc : ∀ (j : Nat) (v : Value), cs[j]? = some v → w.cell? (a.add j) = some v) :
  (execOp act.eval o).run P w = .ok (.value (.agg cs.toArray)) w := by
 obtain ⟨dst, op, ty, pos, after, guard⟩ := o
 unfold ldaQ at h
 simp only at h
 split at h
 ·split at h
  ·rename_i a' n hx hb hs
   simp only [Option.some.injEq, Prod.mk.injEq] at h
   obtain ⟨rfl, rfl⟩ := h
   have hr := run_loadCells_list (P := P) w a' cs hc
   simp [execOp, evalS_sound ha hx, SV.den, Instr.loadAt, Instr.sureAddr, loadVar, run_isAggT hb, run_sizeT hs, hr]
  ·cases h
 ·cases h
def ldaI (P : Program) (ntm : Nat) (s : S) : Option (Addr × Nat) :=
 match s.head?, s.dstOk ntm with
 | some o, true => ldaQ P s.fr o
 | _, _ => none
theorem At.lda {s : S} (a : Addr) (n : Nat) (l : List SV) (hq : ldaI P ntm s = some (a, n)) (hn : l.length = n) (hF : Stable F) (hr : ∀ ρ w, WInv N w0 ρ s.loc w → F ρ w → ∀ (j : Nat) (v : Value), (SV.denL ρ l)[j]? = some v → w.cell? (a.add j) = some v)
  (h : At P Q N w0 ntm F (s.tail ntm (.agg l))) : At P Q N w0 ntm F s := by
 subst hn
 unfold ldaI at hq
 split at hq
 ·rename_i o ho hd
  refine At.op hF o (.agg l) ho hd (fun ρ act w hi hf => ?_) h
  have hl : (SV.denL ρ l).length = l.length := by simp [SV.denL_eq]
  have hr' := run_ldaQ hi.act (cs := SV.denL ρ l) (hl.symm ▸ hq) (hr ρ w hi.mem hf)
  rw [hr']
  simp [SV.den]
 ·cases hq
def faxQ (P : Program) (fr : Fr) (o : Oper) : Option (Addr × Nat) :=
 match o.op with
 | .fieldAddr s x f => match P.underlying s, evalS fr x with
  | some (.struct fs), some (.v (.pointer (some a))) => match fs[f]? with
   | some fd => match sizeT P fd.type with
    | some (_ + 1) => some (a, fd.offset)
    | _ => none
   | none => none
  | _, _ => none
 | _ => none
theorem run_faxQ {ρ : List Nat} {fr : Fr} {act : Act} (ha : AInv ntm ρ fr act) {o : Oper} {a : Addr} {off : Nat} (h : faxQ P fr o = some (a, off)) (w : World) :
  (execOp act.eval o).run P w = .ok (.value (.pointer (some (a.add off)))) w := by
 obtain ⟨dst, op, ty, pos, after, guard⟩ := o
 unfold faxQ at h
 simp only at h
 split at h
 ·split at h
  ·rename_i fs a' hu hx
   split at h
   ·rename_i fd hf
    split at h
    ·rename_i m hs
     simp only [Option.some.injEq, Prod.mk.injEq] at h
     obtain ⟨rfl, rfl⟩ := h
     simp [execOp, evalS_sound ha hx, SV.den, Instr.fieldAt, run_underlying hu, hf, Instr.sureAddr, fieldPlace, run_sizeT hs]
    ·cases h
   ·cases h
  ·cases h
 ·cases h
def faxI (P : Program) (ntm : Nat) (s : S) : Option (Addr × Nat) :=
 match s.head?, s.dstOk ntm with
 | some o, true => faxQ P s.fr o
 | _, _ => none
theorem At.fax {s : S} (a : Addr) (off : Nat) (hq : faxI P ntm s = some (a, off)) (hF : Stable F) (h : At P Q N w0 ntm F (s.tail ntm (.v (.pointer (some (a.add off)))))) : At P Q N w0 ntm F s := by
 unfold faxI at hq
 split at hq
 ·rename_i o ho hd
  exact At.op hF o (.v (.pointer (some (a.add off)))) ho hd (fun ρ act w hi hf => run_faxQ hi.act hq w) h
 ·cases hq
end
end Go.Sx
end
section
namespace Go.Sx
open Go.RowKit
section
variable {P : Program} {Q : Exit → Act → World → Prop} {N : Nat} {w0 : World} {ntm : Nat} {F : List Nat → World → Prop}
variable [Md]
/-! ### a row of one's own, and finished rows beside it -/
def EntV (w0 : World) (A : Option Addr) (n c : Nat) (p : Option Addr × List Value) (ρ : List Nat) (w : World) : Prop :=
 ∃ b, p.1 = some ⟨b, 0, none⟩ ∧ w0.heap.size ≤ b ∧ b < w.heap.size ∧ b ∉ ρ ∧ (Value.slice A n c).ownBlock ≠ some b ∧ Src w ⟨b, 0, none⟩ p.2
theorem src_same {w w' : World} {b : Nat} {xs : List Value} (h : Src w ⟨b, 0, none⟩ xs) (hb : w'.heap[b]? = w.heap[b]?) : Src w' ⟨b, 0, none⟩ xs := fun j u hj => by
 have := h j u hj
 rw [add_ok] at this ⊢
 simp only [World.cell?] at this ⊢
 rw [hb]
 exact this
def RowE (w0 : World) (ok : Nat → Prop) (ρ0 : List Nat) (base e size : Nat) (A : Option Addr) (n c : Nat) (xs : List Value) (L : List (Option Addr × List Value)) (ρ : List Nat) (w : World) : Prop :=
 RowF w0 ok ρ0 base e size A n c xs ρ w ∧ ∀ p ∈ L, EntV w0 A n c p ρ w
theorem RowE.stable {ok : Nat → Prop} {ρ0 : List Nat} {base e size : Nat} {A : Option Addr} {n c : Nat} {xs : List Value} {L : List (Option Addr × List Value)} : Stable (RowE w0 ok ρ0 base e size A n c xs L) := fun ρ w ρ' w' hg hk ⟨h1, h2⟩ =>
 ⟨RowF.stable ρ w ρ' w' hg hk h1, fun p hp => by
  obtain ⟨b, e1, e2, e3, e4, e5, e6⟩ := h2 p hp
  refine ⟨b, e1, e2, Nat.lt_of_lt_of_le e3 hk.size, fun hm => ?_, e5, src_same e6 (hk.block b e3 e4)⟩
  rcases hg.of_mem hm with h | h
  ·exact e4 h
  ·omega⟩
theorem RowE.fewer {ok : Nat → Prop} {ρ0 : List Nat} {base e size : Nat} {A : Option Addr} {n c : Nat} {xs : List Value} {L : List (Option Addr × List Value)} : FewerK ρ0.length (RowE w0 ok ρ0 base e size A n c xs L) := fun ρ w k hk ⟨h1, h2⟩ =>
 ⟨RowF.fewer ρ w k hk h1, fun p hp => by
  obtain ⟨b, e1, e2, e3, e4, e5, e6⟩ := h2 p hp
  exact ⟨b, e1, e2, e3, fun hm => e4 (List.mem_of_mem_take hm), e5, e6⟩⟩
theorem At.appE {s : S} (t e size bytes : Nat) (A : Option Addr) (n c m : Nat) (nl : List SV) (ok : Nat → Prop) (ρ0 : List Nat) (base : Nat) (xs news : List Value) (L : List (Option Addr × List Value)) (hq : appI P ntm s = some ⟨t, e, size, bytes, A, n, c, m, nl⟩) (hnews : ∀ ρ, SV.denL ρ nl = news)
  (hbytes : (n + m) * bytes ≤ 140737488355328) (h63 : n + m ≤ maxLen) (hN : N ≤ base)
  (h : ∀ (A' : Option Addr) (c' : Nat), At P Q N w0 ntm (RowE w0 ok ρ0 base e size A' (n + m) c' (xs ++ news) L) (s.tail ntm (.sl A' (n + m) c'))) : At P Q N w0 ntm (RowE w0 ok ρ0 base e size A n c xs L) s := by
 unfold appI at hq
 obtain ⟨⟨o, q', i, off, k, cells, ct⟩, h1, h2⟩ := Option.map_eq_some_iff.1 hq
 simp only at h2
 subst h2
 unfold appQ at h1
 split at h1
 ·rename_i o' ho
  split at h1
  ·rename_i t' A1 n1 c1 i' off' m' k' ha
   split at h1
   ·rename_i e1 size1 bytes1 cells' ct' ht hl
    split at h1
    ·rename_i hb
     simp only [Option.some.injEq, Prod.mk.injEq, AppQ.mk.injEq] at h1
     obtain ⟨rfl, ⟨rfl, rfl, rfl, rfl, rfl, rfl, rfl, rfl, rfl⟩, rfl, rfl, rfl, rfl, rfl⟩ := h1
     simp only [Bool.and_eq_true] at hb
     refine At.opx o' (fun x : Option Addr × Nat => .sl x.1 (n1 + m') x.2) (fun x ρ w => RowE w0 ok ρ0 base e1 size1 x.1 (n1 + m') x.2 (xs ++ news) L ρ w) ho hb.2 hb.1.1 ?_ (fun x => h x.1 x.2)
     intro ρ a w hi ⟨⟨⟨hrow, hbs⟩, hfr, hblk⟩, hent⟩
     have hle := hb.1.2.1
     have hlen : news.length = m' * size1 := by
      rw [← hnews ρ]
      have := Nat.le_of_ble_eq_true hle
      simp [SV.denL_eq]; omega
     obtain ⟨A', c', w', r1, r2, r3, r4⟩ := run_append_row (P := P) (ty := o'.type) ht hrow hbs (fun b hb => (hi.mem.ge b hb).2) ⟨nth ρ i', off', none⟩ m' k' news hlen (fun j u hj => by
       rw [add_ok, cell_of_loc hi.mem hl]
       rw [← hnews ρ] at hj
       have hjn : j < m' * size1 := by
        have := (List.getElem?_eq_some_iff.1 hj).1
        simp [SV.denL_eq] at this
        omega
       simpa [SV.denL_eq, List.getElem?_take, hjn, List.getElem?_drop] using hj) (by rw [← hnews ρ]; exact oneL_den hb.1.2.2) hbytes h63
     refine ⟨(A', c'), w', run_appS hi.act ha r1, hi.mem.grown r3 (fun g hg => ⟨Nat.le_trans hN (hrow.1.lt g hg).1, hrow.2 g hg⟩), ⟨⟨r2, Nat.le_trans hbs r3.size⟩, hfr.grown r3 hblk, fun g hg => ?_⟩, fun p hp => ?_⟩
     ·rcases r4 with r4 | r4
      ·exact hblk g (r4 ▸ hg)
      ·rw [r4] at hg
       injection hg with hg
       have := hfr.1.size
       exact .inr (by omega)
     ·obtain ⟨b, e1, e2, e3, e4, e5, e6⟩ := hent p hp
      refine ⟨b, e1, e2, Nat.lt_of_lt_of_le e3 r3.size, e4, fun hq => ?_, src_same e6 (r3.block b e3 (fun he => e5 he.symm))⟩
      rcases r4 with r4 | r4
      ·exact e5 (r4 ▸ hq)
      ·rw [r4] at hq
       injection hq with hq
       omega
    ·cases h1
   ·cases h1
  ·cases h1
 ·cases h1
def slLoc (loc : Loc) : Loc := loc.map fun p => (p.1.map SV.asSl, p.2)
theorem At.slLoc {s : S} (s' : S) (hs : { s with loc := Go.Sx.slLoc s.loc } = s') (h : At P Q N w0 ntm F s') : At P Q N w0 ntm F s := by
 subst hs
 intro ρ a w hi hf
 refine h ρ a w ⟨hi.act, hi.mem.below, hi.mem.hN, by rw [hi.mem.len]; simp [Go.Sx.slLoc], hi.mem.nodup, hi.mem.ge, fun i c t hc => ?_⟩ hf
 simp only [Go.Sx.slLoc, List.getElem?_map, Option.map_eq_some_iff] at hc
 obtain ⟨⟨c', t'⟩, h1, h2⟩ := hc
 simp only [Prod.mk.injEq] at h2
 obtain ⟨rfl, rfl⟩ := h2
 have := hi.mem.cells i c' t' h1
 rw [this]
 simp only [SV.denL_eq, List.map_map]
 congr 4
 funext x
 simp only [Function.comp]
 exact (SV.asSl_den ρ x).symm
end
end Go.Sx
namespace Go.Sx
open Go.RowKit
section
variable {P : Program} {Q : Exit → Act → World → Prop} {N : Nat} {w0 : World} {ntm : Nat} {F : List Nat → World → Prop}
variable [Md]
/-! ### the rest of a division by an open number -/
def remQ (P : Program) (ntm : Nat) (s : S) : Option (IntKind × Int × Int) :=
 match s.head?, s.dstOk ntm with
 | some o, true => match o.op with
  | .binOp .rem t x y _ => match evalS s.fr x, evalS s.fr y with
   | some sx, some sy => match litOf sx, litOf sy, sx.calm with
    | some (.int k a, _), some (.int k' b, _), true => match decide (k = k') with
     | true => some (k, a, b)
     | false => none
    | _, _, _ => none
   | _, _ => none
  | _ => none
 | _, _ => none
def slLQ (P : Program) (fr : Fr) (o : Oper) : Option (Addr × Nat × Nat × Int × Nat) :=
 match o.op with
 | .slice t x (some lo) none none => match P.underlying t, evalS fr x, (evalS fr lo).bind litOf with
  | some (.slice e), some (.sl (some a) n c), some (.int _ l, _) => match sizeT P e with
   | some size => some (a, n, c, l, size)
   | none => none
  | _, _, _ => none
 | _ => none
def slLI (P : Program) (ntm : Nat) (s : S) : Option (Addr × Nat × Nat × Int × Nat) :=
 match s.head?, s.dstOk ntm with
 | some o, true => slLQ P s.fr o
 | _, _ => none
/-! ### rows that lay finished when a world was noted -/
structure Aside (w1 : World) (ρ1 : List Nat) (a : Addr) (xs : List Value) : Prop where
 src : Src w1 a xs
 out : a.block ∉ ρ1
end
end Go.Sx
end
section
namespace Go.Sx
open Go.RowKit
section
variable {P : Program} {Q : Exit → Act → World → Prop} {N : Nat} {w0 : World} {ntm : Nat} {F : List Nat → World → Prop}
variable [Md]
/-! ### texts: a byte, a part, one behind the other -/
def sixQ (P : Program) (fr : Fr) (o : Oper) : Option (ByteArray × Int) :=
 match o.op with
 | .index t x ix => match P.underlying t, (evalS fr x).bind litOf, (evalS fr ix).bind litOf with
  | some .string, some (.string s, _), some (.int _ i, _) => some (s, i)
  | _, _, _ => none
 | _ => none
theorem run_sixQ {ρ : List Nat} {fr : Fr} {act : Act} (ha : AInv ntm ρ fr act) {o : Oper} {s : ByteArray} {i : Int} {b : UInt8} (hq : sixQ P fr o = some (s, i)) (h0 : 0 ≤ i) (hb : s.data.toList[i.toNat]? = some b) (w : World) :
  (execOp act.eval o).run P w = .ok (.value (.int .u8 (b.toNat : Int))) w := by
 obtain ⟨dst, op, ty, pos, after, guard⟩ := o
 unfold sixQ at hq
 simp only at hq
 split at hq
 ·rename_i t x ix
  split at hq
  ·rename_i s' l1 k i' l2 hu hx hi
   obtain ⟨sx, hsx, hlx⟩ := Option.bind_eq_some_iff.1 hx
   obtain ⟨si, hsi, hli⟩ := Option.bind_eq_some_iff.1 hi
   simp only [Option.some.injEq, Prod.mk.injEq] at hq
   obtain ⟨rfl, rfl⟩ := hq
   have hlt : i'.toNat < s'.data.toList.length := (List.getElem?_eq_some_iff.1 hb).1
   have hsz : s'.size = s'.data.toList.length := by rw [Array.length_toList]; rfl
   have hr := run_index_string (P := P) w t s' k i' hu
   rw [dif_pos ⟨h0, by omega⟩] at hr
   have hbe : s'[i'.toNat]'(by omega) = b := by
    have := (List.getElem?_eq_some_iff.1 hb).2
    rw [← this]
    rfl
   rw [hbe] at hr
   simp [execOp, evalS_sound ha hsx, evalS_sound ha hsi, litOf_den hlx, litOf_den hli, hr]
  ·cases hq
 ·cases hq
def sixI (P : Program) (ntm : Nat) (s : S) : Option (ByteArray × Int) :=
 match s.head?, s.dstOk ntm with
 | some o, true => sixQ P s.fr o
 | _, _ => none
theorem At.six {s : S} (x : ByteArray) (i : Int) (b : UInt8) (hq : sixI P ntm s = some (x, i)) (h0 : 0 ≤ i) (hb : x.data.toList[i.toNat]? = some b) (hF : Stable F) (h : At P Q N w0 ntm F (s.tail ntm (.io .u8 (b.toNat : Int)))) : At P Q N w0 ntm F s := by
 unfold sixI at hq
 split at hq
 ·rename_i o ho hd
  exact At.op hF o (.io .u8 (b.toNat : Int)) ho hd (fun ρ act w hi _ => run_sixQ hi.act hq h0 hb w) h
 ·cases hq
def catQ (P : Program) (fr : Fr) (o : Oper) : Option (ByteArray × ByteArray) :=
 match o.op with
 | .binOp .add t x y _ => match (evalS fr x).bind litOf, (evalS fr y).bind litOf with
  | some (.string a, _), some (.string b, _) => some (a, b)
  | _, _ => none
 | _ => none
theorem run_catQ {ρ : List Nat} {fr : Fr} {act : Act} (ha : AInv ntm ρ fr act) {o : Oper} {a b : ByteArray} (hq : catQ P fr o = some (a, b)) (hs : a.size + b.size ≤ 9223372036854775807) (w : World) :
  (execOp act.eval o).run P w = .ok (.value (.string (a ++ b))) w := by
 obtain ⟨dst, op, ty, pos, after, guard⟩ := o
 unfold catQ at hq
 simp only at hq
 split at hq
 ·rename_i t x y t2
  split at hq
  ·rename_i a' l1 b' l2 hx hy
   obtain ⟨sx, hsx, hlx⟩ := Option.bind_eq_some_iff.1 hx
   obtain ⟨sy, hsy, hly⟩ := Option.bind_eq_some_iff.1 hy
   simp only [Option.some.injEq, Prod.mk.injEq] at hq
   obtain ⟨rfl, rfl⟩ := hq
   have hg : (eqGuard .add t x y (.string a') (.string b')).run P w = .ok () w := by simp [eqGuard]
   simp [execOp, evalS_sound ha hsx, evalS_sound ha hsy, litOf_den hlx, litOf_den hly, hg, binOp_string_add, Op.stringOp]
   omega
  ·cases hq
 ·cases hq
def catI (P : Program) (ntm : Nat) (s : S) : Option (ByteArray × ByteArray) :=
 match s.head?, s.dstOk ntm with
 | some o, true => catQ P s.fr o
 | _, _ => none
theorem At.cat {s : S} (a b : ByteArray) (hq : catI P ntm s = some (a, b)) (hs : a.size + b.size ≤ 9223372036854775807) (hF : Stable F) (h : At P Q N w0 ntm F (s.tail ntm (.so (a ++ b)))) : At P Q N w0 ntm F s := by
 unfold catI at hq
 split at hq
 ·rename_i o ho hd
  exact At.op hF o (.so (a ++ b)) ho hd (fun ρ act w hi _ => run_catQ hi.act hq hs w) h
 ·cases hq
def sslQ (P : Program) (fr : Fr) (o : Oper) : Option (ByteArray × Int × Option Int) :=
 match o.op with
 | .slice t x (some lo) hi none => match P.underlying t, (evalS fr x).bind litOf, (evalS fr lo).bind litOf with
  | some .string, some (.string s, _), some (.int _ l, _) => match hi with
   | none => some (s, l, none)
   | some h => match (evalS fr h).bind litOf with
    | some (.int _ r, _) => some (s, l, some r)
    | _ => none
  | _, _, _ => none
 | _ => none
theorem run_sslQ {ρ : List Nat} {fr : Fr} {act : Act} (ha : AInv ntm ρ fr act) {o : Oper} {s : ByteArray} {l : Int} {r : Option Int} (hq : sslQ P fr o = some (s, l, r)) (h0 : 0 ≤ l) (h1 : l ≤ r.getD s.size) (h2 : r.getD s.size ≤ s.size) (w : World) :
  (execOp act.eval o).run P w = .ok (.value (.string (s.extract l.toNat (r.getD s.size).toNat))) w := by
 obtain ⟨dst, op, ty, pos, after, guard⟩ := o
 unfold sslQ at hq
 simp only at hq
 split at hq
 ·rename_i t x lo hi
  split at hq
  ·rename_i s' l1 k l' l2 hu hx hlo
   obtain ⟨sx, hsx, hlx⟩ := Option.bind_eq_some_iff.1 hx
   obtain ⟨sl, hsl, hll⟩ := Option.bind_eq_some_iff.1 hlo
   split at hq
   ·simp only [Option.some.injEq, Prod.mk.injEq] at hq
    obtain ⟨rfl, rfl, rfl⟩ := hq
    simp only [Option.getD_none] at h1 h2 ⊢
    have hr := run_slice_string_l (P := P) w t s' hu k l' h0 h1
    simp [execOp, evalS_sound ha hsx, evalS_sound ha hsl, litOf_den hlx, litOf_den hll, run_sliceAt_string w t _ _ _ _ hu, hr]
   ·rename_i h
    split at hq
    ·rename_i k2 r' l3 hh
     obtain ⟨sh, hsh, hlh⟩ := Option.bind_eq_some_iff.1 hh
     simp only [Option.some.injEq, Prod.mk.injEq] at hq
     obtain ⟨rfl, rfl, rfl⟩ := hq
     simp only [Option.getD_some] at h1 h2 ⊢
     have hr : (Instr.slice t (.string s') (some (.int k l')) (some (.int k2 r')) none).run P w = .ok (.string (s'.extract l'.toNat r'.toNat)) w := by
      have eh : (r'.toNat : Int) = r' := Int.toNat_of_nonneg (by omega)
      simp [Instr.slice, run_underlying hu, Instr.sliceBounds, run_sliceBound, sliced, h0, h2, (by omega : 0 ≤ r'), eh, h1]
     simp [execOp, evalS_sound ha hsx, evalS_sound ha hsl, evalS_sound ha hsh, litOf_den hlx, litOf_den hll, litOf_den hlh, run_sliceAt_string w t _ _ _ _ hu, hr]
    ·cases hq
  ·cases hq
 ·cases hq
def sslI (P : Program) (ntm : Nat) (s : S) : Option (ByteArray × Int × Option Int) :=
 match s.head?, s.dstOk ntm with
 | some o, true => sslQ P s.fr o
 | _, _ => none
theorem At.ssl {s : S} (x : ByteArray) (l : Int) (r : Option Int) (hq : sslI P ntm s = some (x, l, r)) (h0 : 0 ≤ l) (h1 : l ≤ r.getD x.size) (h2 : r.getD x.size ≤ x.size) (hF : Stable F) (h : At P Q N w0 ntm F (s.tail ntm (.so (x.extract l.toNat (r.getD x.size).toNat)))) : At P Q N w0 ntm F s := by
 unfold sslI at hq
 split at hq
 ·rename_i o ho hd
  exact At.op hF o (.so (x.extract l.toNat (r.getD x.size).toNat)) ho hd (fun ρ act w hi _ => run_sslQ hi.act hq h0 h1 h2 w) h
 ·cases hq
end
end Go.Sx
end
section
namespace Go.Sx
open Go.RowKit
section
variable {P : Program} {Q : Exit → Act → World → Prop} {N : Nat} {w0 : World} {ntm : Nat} {F : List Nat → World → Prop}
variable [Md]
/-! ### a store into a row of one's own -/
def S.past (s : S) : S :=
 match s.pc with
 | .ops all (_ :: rest) => { s with pc := .ops all rest }
 | _ => s
def stQ (P : Program) (fr : Fr) (o : Oper) : Option (Addr × SV) :=
 match o.dst, o.op with
 | none, .store t x y => match evalS fr x, (evalS fr y).bind SV.cells?, sizeT P t with
  | some (.v (.pointer (some a))), some [c], some 1 => match c.one with
   | true => some (a, c)
   | false => none
  | _, _, _ => none
 | _, _ => none
theorem run_stQ {ρ : List Nat} {fr : Fr} {a : Act} {w : World} (ha : AInv ntm ρ fr a) {o : Oper} {p : Addr} {c : SV} (h : stQ P fr o = some (p, c)) {v0 : Value} (hc : w.cell? (p.add 0) = some v0) (hz : w.frozen? (p.add 0) = false) :
  o.dst = none ∧ (execOp a.eval o).run P w = .ok .skip (w.setCell (p.add 0) (c.den ρ)) := by
 obtain ⟨dst, op, ty, pos, after, guard⟩ := o
 unfold stQ at h
 simp only at h
 split at h
 ·rename_i t x y
  split at h
  ·rename_i a' c' hx hy hn
   split at h
   ·rename_i hone
    simp only [Option.some.injEq, Prod.mk.injEq] at h
    obtain ⟨rfl, rfl⟩ := h
    refine ⟨rfl, ?_⟩
    obtain ⟨s, hs, hcs⟩ := Option.bind_eq_some_iff.1 hy
    have hcells := SV.cells?_den (ρ := ρ) hcs
    have h1 : (c'.den ρ).oneCell' = true := by
     have := oneL_den (ρ := ρ) (l := [c']) (by simp [oneL, hone])
     exact this _ (by simp [SV.denL_eq])
    have hst := run_store P w (a'.add 0) (c'.den ρ) .plain h1
    rw [hc] at hst
    simp only [hz, Bool.false_eq_true, if_false] at hst
    unfold execOp
    simp only [evalS_sound ha hx, evalS_sound ha hs, SV.den, Instr.storeAt, Instr.sureAddr, storeVar, Sem.run_bind, Sem.run_pure, Result.andThen_ok, run_sizeT hn, hcells, List.size_toArray, SV.denL_eq, List.map_cons, List.map_nil, List.length_singleton, ne_eq, not_true_eq_false, if_false, storeCells, hst]
   ·cases h
  ·cases h
 ·cases h
def stI (P : Program) (s : S) : Option (Addr × SV) :=
 match s.head?, s.plain with
 | some o, true => stQ P s.fr o
 | _, _ => none
theorem S.past_at {s : S} {o : Oper} (ho : s.head? = some o) (hp : s.plain = true) : ∃ all rest, s.pc = .ops all (o :: rest) ∧ s.past = { s with pc := .ops all rest } ∧ guardS all s.fr o = some true := by
 obtain ⟨pc, ks, fr, loc⟩ := s
 cases pc with
 | ops all rest =>
  cases rest with
  | nil => simp [S.head?] at ho
  | cons o' rest =>
   simp only [S.head?] at ho
   split at ho
   ·rename_i hg
    simp only [Option.some.injEq] at ho
    subst ho
    exact ⟨all, rest, rfl, rfl, hg⟩
   ·cases ho
 | qops all rest => simp [S.plain] at hp
 | code c => simp [S.plain] at hp
 | any _ _ _ => simp [S.plain] at hp
 | exit e => simp [S.plain] at hp
theorem At.appAny {s : S} (e size bytes : Nat) (A : Option Addr) (n c : Nat) (B : Option Addr) (m k : Nat) (ok : Nat → Prop) (ρ0 : List Nat) (base : Nat) (xs news : List Value) (hq : outI P ntm s = some (e, size, bytes, A, n, c, B, m, k)) (hl : news.length = m * size) (h1 : ∀ u ∈ news, u.oneCell' = true)
  (hn : B = none → m = 0) (hsrc : ∀ b, B = some b → ∀ ρ w, WInv N w0 ρ s.loc w → Src w b news)
  (hbytes : (n + m) * bytes ≤ 140737488355328) (h63 : n + m ≤ maxLen) (hN : N ≤ base)
  (h : ∀ (A' : Option Addr) (c' : Nat), At P Q N w0 ntm (RowF w0 ok ρ0 base e size A' (n + m) c' (xs ++ news)) (s.tail ntm (.sl A' (n + m) c'))) : At P Q N w0 ntm (RowF w0 ok ρ0 base e size A n c xs) s := by
 cases B with
 | some b => exact At.appOut e size bytes A n c b m k ok ρ0 base xs news hq hl h1 (fun ρ w hm _ => hsrc b rfl ρ w hm) hbytes h63 hN h
 | none =>
  obtain rfl := hn rfl
  have hnil : news = [] := List.eq_nil_of_length_eq_zero (by rw [hl, Nat.zero_mul])
  subst hnil
  refine At.appNone e size bytes A n c k ok ρ0 base xs hq ?_
  have hk := h A c
  rw [List.append_nil, Nat.add_zero] at hk
  exact hk
end
end Go.Sx
end
section
namespace Go.Sx
open Go.RowKit
section
variable {P : Program} {Q : Exit → Act → World → Prop} {N : Nat} {w0 : World} {ntm : Nat} {F : List Nat → World → Prop}
variable [Md]
theorem At.lsRow1 {s : S} (t : Nat) (ts : List Nat) (i n e size : Nat) (cells : List SV) (xs : List Value) (hl : look s.fr t = some (.ls i 0 n n)) (hloc : s.loc[i]? = some (cells, e)) (hlen : s.loc.length = i + 1) (hN : N = w0.heap.size)
  (hsz : cells.length = n * size) (hmax : n ≤ maxLen) (hxs : ∀ ρ, SV.denL ρ cells = xs)
  (hsc : (scopedFr i (s.keep ts i).fr && scopedLoc i (s.keep ts i).loc) = true)
  (h : ∀ A : Option Addr, At P Q N w0 ntm (RowF w0 (fun _ => False) [] w0.heap.size e size A n n xs) ((s.keep ts i).bind t (.sl A n n))) : At P Q N w0 ntm noF s := by
 intro ρ a w hi _
 simp only [Bool.and_eq_true] at hsc
 have hk := hi.keep ts i hsc.1 hsc.2
 have hcell := hi.mem.cells i _ _ hloc
 have hρl : ρ.length = i + 1 := by rw [hi.mem.len, hlen]
 have hmi : nth ρ i ∈ ρ := nth_mem (by omega)
 have hgi := hi.mem.ge _ hmi
 have hni : nth ρ i ∉ ρ.take i := by
  intro hmem
  obtain ⟨j, hj, he⟩ := List.getElem_of_mem hmem
  have hj' : j < i := by simp at hj; omega
  have hnj : nth ρ j = nth ρ i := by
   rw [← he]
   simp only [nth, List.getD, List.getElem_take, List.getElem?_eq_getElem (show j < ρ.length by omega), Option.getD_some]
  have := nth_inj hi.mem.nodup (by omega) (by omega) hnj
  omega
 have hxl : xs.length = n * size := by rw [← hxs ρ, SV.denL_eq, List.length_map, hsz]
 have hrow : w.ownsRow w0.heap.size e size (.slice (some ⟨nth ρ i, 0, none⟩) n n) n xs :=
  ⟨hxl, .inr ⟨nth ρ i, n, (SV.denL ρ cells).toArray, rfl, hN ▸ hgi.1, hcell, Nat.le_refl _, hmax, by simp [SV.denL_eq, hsz], by
   rw [hxs ρ, List.toList_toArray, ← hxl, List.take_length]⟩⟩
 have hfr : FrameR w0 (fun _ => False) [] (ρ.take i) w := ⟨Chg.ofBelow (hN ▸ hi.mem.below), fun b hb => .inr (hN ▸ (hi.mem.ge b (List.mem_of_mem_take hb)).1), by simp⟩
 have hrowF : RowF w0 (fun _ => False) [] w0.heap.size e size (some ⟨nth ρ i, 0, none⟩) n n xs (ρ.take i) w := ⟨⟨⟨hrow, fun g hg hm => by
  simp only [Value.ownBlock, Option.some.injEq] at hg
  subst hg
  exact hni hm⟩, hi.mem.below.size⟩, hfr, fun g hg => by
  simp only [Value.ownBlock, Option.some.injEq] at hg
  subst hg
  exact .inr (hN ▸ hgi.1)⟩
 refine h (some ⟨nth ρ i, 0, none⟩) (ρ.take i) a w ⟨⟨hk.act.defers, hk.act.size, fun t' x hx => ?_⟩, hk.mem⟩ hrowF
 simp only [S.bind, look] at hx
 split at hx
 ·rename_i hb
  have := Nat.eq_of_beq_eq_true hb
  subst this
  simp only [Option.some.injEq] at hx
  subst hx
  exact hi.act.slot _ _ hl
 ·exact hk.act.slot t' x hx
/-! ### the bytes of a string -/
def strS : SV → Option ByteArray
 | .v (.string s) => some s
 | .so s => some s
 | _ => none
theorem strS_den {ρ : List Nat} {x : SV} {s : ByteArray} (h : strS x = some s) : x.den ρ = .string s := by
 unfold strS at h
 split at h
 ·injection h with h; subst h; rfl
 ·injection h with h; subst h; rfl
 ·cases h
def cvbQ (P : Program) (fr : Fr) (o : Oper) : Option ByteArray :=
 match o.op with
 | .convert src dst x => match P.underlying src, P.underlying dst, (evalS fr x).bind strS with
  | some .string, some (.slice e), some s => match P.underlying e with
   | some (.int .u8) => some s
   | _ => none
  | _, _, _ => none
 | _ => none
def bytesV (s : ByteArray) : List Value := s.data.toList.map fun b => Value.int .u8 (b.toNat : Int)
theorem run_cvbQ {ρ : List Nat} {fr : Fr} {act : Act} (ha : AInv ntm ρ fr act) {o : Oper} {s : ByteArray} (h : cvbQ P fr o = some s) (w : World) :
  ∃ c w', (execOp act.eval o).run P w = .ok (.value (.slice (some ⟨w.heap.size, 0, none⟩) s.size c)) w' ∧ Below w.heap.size w w' ∧ w.heap.size < w'.heap.size ∧ Src w' ⟨w.heap.size, 0, none⟩ (bytesV s) := by
 obtain ⟨dst, op, ty, pos, after, guard⟩ := o
 unfold cvbQ at h
 simp only at h
 split at h
 ·rename_i src dst' x
  split at h
  ·rename_i e s' hs hd hx
   split at h
   ·rename_i he
    injection h with h
    subst h
    obtain ⟨sx, hx1, hx2⟩ := Option.bind_eq_some_iff.1 hx
    have hr := run_bytes_of_string (P := P) w src dst' e s' hs hd he
    generalize ho : Obj.cells (bytesRow s' (grownCap w s'.size 0 e)) e ((bytesRow s' (grownCap w s'.size 0 e)).size, (bytesRow s' (grownCap w s'.size 0 e)).size + 1) = ob at hr
    refine ⟨grownCap w s'.size 0 e, w.drew.alloc ob, by simp [execOp, evalS_sound ha hx1, strS_den hx2, hr], ⟨rfl, rfl, rfl, by simp, fun k hk => heap_alloc_old w.drew _ hk⟩, by simp, fun j u hj => ?_⟩
    subst ho
    rw [add_ok, Nat.zero_add]
    have hnew := heap_alloc_new w.drew (.cells (bytesRow s' (grownCap w s'.size 0 e)) e ((bytesRow s' (grownCap w s'.size 0 e)).size, (bytesRow s' (grownCap w s'.size 0 e)).size + 1))
    have hsz : w.drew.heap.size = w.heap.size := rfl
    rw [hsz] at hnew
    simp only [World.cell?, hnew]
    have hj' := (List.getElem?_eq_some_iff.1 hj).1
    simp only [bytesV, List.length_map] at hj'
    show (bytesRow s' (grownCap w s'.size 0 e))[j]? = some u
    unfold bytesRow
    rw [Array.getElem?_append_left (by simpa using hj')]
    rw [← hj]
    simp [bytesV]
   ·cases h
  ·cases h
 ·cases h
def cvbI (P : Program) (ntm : Nat) (s : S) : Option ByteArray :=
 match s.head?, s.dstOk ntm, s.plain with
 | some o, true, true => cvbQ P s.fr o
 | _, _, _ => none
theorem At.cvbE {s : S} {ok : Nat → Prop} {ρ0 : List Nat} {base e size : Nat} {A : Option Addr} {n c : Nat} {xs : List Value} {L : List (Option Addr × List Value)} (x : ByteArray) (hq : cvbI P ntm s = some x)
  (h : ∀ (b : Addr) (c' : Nat), At P Q N w0 ntm (RowE w0 ok ρ0 base e size A n c xs ((some b, bytesV x) :: L)) (s.tail ntm (.sl (some b) x.size c'))) : At P Q N w0 ntm (RowE w0 ok ρ0 base e size A n c xs L) s := by
 unfold cvbI at hq
 split at hq
 ·rename_i o ho hd hp
  refine At.opx (X := Addr × Nat) o (fun y => .sl (some y.1) x.size y.2) (fun y => RowE w0 ok ρ0 base e size A n c xs ((some y.1, bytesV x) :: L)) ho hd hp ?_ (fun y => h y.1 y.2)
  intro ρ a w hi hf
  obtain ⟨c', w', h1, h2, h3, h4⟩ := run_cvbQ hi.act hq w
  have hkeep : Keep ρ w w' := Keep.of_below h2
  refine ⟨(⟨w.heap.size, 0, none⟩, c'), w', h1, hi.mem.step (Chg.ofBelow (ok := fun _ => False) h2) (fun g _ hg => hg.elim) rfl (fun i d t hi' => hi.mem.kept (Chg.ofBelow (ok := fun _ => False) h2) hi' fun hg => hg), ?_⟩
  have hf' := RowE.stable ρ w ρ w' (Grow.refl _ _) hkeep hf
  refine ⟨hf'.1, fun p hp' => ?_⟩
  rcases List.mem_cons.1 hp' with rfl | hp'
  ·refine ⟨w.heap.size, rfl, hf.1.2.1.1.size, h3, fun hm => ?_, fun hq' => ?_, h4⟩
   ·have := (hi.mem.ge _ hm).2
    omega
   ·have := (hf.1.1.1.1.lt _ hq').2
    omega
  ·exact hf'.2 p hp'
 ·cases hq
theorem At.sixFirst {s : S} (hQ : ∀ e a w, Q e a w → e = .normal) (j : Nat) (x : ByteArray) (i : Int) (b : UInt8) (hq : (anyAt s j).bind (sixQ P s.fr) = some (x, i)) (hp : (anyPut ntm s j (.io .u8 (b.toNat : Int))).isSome = true) (h0 : 0 ≤ i) (hb : x.data.toList[i.toNat]? = some b)
  (hk : At P Q N w0 ntm F (s.anyNext ntm j (.io .u8 (b.toNat : Int)))) : At P Q N w0 ntm F s := by
 obtain ⟨o, ho, hq'⟩ := Option.bind_eq_some_iff.1 hq
 exact At.first hQ j o (.io .u8 (b.toNat : Int)) ho hp (fun ρ a w hi => run_sixQ hi hq' h0 hb w) hk
/-! ### an interface against nil -/
def nilQ (P : Program) (fr : Fr) (o : Oper) : Option Bool :=
 match o.op with
 | .binOp .neq t x (.const .nilIface) _ => match P.underlying t, evalS fr x with
  | some (.interface _), some (.v .nilIface) => some false
  | some (.interface _), some (.v (.iface _ _)) => some true
  | _, _ => none
 | _ => none
theorem run_nilQ {ρ : List Nat} {fr : Fr} {act : Act} (ha : AInv ntm ρ fr act) {o : Oper} {b : Bool} (h : nilQ P fr o = some b) (w : World) :
  (execOp act.eval o).run P w = .ok (.value (.bool b)) w := by
 obtain ⟨dst, op, ty, pos, after, guard⟩ := o
 unfold nilQ at h
 simp only at h
 split at h
 ·rename_i t x tt
  split at h
  ·rename_i ms hu hx
   simp only [Option.some.injEq] at h
   subst h
   have hm : P.underlying t = some (.interface (P.methodsAt t)) := by unfold Program.methodsAt; rw [hu]
   have hr : ((do eqGuard .neq t x (.const .nilIface) .nilIface .nilIface; binOp .neq t .nilIface .nilIface) : Sem Value).run P w = .ok (.bool false) w := by
    rw [eqGuard_nil_constR]
    exact run_neq_nil_nil w t hm
   have hy : act.eval (.const .nilIface) = (SV.v .nilIface).den ρ := evalS_sound ha rfl
   unfold execOp
   simp only [evalS_sound ha hx, hy, SV.den, Sem.run_bind] at hr ⊢
   simp [hr]
  ·rename_i ms d v hu hx
   simp only [Option.some.injEq] at h
   subst h
   have hm : P.underlying t = some (.interface (P.methodsAt t)) := by unfold Program.methodsAt; rw [hu]
   have hr : ((do eqGuard .neq t x (.const .nilIface) (.iface d v) .nilIface; binOp .neq t (.iface d v) .nilIface) : Sem Value).run P w = .ok (.bool true) w := by
    have hg : eqGuard .neq t x (.const .nilIface) (.iface d v) .nilIface = pure () := rfl
    rw [hg]
    exact run_neq_held_nil w t d v hm
   have hy : act.eval (.const .nilIface) = (SV.v .nilIface).den ρ := evalS_sound ha rfl
   unfold execOp
   simp only [evalS_sound ha hx, hy, SV.den, Sem.run_bind] at hr ⊢
   simp [hr]
  ·cases h
 ·cases h
def nilI (P : Program) (ntm : Nat) (s : S) : Option Bool :=
 match s.head?, s.dstOk ntm with
 | some o, true => nilQ P s.fr o
 | _, _ => none
theorem At.nilne {s : S} (b : Bool) (hq : nilI P ntm s = some b) (hF : Stable F) (h : At P Q N w0 ntm F (s.tail ntm (.v (.bool b)))) : At P Q N w0 ntm F s := by
 unfold nilI at hq
 split at hq
 ·rename_i o ho hd
  exact At.op hF o (.v (.bool b)) ho hd (fun ρ act w hi _ => run_nilQ hi.act hq w) h
 ·cases hq
end
end Go.Sx
end
