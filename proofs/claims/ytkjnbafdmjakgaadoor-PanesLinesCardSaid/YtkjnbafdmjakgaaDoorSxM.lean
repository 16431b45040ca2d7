import Derived.Test.YtkjnbafdmjakgaaDoorSxJ
import Derived.Maps.AppendAt
set_option linter.unusedSimpArgs false
set_option linter.unusedVariables false
namespace Go.Sx
open Go.RowKit
section
variable {P : Program} {Q : Exit → Act → World → Prop} {N : Nat} {w0 : World} {ntm : Nat} {F : List Nat → World → Prop}

def S.plain (s : S) : Bool := match s.pc with | .ops .. => true | _ => false

/-- An operation of a plain region that may change the world outside the local blocks, its value known up to x. -/
theorem At.opx {X : Type} {s : S} (o : Oper) (r : X → SV) (G : X → List Nat → World → Prop) (ho : s.head? = some o) (hd : s.dstOk ntm = true) (hp : s.plain = true)
    (hr : ∀ ρ a w, Inv N w0 ntm ρ s.fr s.loc a w → F ρ w → ∃ x w', (execOp a.eval o).run P w = .ok (.value ((r x).den ρ)) w' ∧ WInv N w0 ρ s.loc w' ∧ G x ρ w')
    (h : ∀ x, At P Q N w0 ntm (G x) (s.tail ntm (r x))) : At P Q N w0 ntm F s := by
  intro ρ a w hi hf
  obtain ⟨pc, ks, fr, loc⟩ := s
  cases pc with
  | ops all rest =>
    cases rest with
    | nil => simp [S.head?] at ho
    | cons o' rest =>
      simp only [S.head?] at ho
      split at ho
      · rename_i hg
        simp only [Option.some.injEq] at ho
        subst ho
        obtain ⟨x, w', h1, h2, h3⟩ := hr ρ a w hi hf
        obtain ⟨fr', hpp⟩ := putS_some (fr := fr) (ntm := ntm) hd (r x)
        have hk := h x ρ (a.put o'.dst ((r x).den ρ)) w' (by simp only [S.tail, hpp]; exact ⟨putS_ok hi.act hpp, h2⟩) h3
        simp only [S.tail, hpp] at hk
        show wpList P all _ (o' :: rest) a w
        unfold wpList
        rw [if_pos (guardS_ok hi.act hg)]
        refine .inl ?_
        unfold Oper.wp
        rw [h1]
        exact hk
      · cases ho
  | qops all rest => simp [S.plain] at hp
  | code c => simp [S.plain] at hp
  | any _ _ _ => simp [S.plain] at hp
  | exit e => simp [S.plain] at hp

def S.withLoc (s : S) (l : Loc) : S := { s with loc := l }
/-- A call that may change the local blocks, make new ones, and whatever the facts allow. -/
theorem At.callg {X : Type} {s : S} (g : FuncId) (vs : List SV) (r : X → SV) (nl : X → Loc) (G : X → List Nat → World → Prop) (hc : s.call? = some (g, vs)) (hb : bodied P g = true) (hd : s.dstOk ntm = true) (hp : s.plain = true)
    (hsc : scopedFr s.loc.length s.fr = true)
    (hr : ∀ ρ w, WInv N w0 ρ s.loc w → F ρ w → Calls P g (SV.denL ρ vs).toArray w fun e w' => ∃ x ρ', e = .returned ((r x).den ρ') ∧ Grow w.heap.size ρ ρ' ∧ WInv N w0 ρ' (nl x) w' ∧ G x ρ' w')
    (h : ∀ x, At P Q N w0 ntm (G x) ((s.tail ntm (r x)).withLoc (nl x))) : At P Q N w0 ntm F s := by
  intro ρ a w hi hf
  obtain ⟨pc, ks, fr, loc⟩ := s
  unfold S.call? at hc
  split at hc
  · rename_i o ho
    cases pc with
    | ops all rest =>
      cases rest with
      | nil => simp [S.head?] at ho
      | cons o' rest =>
        simp only [S.head?] at ho
        split at ho
        · rename_i hg
          simp only [Option.some.injEq] at ho
          subst ho
          show wpList P all _ (o' :: rest) a w
          unfold wpList
          rw [if_pos (guardS_ok hi.act hg)]
          refine .inl ?_
          unfold Oper.wp
          rw [run_callS hi.act hc hb]
          refine (hr ρ w hi.mem hf).mono ?_
          rintro e w' ⟨x, ρ', rfl, ⟨ext, rfl, hext⟩, hw, hG⟩
          obtain ⟨fr', hpp⟩ := putS_some (fr := fr) (ntm := ntm) hd (r x)
          have ha : AInv ntm (ρ ++ ext) fr a := by
            refine ⟨hi.act.defers, hi.act.size, fun t s hl => ?_⟩
            have hs := scopedFr_look hsc hl
            have hlen := hi.mem.len
            have hden : s.den (ρ ++ ext) = s.den ρ := by
              have := SV.den_take (ρ ++ ext) loc.length s hs
              rw [← this]
              congr 1
              simp only at hlen
              rw [← hlen]
              simp
            rw [hden]
            exact hi.act.slot t s hl
          have hk := h x (ρ ++ ext) (a.put o'.dst ((r x).den (ρ ++ ext))) w' (by simp only [S.tail, hpp, S.withLoc]; exact ⟨putS_ok ha hpp, hw⟩) hG
          simp only [S.tail, hpp, S.withLoc] at hk
          exact hk
        · cases ho
    | qops all rest => simp [S.plain] at hp
    | code c => simp [S.plain] at hp
    | any _ _ _ => simp [S.plain] at hp
    | exit e => simp [S.plain] at hp
  · cases hc

theorem WInv.grown {w w' : World} {ρ : List Nat} {loc : Loc} {row : Option Nat} (h : WInv N w0 ρ loc w) (hg : w.grownBy w' row) (hrow : ∀ g, row = some g → N ≤ g ∧ g ∉ ρ) : WInv N w0 ρ loc w' :=
  ⟨h.below.grown hg h.hN (fun k hk => (hrow k hk).1), Nat.le_trans h.hN hg.size, h.len, h.nodup, fun b hm => ⟨(h.ge b hm).1, Nat.lt_of_lt_of_le (h.ge b hm).2 hg.size⟩, fun i c t hi => by
    have hold := h.cells i c t hi
    have hm : nth ρ i ∈ ρ := by
      have : i < ρ.length := by rw [h.len]; exact (List.getElem?_eq_some_iff.1 hi).1
      simp [nth, List.getD, this]
    rw [hg.block _ (Array.getElem?_eq_some_iff.1 hold).1 (fun e => (hrow _ e.symm).2 hm)]
    exact hold⟩

/-! ### a row of one's own -/
def Row (base e size : Nat) (A : Option Addr) (n c : Nat) (xs : List Value) (ρ : List Nat) (w : World) : Prop :=
  w.ownsRow base e size (.slice A n c) n xs ∧ ∀ g, (Value.slice A n c).ownBlock = some g → g ∉ ρ
theorem Row.nil (base e size : Nat) (ρ : List Nat) (w : World) : Row base e size none 0 0 [] ρ w := ⟨World.ownsRow_nil _ _ _ _, fun g h => by simp [Value.ownBlock] at h⟩
theorem Row.keep {base e size : Nat} {A : Option Addr} {n c : Nat} {xs : List Value} {ρ ρ' : List Nat} {w w' : World} (h : Row base e size A n c xs ρ w) (hg : Grow w.heap.size ρ ρ') (hk : Keep ρ w w') : Row base e size A n c xs ρ' w' := by
  have hlt := h.1.lt
  refine ⟨?_, fun g hh hm => ?_⟩
  · obtain ⟨h1, h2⟩ := h.1
    refine ⟨h1, ?_⟩
    rcases h2 with h2 | ⟨g, cap, cur, hv, hb, hc, hr⟩
    · exact .inl h2
    · have ho : (Value.slice A n c).ownBlock = some g := by rw [hv]; rfl
      exact .inr ⟨g, cap, cur, hv, hb, by rw [hk.block g (hlt g ho).2 (h.2 g ho)]; exact hc, hr⟩
  · rcases hg.of_mem hm with h1 | h1
    · exact h.2 g hh h1
    · have := (hlt g hh).2; omega
theorem Row.stable (base e size : Nat) (A : Option Addr) (n c : Nat) (xs : List Value) : Stable (Row base e size A n c xs) := fun _ _ _ _ hg hk h => h.keep hg hk
theorem Row.fewer (base e size : Nat) (A : Option Addr) (n c : Nat) (xs : List Value) : Fewer (Row base e size A n c xs) := fun _ _ _ h => ⟨h.1, fun g hg hm => h.2 g hg (List.mem_of_mem_take hm)⟩
theorem Row.len {base e size : Nat} {A : Option Addr} {n c : Nat} {xs : List Value} {ρ : List Nat} {w : World} (h : Row base e size A n c xs ρ w) : xs.length = n * size := h.1.1
theorem Row.cell {base e size : Nat} {A : Option Addr} {n c : Nat} {xs : List Value} {ρ : List Nat} {w : World} (h : Row base e size A n c xs ρ w) {j : Nat} (hj : j < n * size) : ∃ g, A = some ⟨g, 0, none⟩ ∧ w.cell? ⟨g, j, none⟩ = xs[j]? := by
  rcases h.1.2 with ⟨h2, h3⟩ | ⟨g, cap, cur, hv, _⟩
  · subst h3; simp at hj
  · injection hv with hA _ hc
    subst hA; subst hc
    exact ⟨g, rfl, h.1.cellAt j hj⟩

def elemT (P : Program) (t : TypeId) : Option (TypeId × Nat × Nat) :=
  match P.underlying t with
  | some (.slice e) => match P.info? e with
    | some i => match i.zero with
      | some z => match Nat.beq z.cells.size i.size && Nat.blt 0 i.size with
        | true => some (e, i.size, i.bytes)
        | false => none
      | none => none
    | none => none
  | _ => none
theorem run_append_row {t ty e size bytes : Nat} (ht : elemT P t = some (e, size, bytes)) {base : Nat} {A : Option Addr} {n c : Nat} {xs : List Value} {ρ : List Nat} {w : World} (h : Row base e size A n c xs ρ w) (hbase : base ≤ w.heap.size) (hρ : ∀ b ∈ ρ, b < w.heap.size)
    (a : Addr) (m k : Nat) (news : List Value) (hl : news.length = m * size) (hnews : ∀ j u, news[j]? = some u → w.cell? (a.add j) = some u) (h1 : ∀ u ∈ news, u.oneCell' = true)
    (hbytes : (n + m) * bytes ≤ 140737488355328) (h63 : n + m ≤ maxLen) :
    ∃ A' c' w', (Builtin.append_ #[t, t] ty #[.slice A n c, .slice (some a) m k]).run P w = .ok (.slice A' (n + m) c') w' ∧ Row base e size A' (n + m) c' (xs ++ news) ρ w' ∧ w.grownBy w' (Value.slice A n c).ownBlock ∧
      ((Value.slice A' (n + m) c').ownBlock = (Value.slice A n c).ownBlock ∨ (Value.slice A' (n + m) c').ownBlock = some w.heap.size) := by
  unfold elemT at ht
  split at ht
  · rename_i e' hu
    split at ht
    · rename_i i hi
      split at ht
      · rename_i z hz
        split at ht
        · rename_i hb
          simp only [Bool.and_eq_true] at hb
          simp only [Option.some.injEq, Prod.mk.injEq] at ht
          obtain ⟨rfl, rfl, rfl⟩ := ht
          have hzs := Nat.eq_of_beq_eq_true hb.1
          have hsz : 0 < i.size := by simpa using hb.2
          obtain ⟨v', w', hrun, h2, h3, _, h5⟩ := run_append_own_at (P := P) w base t ty e' i z i.size i.bytes hu hi hz rfl rfl hzs hsz (.slice A n c) n xs h.1 a m k news hl hnews h1 h63 hbytes hbase
          have hv : ∃ A' c', v' = .slice A' (n + m) c' := by
            rcases h2.2 with ⟨hv, h0⟩ | ⟨g, cap, cur, hv, _⟩
            · exact ⟨none, 0, by rw [hv, h0]⟩
            · exact ⟨_, _, hv⟩
          obtain ⟨A', c', rfl⟩ := hv
          refine ⟨A', c', w', hrun, ⟨h2, fun g hg hm => ?_⟩, h3, h5⟩
          rcases h5 with h5 | h5
          · exact h.2 g (h5 ▸ hg) hm
          · rw [h5] at hg
            injection hg with hg
            have := hρ g hm
            omega
        · cases ht
      · cases ht
    · cases ht
  · cases ht

/-- 'append(x, y...)' at a row of one's own, the source a local row. -/
def SV.asSl : SV → SV
  | .v (.slice A n c) => .sl A n c
  | s => s
theorem SV.asSl_den (ρ : List Nat) : ∀ s : SV, s.asSl.den ρ = s.den ρ := by
  intro s
  cases s with
  | v x => cases x <;> rfl
  | _ => rfl
def appS (fr : Fr) (o : Oper) : Option (TypeId × SV × SV) :=
  match o.op with
  | .call { callee := .builtin .append, args := ⟨[x, y]⟩, argTypes := ⟨[t, t']⟩ } => match Nat.beq t t', evalS fr x, evalS fr y with
    | true, some sx, some sy => some (t, sx.asSl, sy)
    | _, _, _ => none
  | _ => none
theorem run_appS {ρ : List Nat} {fr : Fr} {a : Act} (ha : AInv ntm ρ fr a) {o : Oper} {t : TypeId} {sx sy : SV} (h : appS fr o = some (t, sx, sy)) {v : Value} {w w' : World} (hr : (Builtin.append_ #[t, t] o.type #[sx.den ρ, sy.den ρ]).run P w = .ok v w') :
    (execOp a.eval o).run P w = .ok (.value v) w' := by
  obtain ⟨dst, op, ty, pos, after, guard⟩ := o
  unfold appS at h
  simp only at h
  split at h
  · rename_i x y t0 t0'
    split at h
    · rename_i s1 s2 hb hx hy
      simp only [Option.some.injEq, Prod.mk.injEq] at h
      obtain ⟨rfl, rfl, rfl⟩ := h
      have := Nat.eq_of_beq_eq_true hb
      subst this
      simp only at hr
      rw [SV.asSl_den] at hr
      simp [execOp, resolve, invoke, builtin, evalS_sound ha hx, evalS_sound ha hy, hr]
    · cases h
  · cases h
theorem At.append {s : S} (o : Oper) (t e size bytes : Nat) (base : Nat) (A : Option Addr) (n c : Nat) (xs : List Value) (i off m k : Nat) (cells : List SV) (ct : TypeId) (ho : s.head? = some o) (hd : s.dstOk ntm = true) (hp : s.plain = true)
    (ha : appS s.fr o = some (t, .sl A n c, .ls i off m k)) (ht : elemT P t = some (e, size, bytes)) (hl : s.loc[i]? = some (cells, ct)) (hle : off + m * size ≤ cells.length) (hone : oneL ((cells.drop off).take (m * size)) = true)
    (hbytes : (n + m) * bytes ≤ 140737488355328) (h63 : n + m ≤ maxLen) (hN : N ≤ base)
    (F2 : List Nat → World → Prop) (G : List Nat → World → Prop) (hF : ∀ ρ w, F ρ w → Row base e size A n c xs ρ w ∧ base ≤ w.heap.size ∧ F2 ρ w) (hG : ∀ ρ w w', F2 ρ w → w.grownBy w' (Value.slice A n c).ownBlock → G ρ w')
    (news : List Value) (hnews : ∀ ρ, SV.denL ρ ((cells.drop off).take (m * size)) = news)
    (h : ∀ x : Option Addr × Nat, At P Q N w0 ntm (fun ρ w => Row base e size x.1 (n + m) x.2 (xs ++ news) ρ w ∧ base ≤ w.heap.size ∧ G ρ w) (s.tail ntm (.sl x.1 (n + m) x.2))) : At P Q N w0 ntm F s := by
  refine At.opx o (fun x : Option Addr × Nat => .sl x.1 (n + m) x.2) (fun x ρ w => Row base e size x.1 (n + m) x.2 (xs ++ news) ρ w ∧ base ≤ w.heap.size ∧ G ρ w) ho hd hp ?_ h
  intro ρ a w hi hf
  obtain ⟨hrow, hb, hf2⟩ := hF ρ w hf
  have hlen : news.length = m * size := by
    rw [← hnews ρ]
    simp [SV.denL_eq]; omega
  obtain ⟨A', c', w', h1, h2, h3, h4⟩ := run_append_row (P := P) (ty := o.type) ht hrow hb (fun b hb => (hi.mem.ge b hb).2) ⟨nth ρ i, off, none⟩ m k news hlen (fun j u hj => by
      rw [add_ok, cell_of_loc hi.mem hl]
      rw [← hnews ρ] at hj
      have hjn : j < m * size := by
        have := (List.getElem?_eq_some_iff.1 hj).1
        simp [SV.denL_eq] at this
        omega
      simpa [SV.denL_eq, List.getElem?_take, hjn, List.getElem?_drop] using hj) (by rw [← hnews ρ]; exact oneL_den hone) hbytes h63
  refine ⟨(A', c'), w', run_appS hi.act ha h1, hi.mem.grown h3 (fun g hg => ?_), h2, Nat.le_trans hb h3.size, hG ρ w w' hf2 h3⟩
  exact ⟨Nat.le_trans hN (hrow.1.lt g hg).1, hrow.2 g hg⟩
/-- The beginning, where blocks from N on may be written, and some facts are known. -/
theorem enterF {f : FuncId} {fn : Func} {c : Code} {R : Ending → World → Prop} (sargs : List SV) (hf : P.funcs[f]? = some fn) (hb : fn.body = some c) (hle : Nat.ble sargs.length fn.ntmps = true)
    (hN : N ≤ w0.heap.size) (hF : F [] w0) (h : At P (bodyPost P fn R) N w0 fn.ntmps F ⟨.code c, [], frOf 0 sargs, []⟩) : Calls P f (SV.denL [] sargs).toArray w0 R := by
  refine calls_of_wp hf hb (h [] _ w0 ⟨⟨rfl, ?_, ?_⟩, ?_⟩ hF)
  · have := Nat.le_of_ble_eq_true hle
    simp [SV.denL_eq]; omega
  · intro t s hs
    have := look_frOf (ρ := []) (pre := []) (rest := List.replicate (fn.ntmps - sargs.length) undef) rfl hs
    rw [← Array.getElem?_toList]
    simpa [SV.denL_eq] using this
  · exact ⟨Below.refl _ _, hN, rfl, List.nodup_nil, by simp, by simp⟩
end
end Go.Sx

set_option linter.unusedSimpArgs false
set_option linter.unusedVariables false
namespace Go.Sx
open Go.RowKit
section
variable {P : Program} {Q : Exit → Act → World → Prop} {N : Nat} {w0 : World} {ntm : Nat} {F : List Nat → World → Prop}

theorem At.mono {F' : List Nat → World → Prop} {s : S} (hF : ∀ ρ w, F ρ w → F' ρ w) (h : At P Q N w0 ntm F' s) : At P Q N w0 ntm F s := fun ρ a w hi hf => h ρ a w hi (hF ρ w hf)
theorem At.pure {F' : List Nat → World → Prop} {p : Prop} {s : S} (h : p → At P Q N w0 ntm F' s) : At P Q N w0 ntm (fun ρ w => F' ρ w ∧ p) s := fun ρ a w hi hf => h hf.2 ρ a w hi hf.1
theorem Stable.and {F G : List Nat → World → Prop} (h : Stable F) (k : Stable G) : Stable (fun ρ w => F ρ w ∧ G ρ w) := fun ρ w ρ' w' hg hk ⟨h1, h2⟩ => ⟨h ρ w ρ' w' hg hk h1, k ρ w ρ' w' hg hk h2⟩
theorem Fewer.and {F G : List Nat → World → Prop} (h : Fewer F) (k : Fewer G) : Fewer (fun ρ w => F ρ w ∧ G ρ w) := fun ρ w n ⟨h1, h2⟩ => ⟨h ρ w n h1, k ρ w n h2⟩

/-- Of what was there only the blocks of 'ok' may have turned. -/
structure Chg (ok : Nat → Prop) (w w' : World) : Prop where
  os : w'.os = w.os
  tape : w'.tape = w.tape
  output : w'.output = w.output
  size : w.heap.size ≤ w'.heap.size
  block : ∀ k, k < w.heap.size → ¬ ok k → w'.heap[k]? = w.heap[k]?
theorem Chg.refl (ok : Nat → Prop) (w : World) : Chg ok w w := ⟨rfl, rfl, rfl, Nat.le_refl _, fun _ _ _ => rfl⟩
theorem Chg.trans {ok : Nat → Prop} {a b c : World} (h : Chg ok a b) (k : Chg ok b c) : Chg ok a c :=
  ⟨k.os.trans h.os, k.tape.trans h.tape, k.output.trans h.output, Nat.le_trans h.size k.size, fun i hi ho => (k.block i (Nat.lt_of_lt_of_le hi h.size) ho).trans (h.block i hi ho)⟩
theorem Chg.mono {ok ok' : Nat → Prop} {a b : World} (h : Chg ok a b) (ho : ∀ k, k < a.heap.size → ok k → ok' k) : Chg ok' a b :=
  ⟨h.os, h.tape, h.output, h.size, fun i hi hn => h.block i hi fun hk => hn (ho i hi hk)⟩
theorem Chg.below {ok : Nat → Prop} {a b : World} {B : Nat} (h : Chg ok a b) (hB : B ≤ a.heap.size) (ho : ∀ k, k < B → ¬ ok k) : Below B a b :=
  ⟨h.os, h.tape, h.output, h.size, fun i hi => h.block i (Nat.lt_of_lt_of_le hi hB) (ho i hi)⟩
theorem Chg.ofBelow {ok : Nat → Prop} {a b : World} (h : Below a.heap.size a b) : Chg ok a b :=
  ⟨h.os, h.tape, h.output, h.size, fun i hi _ => h.block i hi⟩
theorem Chg.ofGrown {ok : Nat → Prop} {a b : World} {row : Option Nat} (h : a.grownBy b row) (ho : ∀ k, some k = row → k < a.heap.size → ok k) : Chg ok a b :=
  ⟨h.os, h.tape, h.output, h.size, fun i hi hn => h.block i hi fun e => hn (ho i e hi)⟩
theorem Chg.toGrown {a b : World} {row : Option Nat} (h : Chg (fun k => some k = row) a b) : a.grownBy b row :=
  ⟨h.os, h.tape, h.output, h.size, fun i hi hn => h.block i hi hn⟩

/-- Facts that hold with fewer local blocks, too, if the first j stay. -/
def FewerK (j : Nat) (F : List Nat → World → Prop) : Prop := ∀ ρ w k, j ≤ k → F ρ w → F (ρ.take k) w
theorem At.toJ {j : Nat} (hF : Stable F) (hF' : FewerK j F) (u n : Nat) (ts : List Nat) (k : Nat) {s : S} (s' : S) (hs : (srun P ntm u n s).keep ts k = s') (hsc : (scopedFr k s'.fr && (scopedLoc k s'.loc && Nat.ble j k)) = true) (h : At P Q N w0 ntm F s') : At P Q N w0 ntm F s := by
  refine At.run hF u n ?_
  intro ρ a w hi hf
  simp only [Bool.and_eq_true] at hsc
  subst hs
  exact h _ a w (hi.keep ts k hsc.1 hsc.2.1) (hF' _ _ _ (Nat.le_of_ble_eq_true hsc.2.2) hf)

/-- The frame: what was there when the call began, where the local blocks lie, and which of them came in. -/
def FrameR (w0 : World) (ok : Nat → Prop) (ρ0 : List Nat) (ρ : List Nat) (w : World) : Prop := Chg ok w0 w ∧ (∀ b ∈ ρ, ok b ∨ w0.heap.size ≤ b) ∧ ρ.take ρ0.length = ρ0
theorem FrameR.stable {ok : Nat → Prop} {ρ0 : List Nat} : Stable (FrameR w0 ok ρ0) := fun ρ w ρ' w' hg hk ⟨h1, h2, h3⟩ =>
  ⟨⟨hk.os.trans h1.os, hk.tape.trans h1.tape, hk.output.trans h1.output, Nat.le_trans h1.size hk.size, fun k hk' hne => (hk.block k (Nat.lt_of_lt_of_le hk' h1.size) (fun hm => by
      rcases h2 k hm with h | h
      · exact hne h
      · omega)).trans (h1.block k hk' hne)⟩,
    fun b hb => by
      rcases hg.of_mem hb with h | h
      · exact h2 b h
      · have := h1.size; exact .inr (by omega), by
    obtain ⟨ext, rfl, _⟩ := hg
    have hl : ρ0.length ≤ ρ.length := by
      have := congrArg List.length h3
      simp at this; omega
    rw [List.take_append_of_le_length hl]; exact h3⟩
theorem FrameR.fewer {ok : Nat → Prop} {ρ0 : List Nat} : FewerK ρ0.length (FrameR w0 ok ρ0) := fun ρ _ k hk h => ⟨h.1, fun b hb => h.2.1 b (List.mem_of_mem_take hb), by
  rw [List.take_take, Nat.min_eq_left hk]; exact h.2.2⟩
theorem FrameR.start (ok : Nat → Prop) (ρ : List Nat) (h : ∀ b ∈ ρ, ok b) : FrameR w0 ok ρ ρ w0 := ⟨Chg.refl _ _, fun b hb => .inl (h b hb), by simp⟩
theorem FrameR.nth {ok : Nat → Prop} {ρ0 ρ : List Nat} {w : World} (h : FrameR w0 ok ρ0 ρ w) {i : Nat} (hi : i < ρ0.length) : nth ρ i = nth ρ0 i := by
  have := h.2.2
  conv => rhs; rw [← this]
  simp [Go.Sx.nth, List.getD, hi]

/-- A row of one's own, and the frame. -/
def RowF (w0 : World) (ok : Nat → Prop) (ρ0 : List Nat) (base e size : Nat) (A : Option Addr) (n c : Nat) (xs : List Value) (ρ : List Nat) (w : World) : Prop :=
  (Row base e size A n c xs ρ w ∧ base ≤ w.heap.size) ∧ FrameR w0 ok ρ0 ρ w ∧ ∀ g, (Value.slice A n c).ownBlock = some g → ok g ∨ w0.heap.size ≤ g
theorem RowF.stable {ok : Nat → Prop} {ρ0 : List Nat} {base e size : Nat} {A : Option Addr} {n c : Nat} {xs : List Value} : Stable (RowF w0 ok ρ0 base e size A n c xs) := fun ρ w ρ' w' hg hk ⟨⟨h1, h2⟩, h3, h4⟩ =>
  ⟨⟨h1.keep hg hk, Nat.le_trans h2 hk.size⟩, FrameR.stable ρ w ρ' w' hg hk h3, h4⟩
theorem RowF.fewer {ok : Nat → Prop} {ρ0 : List Nat} {base e size : Nat} {A : Option Addr} {n c : Nat} {xs : List Value} : FewerK ρ0.length (RowF w0 ok ρ0 base e size A n c xs) := fun ρ w k hk ⟨⟨h1, h2⟩, h3, h4⟩ =>
  ⟨⟨Row.fewer _ _ _ _ _ _ _ ρ w k h1, h2⟩, FrameR.fewer ρ w k hk h3, h4⟩
theorem FrameR.chg {ok ok' : Nat → Prop} {ρ0 ρ : List Nat} {w w' : World} (h : FrameR w0 ok ρ0 ρ w) (hg : Chg ok' w w') (hr : ∀ g, g < w.heap.size → ok' g → ok g ∨ w0.heap.size ≤ g) : FrameR w0 ok ρ0 ρ w' :=
  ⟨⟨hg.os.trans h.1.os, hg.tape.trans h.1.tape, hg.output.trans h.1.output, Nat.le_trans h.1.size hg.size, fun k hk hne => (hg.block k (Nat.lt_of_lt_of_le hk h.1.size) (fun e => by
    rcases hr k (Nat.lt_of_lt_of_le hk h.1.size) e with h1 | h1
    · exact hne h1
    · omega)).trans (h.1.block k hk hne)⟩, h.2⟩
theorem FrameR.grown {ok : Nat → Prop} {row : Option Nat} {ρ0 ρ : List Nat} {w w' : World} (h : FrameR w0 ok ρ0 ρ w) (hg : w.grownBy w' row) (hr : ∀ g, row = some g → ok g ∨ w0.heap.size ≤ g) : FrameR w0 ok ρ0 ρ w' :=
  h.chg (Chg.ofGrown (ok := fun k => some k = row) hg fun _ e _ => e) fun g _ e => hr g e.symm
theorem At.appendF {s : S} (ok : Nat → Prop) (ρ0 : List Nat) (o : Oper) (t e size bytes : Nat) (base : Nat) (A : Option Addr) (n c : Nat) (xs : List Value) (i off m k : Nat) (cells : List SV) (ct : TypeId) (news : List Value) (ho : s.head? = some o) (hd : s.dstOk ntm = true) (hp : s.plain = true)
    (ha : appS s.fr o = some (t, .sl A n c, .ls i off m k)) (ht : elemT P t = some (e, size, bytes)) (hl : s.loc[i]? = some (cells, ct)) (hle : Nat.ble (off + m * size) cells.length = true) (hone : oneL ((cells.drop off).take (m * size)) = true)
    (hnews : ∀ ρ, SV.denL ρ ((cells.drop off).take (m * size)) = news)
    (hbytes : (n + m) * bytes ≤ 140737488355328) (h63 : n + m ≤ maxLen) (hN : N ≤ base)
    (h : ∀ (A' : Option Addr) (c' : Nat), At P Q N w0 ntm (RowF w0 ok ρ0 base e size A' (n + m) c' (xs ++ news)) (s.tail ntm (.sl A' (n + m) c'))) : At P Q N w0 ntm (RowF w0 ok ρ0 base e size A n c xs) s := by
  refine At.opx o (fun x : Option Addr × Nat => .sl x.1 (n + m) x.2) (fun x ρ w => RowF w0 ok ρ0 base e size x.1 (n + m) x.2 (xs ++ news) ρ w) ho hd hp ?_ (fun x => h x.1 x.2)
  intro ρ a w hi ⟨⟨hrow, hb⟩, hfr, hblk⟩
  have hlen : news.length = m * size := by
    rw [← hnews ρ]
    have := Nat.le_of_ble_eq_true hle
    simp [SV.denL_eq]; omega
  obtain ⟨A', c', w', h1, h2, h3, h4⟩ := run_append_row (P := P) (ty := o.type) ht hrow hb (fun b hb => (hi.mem.ge b hb).2) ⟨nth ρ i, off, none⟩ m k news hlen (fun j u hj => by
      rw [add_ok, cell_of_loc hi.mem hl]
      rw [← hnews ρ] at hj
      have hjn : j < m * size := by
        have := (List.getElem?_eq_some_iff.1 hj).1
        simp [SV.denL_eq] at this
        omega
      simpa [SV.denL_eq, List.getElem?_take, hjn, List.getElem?_drop] using hj) (by rw [← hnews ρ]; exact oneL_den hone) hbytes h63
  refine ⟨(A', c'), w', run_appS hi.act ha h1, hi.mem.grown h3 (fun g hg => ⟨Nat.le_trans hN (hrow.1.lt g hg).1, hrow.2 g hg⟩), ⟨h2, Nat.le_trans hb h3.size⟩, hfr.grown h3 hblk, fun g hg => ?_⟩
  rcases h4 with h4 | h4
  · exact hblk g (h4 ▸ hg)
  · rw [h4] at hg
    injection hg with hg
    have := hfr.1.size
    exact .inr (by omega)
end
end Go.Sx

set_option linter.unusedSimpArgs false
set_option linter.unusedVariables false
namespace Go.Sx
open Go.RowKit
section
variable {P : Program} {Q : Exit → Act → World → Prop} {N : Nat} {w0 : World} {ntm : Nat} {F : List Nat → World → Prop}

structure AppQ where
  t : TypeId
  e : TypeId
  size : Nat
  bytes : Nat
  A : Option Addr
  n : Nat
  c : Nat
  m : Nat
  nl : List SV
/-- What an append to a row of one's own, from a local row, is about. -/
def appQ (P : Program) (ntm : Nat) (s : S) : Option (Oper × AppQ × Nat × Nat × Nat × List SV × TypeId) :=
  match s.head? with
  | some o => match appS s.fr o with
    | some (t, .sl A n c, .ls i off m k) => match elemT P t, s.loc[i]? with
      | some (e, size, bytes), some (cells, ct) => match s.plain && (Nat.ble (off + m * size) cells.length && oneL ((cells.drop off).take (m * size))) && s.dstOk ntm with
        | true => some (o, ⟨t, e, size, bytes, A, n, c, m, (cells.drop off).take (m * size)⟩, i, off, k, cells, ct)
        | false => none
      | _, _ => none
    | _ => none
  | none => none
def appI (P : Program) (ntm : Nat) (s : S) : Option AppQ := (appQ P ntm s).map (·.2.1)
theorem At.appq {s : S} (q : AppQ) (ok : Nat → Prop) (ρ0 : List Nat) (base : Nat) (xs news : List Value) (hq : appI P ntm s = some q) (hnews : ∀ ρ, SV.denL ρ q.nl = news)
    (hbytes : (q.n + q.m) * q.bytes ≤ 140737488355328) (h63 : q.n + q.m ≤ maxLen) (hN : N ≤ base)
    (h : ∀ (A' : Option Addr) (c' : Nat), At P Q N w0 ntm (RowF w0 ok ρ0 base q.e q.size A' (q.n + q.m) c' (xs ++ news)) (s.tail ntm (.sl A' (q.n + q.m) c'))) : At P Q N w0 ntm (RowF w0 ok ρ0 base q.e q.size q.A q.n q.c xs) s := by
  unfold appI at hq
  obtain ⟨⟨o, q', i, off, k, cells, ct⟩, h1, h2⟩ := Option.map_eq_some_iff.1 hq
  simp only at h2
  subst h2
  unfold appQ at h1
  split at h1
  · rename_i o' ho
    split at h1
    · rename_i t A n c i' off' m k' ha
      split at h1
      · rename_i e size bytes cells' ct' ht hl
        split at h1
        · rename_i hb
          simp only [Option.some.injEq, Prod.mk.injEq] at h1
          obtain ⟨rfl, rfl, rfl, rfl, rfl, rfl, rfl⟩ := h1
          simp only [Bool.and_eq_true] at hb
          exact At.appendF ok ρ0 _ t e size bytes base A n c xs _ _ m _ _ _ news ho hb.2 hb.1.1 ha ht hl hb.1.2.1 hb.1.2.2 hnews hbytes h63 hN h
        · cases h1
      · cases h1
    · cases h1
  · cases h1
theorem At.app {s : S} (t e size bytes : Nat) (A : Option Addr) (n c m : Nat) (nl : List SV) (ok : Nat → Prop) (ρ0 : List Nat) (base : Nat) (xs news : List Value) (hq : appI P ntm s = some ⟨t, e, size, bytes, A, n, c, m, nl⟩) (hnews : ∀ ρ, SV.denL ρ nl = news)
    (hbytes : (n + m) * bytes ≤ 140737488355328) (h63 : n + m ≤ maxLen) (hN : N ≤ base)
    (h : ∀ (A' : Option Addr) (c' : Nat), At P Q N w0 ntm (RowF w0 ok ρ0 base e size A' (n + m) c' (xs ++ news)) (s.tail ntm (.sl A' (n + m) c'))) : At P Q N w0 ntm (RowF w0 ok ρ0 base e size A n c xs) s :=
  At.appq ⟨t, e, size, bytes, A, n, c, m, nl⟩ ok ρ0 base xs news hq hnews hbytes h63 hN h
end
end Go.Sx
