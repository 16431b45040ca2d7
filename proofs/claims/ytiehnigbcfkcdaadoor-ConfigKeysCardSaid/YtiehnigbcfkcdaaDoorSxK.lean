import Derived.Test.YtiehnigbcfkcdaaDoorSxJ
import Derived.Maps.AppendAt
set_option linter.unusedSimpArgs false
set_option linter.unusedVariables false
namespace Go.Sx
open Go.RowKit
section
variable {P : Program} {Q : Exit → Act → World → Prop} {N : Nat} {w0 : World} {ntm : Nat} {F : List Nat → World → Prop}

def S.plain (s : S) : Bool := match s.pc with | .ops .. => true | _ => false

/-- An operation of a plain region that may change the world outside the local blocks, its value known up to x. -/
theorem At.opx {X : Type} {s : S} (o : Oper) (r : X → SV) (G : X → List Nat → World → Prop) (ho : s.head? = some o) (hd : s.dstOk ntm = true) (hp : s.plain = true)
    (hr : ∀ ρ a w, Inv N w0 ntm ρ s.fr s.loc a w → F ρ w → ∃ x w', (execOp a.eval o).run P w = .ok (.value ((r x).den ρ)) w' ∧ WInv N w0 ρ s.loc w' ∧ G x ρ w')
    (h : ∀ x, At P Q N w0 ntm (G x) (s.tail ntm (r x))) : At P Q N w0 ntm F s := by
  intro ρ a w hi hf
  obtain ⟨pc, ks, fr, loc⟩ := s
  cases pc with
  | ops all rest =>
    cases rest with
    | nil => simp [S.head?] at ho
    | cons o' rest =>
      simp only [S.head?] at ho
      split at ho
      · rename_i hg
        simp only [Option.some.injEq] at ho
        subst ho
        obtain ⟨x, w', h1, h2, h3⟩ := hr ρ a w hi hf
        obtain ⟨fr', hpp⟩ := putS_some (fr := fr) (ntm := ntm) hd (r x)
        have hk := h x ρ (a.put o'.dst ((r x).den ρ)) w' (by simp only [S.tail, hpp]; exact ⟨putS_ok hi.act hpp, h2⟩) h3
        simp only [S.tail, hpp] at hk
        show wpList P all _ (o' :: rest) a w
        unfold wpList
        rw [if_pos (guardS_ok hi.act hg)]
        refine .inl ?_
        unfold Oper.wp
        rw [h1]
        exact hk
      · cases ho
  | qops all rest => simp [S.plain] at hp
  | code c => simp [S.plain] at hp
  | any _ _ _ => simp [S.plain] at hp
  | exit e => simp [S.plain] at hp

def S.withLoc (s : S) (l : Loc) : S := { s with loc := l }
/-- A call that may change the local blocks, make new ones, and whatever the facts allow. -/
theorem At.callg {X : Type} {s : S} (g : FuncId) (vs : List SV) (r : X → SV) (nl : X → Loc) (G : X → List Nat → World → Prop) (hc : s.call? = some (g, vs)) (hb : bodied P g = true) (hd : s.dstOk ntm = true) (hp : s.plain = true)
    (hsc : scopedFr s.loc.length s.fr = true)
    (hr : ∀ ρ w, WInv N w0 ρ s.loc w → F ρ w → Calls P g (SV.denL ρ vs).toArray w fun e w' => ∃ x ρ', e = .returned ((r x).den ρ') ∧ Grow w.heap.size ρ ρ' ∧ WInv N w0 ρ' (nl x) w' ∧ G x ρ' w')
    (h : ∀ x, At P Q N w0 ntm (G x) ((s.tail ntm (r x)).withLoc (nl x))) : At P Q N w0 ntm F s := by
  intro ρ a w hi hf
  obtain ⟨pc, ks, fr, loc⟩ := s
  unfold S.call? at hc
  split at hc
  · rename_i o ho
    cases pc with
    | ops all rest =>
      cases rest with
      | nil => simp [S.head?] at ho
      | cons o' rest =>
        simp only [S.head?] at ho
        split at ho
        · rename_i hg
          simp only [Option.some.injEq] at ho
          subst ho
          show wpList P all _ (o' :: rest) a w
          unfold wpList
          rw [if_pos (guardS_ok hi.act hg)]
          refine .inl ?_
          unfold Oper.wp
          rw [run_callS hi.act hc hb]
          refine (hr ρ w hi.mem hf).mono ?_
          rintro e w' ⟨x, ρ', rfl, ⟨ext, rfl, hext⟩, hw, hG⟩
          obtain ⟨fr', hpp⟩ := putS_some (fr := fr) (ntm := ntm) hd (r x)
          have ha : AInv ntm (ρ ++ ext) fr a := by
            refine ⟨hi.act.defers, hi.act.size, fun t s hl => ?_⟩
            have hs := scopedFr_look hsc hl
            have hlen := hi.mem.len
            have hden : s.den (ρ ++ ext) = s.den ρ := by
              have := SV.den_take (ρ ++ ext) loc.length s hs
              rw [← this]
              congr 1
              simp only at hlen
              rw [← hlen]
              simp
            rw [hden]
            exact hi.act.slot t s hl
          have hk := h x (ρ ++ ext) (a.put o'.dst ((r x).den (ρ ++ ext))) w' (by simp only [S.tail, hpp, S.withLoc]; exact ⟨putS_ok ha hpp, hw⟩) hG
          simp only [S.tail, hpp, S.withLoc] at hk
          exact hk
        · cases ho
    | qops all rest => simp [S.plain] at hp
    | code c => simp [S.plain] at hp
    | any _ _ _ => simp [S.plain] at hp
    | exit e => simp [S.plain] at hp
  · cases hc

theorem WInv.grown {w w' : World} {ρ : List Nat} {loc : Loc} {row : Option Nat} (h : WInv N w0 ρ loc w) (hg : w.grownBy w' row) (hrow : ∀ g, row = some g → N ≤ g ∧ g ∉ ρ) : WInv N w0 ρ loc w' :=
  ⟨h.below.grown hg h.hN (fun k hk => (hrow k hk).1), Nat.le_trans h.hN hg.size, h.len, h.nodup, fun b hm => ⟨(h.ge b hm).1, Nat.lt_of_lt_of_le (h.ge b hm).2 hg.size⟩, fun i c t hi => by
    have hold := h.cells i c t hi
    have hm : nth ρ i ∈ ρ := by
      have : i < ρ.length := by rw [h.len]; exact (List.getElem?_eq_some_iff.1 hi).1
      simp [nth, List.getD, this]
    rw [hg.block _ (Array.getElem?_eq_some_iff.1 hold).1 (fun e => (hrow _ e.symm).2 hm)]
    exact hold⟩

/-! ### a row of one's own -/
def Row (base e size : Nat) (A : Option Addr) (n c : Nat) (xs : List Value) (ρ : List Nat) (w : World) : Prop :=
  w.ownsRow base e size (.slice A n c) n xs ∧ ∀ g, (Value.slice A n c).ownBlock = some g → g ∉ ρ
theorem Row.nil (base e size : Nat) (ρ : List Nat) (w : World) : Row base e size none 0 0 [] ρ w := ⟨World.ownsRow_nil _ _ _ _, fun g h => by simp [Value.ownBlock] at h⟩
theorem Row.keep {base e size : Nat} {A : Option Addr} {n c : Nat} {xs : List Value} {ρ ρ' : List Nat} {w w' : World} (h : Row base e size A n c xs ρ w) (hg : Grow w.heap.size ρ ρ') (hk : Keep ρ w w') : Row base e size A n c xs ρ' w' := by
  have hlt := h.1.lt
  refine ⟨?_, fun g hh hm => ?_⟩
  · obtain ⟨h1, h2⟩ := h.1
    refine ⟨h1, ?_⟩
    rcases h2 with h2 | ⟨g, cap, cur, hv, hb, hc, hr⟩
    · exact .inl h2
    · have ho : (Value.slice A n c).ownBlock = some g := by rw [hv]; rfl
      exact .inr ⟨g, cap, cur, hv, hb, by rw [hk.block g (hlt g ho).2 (h.2 g ho)]; exact hc, hr⟩
  · rcases hg.of_mem hm with h1 | h1
    · exact h.2 g hh h1
    · have := (hlt g hh).2; omega
theorem Row.stable (base e size : Nat) (A : Option Addr) (n c : Nat) (xs : List Value) : Stable (Row base e size A n c xs) := fun _ _ _ _ hg hk h => h.keep hg hk
theorem Row.fewer (base e size : Nat) (A : Option Addr) (n c : Nat) (xs : List Value) : Fewer (Row base e size A n c xs) := fun _ _ _ h => ⟨h.1, fun g hg hm => h.2 g hg (List.mem_of_mem_take hm)⟩
theorem Row.len {base e size : Nat} {A : Option Addr} {n c : Nat} {xs : List Value} {ρ : List Nat} {w : World} (h : Row base e size A n c xs ρ w) : xs.length = n * size := h.1.1
theorem Row.cell {base e size : Nat} {A : Option Addr} {n c : Nat} {xs : List Value} {ρ : List Nat} {w : World} (h : Row base e size A n c xs ρ w) {j : Nat} (hj : j < n * size) : ∃ g, A = some ⟨g, 0, none⟩ ∧ w.cell? ⟨g, j, none⟩ = xs[j]? := by
  rcases h.1.2 with ⟨h2, h3⟩ | ⟨g, cap, cur, hv, _⟩
  · subst h3; simp at hj
  · injection hv with hA _ hc
    subst hA; subst hc
    exact ⟨g, rfl, h.1.cellAt j hj⟩

def elemT (P : Program) (t : TypeId) : Option (TypeId × Nat × Nat) :=
  match P.underlying t with
  | some (.slice e) => match P.info? e with
    | some i => match i.zero with
      | some z => match Nat.beq z.cells.size i.size && Nat.blt 0 i.size with
        | true => some (e, i.size, i.bytes)
        | false => none
      | none => none
    | none => none
  | _ => none
theorem run_append_row {t ty e size bytes : Nat} (ht : elemT P t = some (e, size, bytes)) {base : Nat} {A : Option Addr} {n c : Nat} {xs : List Value} {ρ : List Nat} {w : World} (h : Row base e size A n c xs ρ w) (hbase : base ≤ w.heap.size) (hρ : ∀ b ∈ ρ, b < w.heap.size)
    (a : Addr) (m k : Nat) (news : List Value) (hl : news.length = m * size) (hnews : ∀ j u, news[j]? = some u → w.cell? (a.add j) = some u) (h1 : ∀ u ∈ news, u.oneCell' = true)
    (hbytes : (n + m) * bytes ≤ 140737488355328) (h63 : n + m ≤ maxLen) :
    ∃ A' c' w', (Builtin.append_ #[t, t] ty #[.slice A n c, .slice (some a) m k]).run P w = .ok (.slice A' (n + m) c') w' ∧ Row base e size A' (n + m) c' (xs ++ news) ρ w' ∧ w.grownBy w' (Value.slice A n c).ownBlock ∧
      ((Value.slice A' (n + m) c').ownBlock = (Value.slice A n c).ownBlock ∨ (Value.slice A' (n + m) c').ownBlock = some w.heap.size) := by
  unfold elemT at ht
  split at ht
  · rename_i e' hu
    split at ht
    · rename_i i hi
      split at ht
      · rename_i z hz
        split at ht
        · rename_i hb
          simp only [Bool.and_eq_true] at hb
          simp only [Option.some.injEq, Prod.mk.injEq] at ht
          obtain ⟨rfl, rfl, rfl⟩ := ht
          have hzs := Nat.eq_of_beq_eq_true hb.1
          have hsz : 0 < i.size := by simpa using hb.2
          obtain ⟨v', w', hrun, h2, h3, _, h5⟩ := run_append_own_at (P := P) w base t ty e' i z i.size i.bytes hu hi hz rfl rfl hzs hsz (.slice A n c) n xs h.1 a m k news hl hnews h1 h63 hbytes hbase
          have hv : ∃ A' c', v' = .slice A' (n + m) c' := by
            rcases h2.2 with ⟨hv, h0⟩ | ⟨g, cap, cur, hv, _⟩
            · exact ⟨none, 0, by rw [hv, h0]⟩
            · exact ⟨_, _, hv⟩
          obtain ⟨A', c', rfl⟩ := hv
          refine ⟨A', c', w', hrun, ⟨h2, fun g hg hm => ?_⟩, h3, h5⟩
          rcases h5 with h5 | h5
          · exact h.2 g (h5 ▸ hg) hm
          · rw [h5] at hg
            injection hg with hg
            have := hρ g hm
            omega
        · cases ht
      · cases ht
    · cases ht
  · cases ht

/-- 'append(x, y...)' at a row of one's own, the source a local row. -/
def SV.asSl : SV → SV
  | .v (.slice A n c) => .sl A n c
  | s => s
theorem SV.asSl_den (ρ : List Nat) : ∀ s : SV, s.asSl.den ρ = s.den ρ := by
  intro s
  cases s with
  | v x => cases x <;> rfl
  | _ => rfl
def appS (fr : Fr) (o : Oper) : Option (TypeId × SV × SV) :=
  match o.op with
  | .call { callee := .builtin .append, args := ⟨[x, y]⟩, argTypes := ⟨[t, t']⟩ } => match Nat.beq t t', evalS fr x, evalS fr y with
    | true, some sx, some sy => some (t, sx.asSl, sy)
    | _, _, _ => none
  | _ => none
theorem run_appS {ρ : List Nat} {fr : Fr} {a : Act} (ha : AInv ntm ρ fr a) {o : Oper} {t : TypeId} {sx sy : SV} (h : appS fr o = some (t, sx, sy)) {v : Value} {w w' : World} (hr : (Builtin.append_ #[t, t] o.type #[sx.den ρ, sy.den ρ]).run P w = .ok v w') :
    (execOp a.eval o).run P w = .ok (.value v) w' := by
  obtain ⟨dst, op, ty, pos, after, guard⟩ := o
  unfold appS at h
  simp only at h
  split at h
  · rename_i x y t0 t0'
    split at h
    · rename_i s1 s2 hb hx hy
      simp only [Option.some.injEq, Prod.mk.injEq] at h
      obtain ⟨rfl, rfl, rfl⟩ := h
      have := Nat.eq_of_beq_eq_true hb
      subst this
      simp only at hr
      rw [SV.asSl_den] at hr
      simp [execOp, resolve, invoke, builtin, evalS_sound ha hx, evalS_sound ha hy, hr]
    · cases h
  · cases h
theorem At.append {s : S} (o : Oper) (t e size bytes : Nat) (base : Nat) (A : Option Addr) (n c : Nat) (xs : List Value) (i off m k : Nat) (cells : List SV) (ct : TypeId) (ho : s.head? = some o) (hd : s.dstOk ntm = true) (hp : s.plain = true)
    (ha : appS s.fr o = some (t, .sl A n c, .ls i off m k)) (ht : elemT P t = some (e, size, bytes)) (hl : s.loc[i]? = some (cells, ct)) (hle : off + m * size ≤ cells.length) (hone : oneL ((cells.drop off).take (m * size)) = true)
    (hbytes : (n + m) * bytes ≤ 140737488355328) (h63 : n + m ≤ maxLen) (hN : N ≤ base)
    (F2 : List Nat → World → Prop) (G : List Nat → World → Prop) (hF : ∀ ρ w, F ρ w → Row base e size A n c xs ρ w ∧ base ≤ w.heap.size ∧ F2 ρ w) (hG : ∀ ρ w w', F2 ρ w → w.grownBy w' (Value.slice A n c).ownBlock → G ρ w')
    (news : List Value) (hnews : ∀ ρ, SV.denL ρ ((cells.drop off).take (m * size)) = news)
    (h : ∀ x : Option Addr × Nat, At P Q N w0 ntm (fun ρ w => Row base e size x.1 (n + m) x.2 (xs ++ news) ρ w ∧ base ≤ w.heap.size ∧ G ρ w) (s.tail ntm (.sl x.1 (n + m) x.2))) : At P Q N w0 ntm F s := by
  refine At.opx o (fun x : Option Addr × Nat => .sl x.1 (n + m) x.2) (fun x ρ w => Row base e size x.1 (n + m) x.2 (xs ++ news) ρ w ∧ base ≤ w.heap.size ∧ G ρ w) ho hd hp ?_ h
  intro ρ a w hi hf
  obtain ⟨hrow, hb, hf2⟩ := hF ρ w hf
  have hlen : news.length = m * size := by
    rw [← hnews ρ]
    simp [SV.denL_eq]; omega
  obtain ⟨A', c', w', h1, h2, h3, h4⟩ := run_append_row (P := P) (ty := o.type) ht hrow hb (fun b hb => (hi.mem.ge b hb).2) ⟨nth ρ i, off, none⟩ m k news hlen (fun j u hj => by
      rw [add_ok, cell_of_loc hi.mem hl]
      rw [← hnews ρ] at hj
      have hjn : j < m * size := by
        have := (List.getElem?_eq_some_iff.1 hj).1
        simp [SV.denL_eq] at this
        omega
      simpa [SV.denL_eq, List.getElem?_take, hjn, List.getElem?_drop] using hj) (by rw [← hnews ρ]; exact oneL_den hone) hbytes h63
  refine ⟨(A', c'), w', run_appS hi.act ha h1, hi.mem.grown h3 (fun g hg => ?_), h2, Nat.le_trans hb h3.size, hG ρ w w' hf2 h3⟩
  exact ⟨Nat.le_trans hN (hrow.1.lt g hg).1, hrow.2 g hg⟩
/-- The beginning, where blocks from N on may be written, and some facts are known. -/
theorem enterF {f : FuncId} {fn : Func} {c : Code} {R : Ending → World → Prop} (sargs : List SV) (hf : P.funcs[f]? = some fn) (hb : fn.body = some c) (hle : Nat.ble sargs.length fn.ntmps = true)
    (hN : N ≤ w0.heap.size) (hF : F [] w0) (h : At P (bodyPost P fn R) N w0 fn.ntmps F ⟨.code c, [], frOf 0 sargs, []⟩) : Calls P f (SV.denL [] sargs).toArray w0 R := by
  refine calls_of_wp hf hb (h [] _ w0 ⟨⟨rfl, ?_, ?_⟩, ?_⟩ hF)
  · have := Nat.le_of_ble_eq_true hle
    simp [SV.denL_eq]; omega
  · intro t s hs
    have := look_frOf (ρ := []) (pre := []) (rest := List.replicate (fn.ntmps - sargs.length) undef) rfl hs
    rw [← Array.getElem?_toList]
    simpa [SV.denL_eq] using this
  · exact ⟨Below.refl _ _, hN, rfl, List.nodup_nil, by simp, by simp⟩
end
end Go.Sx
