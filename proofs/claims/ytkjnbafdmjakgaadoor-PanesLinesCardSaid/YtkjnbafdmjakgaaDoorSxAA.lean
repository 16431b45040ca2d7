import Derived.Test.YtkjnbafdmjakgaaDoorSxY
set_option linter.unusedSimpArgs false
set_option linter.unusedVariables false
namespace Go.Sx
open Go.RowKit
section
variable {P : Program} {Q : Exit → Act → World → Prop} {N : Nat} {w0 : World} {ntm : Nat} {F : List Nat → World → Prop}

/-! ### a row of one's own, and finished rows beside it -/
/-- A finished row: new, no local block, not the row that grows. -/
def EntV (w0 : World) (A : Option Addr) (n c : Nat) (p : Option Addr × List Value) (ρ : List Nat) (w : World) : Prop :=
  ∃ b, p.1 = some ⟨b, 0, none⟩ ∧ w0.heap.size ≤ b ∧ b < w.heap.size ∧ b ∉ ρ ∧ (Value.slice A n c).ownBlock ≠ some b ∧ Src w ⟨b, 0, none⟩ p.2
theorem src_same {w w' : World} {b : Nat} {xs : List Value} (h : Src w ⟨b, 0, none⟩ xs) (hb : w'.heap[b]? = w.heap[b]?) : Src w' ⟨b, 0, none⟩ xs := fun j u hj => by
  have := h j u hj
  rw [add_ok] at this ⊢
  simp only [World.cell?] at this ⊢
  rw [hb]
  exact this
def RowE (w0 : World) (ok : Nat → Prop) (ρ0 : List Nat) (base e size : Nat) (A : Option Addr) (n c : Nat) (xs : List Value) (L : List (Option Addr × List Value)) (ρ : List Nat) (w : World) : Prop :=
  RowF w0 ok ρ0 base e size A n c xs ρ w ∧ ∀ p ∈ L, EntV w0 A n c p ρ w
theorem RowE.stable {ok : Nat → Prop} {ρ0 : List Nat} {base e size : Nat} {A : Option Addr} {n c : Nat} {xs : List Value} {L : List (Option Addr × List Value)} : Stable (RowE w0 ok ρ0 base e size A n c xs L) := fun ρ w ρ' w' hg hk ⟨h1, h2⟩ =>
  ⟨RowF.stable ρ w ρ' w' hg hk h1, fun p hp => by
    obtain ⟨b, e1, e2, e3, e4, e5, e6⟩ := h2 p hp
    refine ⟨b, e1, e2, Nat.lt_of_lt_of_le e3 hk.size, fun hm => ?_, e5, src_same e6 (hk.block b e3 e4)⟩
    rcases hg.of_mem hm with h | h
    · exact e4 h
    · omega⟩
theorem RowE.fewer {ok : Nat → Prop} {ρ0 : List Nat} {base e size : Nat} {A : Option Addr} {n c : Nat} {xs : List Value} {L : List (Option Addr × List Value)} : FewerK ρ0.length (RowE w0 ok ρ0 base e size A n c xs L) := fun ρ w k hk ⟨h1, h2⟩ =>
  ⟨RowF.fewer ρ w k hk h1, fun p hp => by
    obtain ⟨b, e1, e2, e3, e4, e5, e6⟩ := h2 p hp
    exact ⟨b, e1, e2, e3, fun hm => e4 (List.mem_of_mem_take hm), e5, e6⟩⟩
/-- An append to the row: the finished rows stay. -/
theorem At.appE {s : S} (t e size bytes : Nat) (A : Option Addr) (n c m : Nat) (nl : List SV) (ok : Nat → Prop) (ρ0 : List Nat) (base : Nat) (xs news : List Value) (L : List (Option Addr × List Value)) (hq : appI P ntm s = some ⟨t, e, size, bytes, A, n, c, m, nl⟩) (hnews : ∀ ρ, SV.denL ρ nl = news)
    (hbytes : (n + m) * bytes ≤ 140737488355328) (h63 : n + m ≤ maxLen) (hN : N ≤ base)
    (h : ∀ (A' : Option Addr) (c' : Nat), At P Q N w0 ntm (RowE w0 ok ρ0 base e size A' (n + m) c' (xs ++ news) L) (s.tail ntm (.sl A' (n + m) c'))) : At P Q N w0 ntm (RowE w0 ok ρ0 base e size A n c xs L) s := by
  unfold appI at hq
  obtain ⟨⟨o, q', i, off, k, cells, ct⟩, h1, h2⟩ := Option.map_eq_some_iff.1 hq
  simp only at h2
  subst h2
  unfold appQ at h1
  split at h1
  · rename_i o' ho
    split at h1
    · rename_i t' A1 n1 c1 i' off' m' k' ha
      split at h1
      · rename_i e1 size1 bytes1 cells' ct' ht hl
        split at h1
        · rename_i hb
          simp only [Option.some.injEq, Prod.mk.injEq, AppQ.mk.injEq] at h1
          obtain ⟨rfl, ⟨rfl, rfl, rfl, rfl, rfl, rfl, rfl, rfl, rfl⟩, rfl, rfl, rfl, rfl, rfl⟩ := h1
          simp only [Bool.and_eq_true] at hb
          refine At.opx o' (fun x : Option Addr × Nat => .sl x.1 (n1 + m') x.2) (fun x ρ w => RowE w0 ok ρ0 base e1 size1 x.1 (n1 + m') x.2 (xs ++ news) L ρ w) ho hb.2 hb.1.1 ?_ (fun x => h x.1 x.2)
          intro ρ a w hi ⟨⟨⟨hrow, hbs⟩, hfr, hblk⟩, hent⟩
          have hle := hb.1.2.1
          have hlen : news.length = m' * size1 := by
            rw [← hnews ρ]
            have := Nat.le_of_ble_eq_true hle
            simp [SV.denL_eq]; omega
          obtain ⟨A', c', w', r1, r2, r3, r4⟩ := run_append_row (P := P) (ty := o'.type) ht hrow hbs (fun b hb => (hi.mem.ge b hb).2) ⟨nth ρ i', off', none⟩ m' k' news hlen (fun j u hj => by
              rw [add_ok, cell_of_loc hi.mem hl]
              rw [← hnews ρ] at hj
              have hjn : j < m' * size1 := by
                have := (List.getElem?_eq_some_iff.1 hj).1
                simp [SV.denL_eq] at this
                omega
              simpa [SV.denL_eq, List.getElem?_take, hjn, List.getElem?_drop] using hj) (by rw [← hnews ρ]; exact oneL_den hb.1.2.2) hbytes h63
          refine ⟨(A', c'), w', run_appS hi.act ha r1, hi.mem.grown r3 (fun g hg => ⟨Nat.le_trans hN (hrow.1.lt g hg).1, hrow.2 g hg⟩), ⟨⟨r2, Nat.le_trans hbs r3.size⟩, hfr.grown r3 hblk, fun g hg => ?_⟩, fun p hp => ?_⟩
          · rcases r4 with r4 | r4
            · exact hblk g (r4 ▸ hg)
            · rw [r4] at hg
              injection hg with hg
              have := hfr.1.size
              exact .inr (by omega)
          · obtain ⟨b, e1, e2, e3, e4, e5, e6⟩ := hent p hp
            refine ⟨b, e1, e2, Nat.lt_of_lt_of_le e3 r3.size, e4, fun hq => ?_, src_same e6 (r3.block b e3 (fun he => e5 he.symm))⟩
            rcases r4 with r4 | r4
            · exact e5 (r4 ▸ hq)
            · rw [r4] at hq
              injection hq with hq
              omega
        · cases h1
      · cases h1
    · cases h1
  · cases h1
/-- A call that makes a row, its value built of the row: the row stands beside as a finished one. -/
theorem At.mkrowE {s : S} {ok : Nat → Prop} {ρ0 : List Nat} {base e size : Nat} {A : Option Addr} {n c : Nat} {xs : List Value} {L : List (Option Addr × List Value)} {e2 size2 : Nat} (g : FuncId) (vs : List SV) (rv : Option Addr → Nat → Nat → SV) (ys : List Value) (hc : s.call? = some (g, vs)) (hb : bodied P g = true) (hd : s.dstOk ntm = true) (hp : s.plain = true) (hsc : scopedFr s.loc.length s.fr = true) (hy : ys ≠ [])
    (hr : ∀ ρ w, WInv N w0 ρ s.loc w → RowE w0 ok ρ0 base e size A n c xs L ρ w → Calls P g (SV.denL ρ vs).toArray w fun e' w' => ∃ A' n' c', e' = .returned ((rv A' n' c').den ρ) ∧ RowF w (fun _ => False) [] w.heap.size e2 size2 A' n' c' ys [] w')
    (h : ∀ A' n' c', At P Q N w0 ntm (fun ρ w => RowE w0 ok ρ0 base e size A n c xs ((A', ys) :: L) ρ w ∧ (ys.length = n' * size2 ∧ n' ≤ c')) (s.tail ntm (rv A' n' c'))) : At P Q N w0 ntm (RowE w0 ok ρ0 base e size A n c xs L) s := by
  refine At.callg (X := Option Addr × Nat × Nat) g vs (fun x => rv x.1 x.2.1 x.2.2) (fun _ => s.loc) (fun x ρ w => RowE w0 ok ρ0 base e size A n c xs ((x.1, ys) :: L) ρ w ∧ (ys.length = x.2.1 * size2 ∧ x.2.1 ≤ x.2.2)) hc hb hd hp hsc ?_ (fun x => ?_)
  · intro ρ w hm hf
    refine (hr ρ w hm hf).mono ?_
    rintro e' w' ⟨A', n', c', rfl, k⟩
    obtain ⟨hrf, hent⟩ := hf
    have hsz := hrf.2.1.1.size
    have hch := k.2.1.1
    have hbel : Below w.heap.size w w' := hch.below (Nat.le_refl _) (fun _ _ hh => hh)
    have hkeep : Keep ρ w w' := Keep.of_below hbel
    refine ⟨(A', n', c'), ρ, rfl, Grow.refl _ _, hm.step hch (fun g _ hg => hg.elim) rfl (fun i c t hi => hm.kept hch hi fun hg => hg), ⟨RowF.stable ρ w ρ w' (Grow.refl _ _) hkeep hrf, fun p hp => ?_⟩, k.1.1.1.1, ?_⟩
    · rcases List.mem_cons.1 hp with rfl | hp
      · rcases k.1.1.1.2 with ⟨_, h0⟩ | ⟨g, cap, cur, hv, _⟩
        · have := k.1.1.1.1
          rw [h0, Nat.zero_mul] at this
          exact absurd (List.eq_nil_of_length_eq_zero this) hy
        · injection hv with hA _ _
          have hg := k.1.1.1.lt g (by rw [hA]; rfl)
          refine ⟨g, hA, by omega, hg.2, fun hmem => ?_, fun hq => ?_, ?_⟩
          · have := (hm.ge g hmem).2
            omega
          · have := (hrf.1.1.1.lt g hq).2
            omega
          · intro j u hj
            have hj' : j < ys.length := (List.getElem?_eq_some_iff.1 hj).1
            obtain ⟨g', hg', hcell⟩ := k.1.1.cell (j := j) (by have h9 : ys.length = n' * size2 := k.1.1.1.1; omega)
            rw [hA] at hg'
            injection hg' with hg'
            injection hg' with hg' _ _
            subst hg'
            rw [add_ok, Nat.zero_add, hcell]
            exact hj
      · exact (RowE.stable (e := e) (size := size) ρ w ρ w' (Grow.refl _ _) hkeep ⟨hrf, hent⟩).2 p hp
    · rcases k.1.1.1.2 with ⟨_, h0⟩ | ⟨g, cap, cur, hv, _, _, hle, _⟩
      · exact h0 ▸ Nat.zero_le _
      · injection hv with _ _ hcc
        show n' ≤ c'
        omega
  · rw [tail_withLoc]
    exact h x.1 x.2.1 x.2.2
/-- In the local blocks a slice that is written out may be taken as one that lies outside. -/
def slLoc (loc : Loc) : Loc := loc.map fun p => (p.1.map SV.asSl, p.2)
theorem At.slLoc {s : S} (s' : S) (hs : { s with loc := Go.Sx.slLoc s.loc } = s') (h : At P Q N w0 ntm F s') : At P Q N w0 ntm F s := by
  subst hs
  intro ρ a w hi hf
  refine h ρ a w ⟨hi.act, hi.mem.below, hi.mem.hN, by rw [hi.mem.len]; simp [Go.Sx.slLoc], hi.mem.nodup, hi.mem.ge, fun i c t hc => ?_⟩ hf
  simp only [Go.Sx.slLoc, List.getElem?_map, Option.map_eq_some_iff] at hc
  obtain ⟨⟨c', t'⟩, h1, h2⟩ := hc
  simp only [Prod.mk.injEq] at h2
  obtain ⟨rfl, rfl⟩ := h2
  have := hi.mem.cells i c' t' h1
  rw [this]
  simp only [SV.denL_eq, List.map_map]
  congr 4
  funext x
  simp only [Function.comp]
  exact (SV.asSl_den ρ x).symm
theorem RowE.sub {ok : Nat → Prop} {ρ0 : List Nat} {base e size : Nat} {A : Option Addr} {n c : Nat} {xs : List Value} {L L' : List (Option Addr × List Value)} {ρ : List Nat} {w : World} (h : RowE w0 ok ρ0 base e size A n c xs L ρ w) (hs : ∀ p ∈ L', p ∈ L) : RowE w0 ok ρ0 base e size A n c xs L' ρ w :=
  ⟨h.1, fun p hp => h.2 p (hs p hp)⟩
/-- The row that was made becomes a finished one; another, still empty, begins. -/
theorem RowE.ofRow {base e size : Nat} {A : Option Addr} {n c : Nat} {xs : List Value} {ρ : List Nat} {w : World} (e2 size2 base2 : Nat) (h : RowF w0 (fun _ => False) [] base e size A n c xs ρ w) (hx : xs ≠ []) (hb : base2 ≤ w.heap.size) : RowE w0 (fun _ => False) [] base2 e2 size2 none 0 0 [] [(A, xs)] ρ w := by
  refine ⟨⟨⟨⟨World.ownsRow_nil _ _ _ _, fun g hg => by simp [Value.ownBlock] at hg⟩, hb⟩, h.2.1, fun g hg => by simp [Value.ownBlock] at hg⟩, fun p hp => ?_⟩
  simp only [List.mem_singleton] at hp
  subst hp
  rcases h.1.1.1.2 with ⟨_, h0⟩ | ⟨g, cap, cur, hv, _⟩
  · have := h.1.1.1.1
    rw [h0, Nat.zero_mul] at this
    exact absurd (List.eq_nil_of_length_eq_zero this) hx
  · injection hv with hA _ _
    have ho : (Value.slice A n c).ownBlock = some g := by rw [hA]; rfl
    refine ⟨g, hA, ?_, (h.1.1.1.lt g ho).2, h.1.1.2 g ho, fun hq => by simp [Value.ownBlock] at hq, fun j u hj => ?_⟩
    · rcases h.2.2 g ho with h1 | h1
      · exact h1.elim
      · exact h1
    · have hj' : j < xs.length := (List.getElem?_eq_some_iff.1 hj).1
      obtain ⟨g', hg', hcell⟩ := h.1.1.cell (j := j) (by have h9 : xs.length = n * size := h.1.1.1.1; omega)
      rw [hA] at hg'
      injection hg' with hg'
      injection hg' with hg' _ _
      subst hg'
      rw [add_ok, Nat.zero_add, hcell]
      exact hj
end
end Go.Sx

set_option linter.unusedSimpArgs false
set_option linter.unusedVariables false
namespace Go.Sx
open Go.RowKit
section
variable {P : Program} {Q : Exit → Act → World → Prop} {N : Nat} {w0 : World} {ntm : Nat} {F : List Nat → World → Prop}

/-! ### the rest of a division by an open number -/
def remQ (P : Program) (ntm : Nat) (s : S) : Option (IntKind × Int × Int) :=
  match s.head?, s.dstOk ntm with
  | some o, true => match o.op with
    | .binOp .rem t x y _ => match evalS s.fr x, evalS s.fr y with
      | some sx, some sy => match litOf sx, litOf sy, sx.calm with
        | some (.int k a, _), some (.int k' b, _), true => match decide (k = k') with
          | true => some (k, a, b)
          | false => none
        | _, _, _ => none
      | _, _ => none
    | _ => none
  | _, _ => none
theorem At.rem {s : S} (k : IntKind) (a b : Int) (hq : remQ P ntm s = some (k, a, b)) (h0 : b ≠ 0) (hF : Stable F)
    (h : At P Q N w0 ntm F (s.tail ntm (.io k (a.tmod b)))) : At P Q N w0 ntm F s := by
  unfold remQ at hq
  split at hq
  · rename_i o ho hd
    split at hq
    · rename_i t x y t2 hop
      split at hq
      · rename_i sx sy hx hy
        split at hq
        · rename_i k' a' l1 k2 b' l2 h1 h2 hcalm
          split at hq
          · rename_i hkk
            have hkk := of_decide_eq_true hkk
            subst hkk
            simp only [Option.some.injEq, Prod.mk.injEq] at hq
            obtain ⟨rfl, rfl, rfl⟩ := hq
            refine At.op hF o (.io k' (a'.tmod b')) ho hd (fun ρ act w hi _ => ?_) h
            obtain ⟨dst, op, ty, pos, after, guard⟩ := o
            simp only at hop
            subst hop
            have hr : (binOp .rem t (.int k' a') (.int k' b')).run P w = .ok (.int k' (a'.tmod b')) w :=
              run_binInt2 (P := P) (op := .rem) (by simp only [binInt2]; rw [decide_eq_false h0]) t w
            have hg := run_eqGuard_calm (P := P) (ρ := ρ) hcalm .rem t x y (sy.den ρ) w
            rw [litOf_den h1, litOf_den h2] at hg
            simp [execOp, evalS_sound hi.act hx, evalS_sound hi.act hy, litOf_den h1, litOf_den h2, SV.den, hg, hr]
          · cases hq
        · cases hq
      · cases hq
    · cases hq
  · cases hq
/-! ### more parts of a slice that lies outside -/
def sl3Q (P : Program) (fr : Fr) (o : Oper) : Option (Option Addr × Nat × Nat × Int × Int × Nat) :=
  match o.op with
  | .slice t x none (some hi) (some mx) => match P.underlying t, evalS fr x, (evalS fr hi).bind litOf, (evalS fr mx).bind litOf with
    | some (.slice e), some (.sl A n c), some (.int _ h, _), some (.int _ m, _) => match sizeT P e with
      | some size => some (A, n, c, h, m, size)
      | none => none
    | _, _, _, _ => none
  | _ => none
theorem run_sl3Q {ρ : List Nat} {fr : Fr} {act : Act} (ha : AInv ntm ρ fr act) {o : Oper} {A : Option Addr} {n c size : Nat} {h m : Int} (hq : sl3Q P fr o = some (A, n, c, h, m, size)) (h0 : 0 ≤ h) (h1 : h ≤ m) (h2 : m ≤ c) (w : World) :
    (execOp act.eval o).run P w = .ok (.value (.slice A h.toNat m.toNat)) w := by
  obtain ⟨dst, op, ty, pos, after, guard⟩ := o
  unfold sl3Q at hq
  simp only at hq
  split at hq
  · rename_i t x hi mx
    split at hq
    · rename_i e A' n' c' k h' lf k2 m' lf2 hu hx hhi hmx
      obtain ⟨sh, hsh, hlh⟩ := Option.bind_eq_some_iff.1 hhi
      obtain ⟨sm, hsm, hlm⟩ := Option.bind_eq_some_iff.1 hmx
      have hel : P.underlying t = some (.slice (P.elem t)) := by simp [Program.elem, hu]
      have hel2 : P.elem t = e := by simp [Program.elem, hu]
      split at hq
      · rename_i size' hs
        simp only [Option.some.injEq, Prod.mk.injEq] at hq
        obtain ⟨rfl, rfl, rfl, rfl, rfl, rfl⟩ := hq
        have := run_slice_hm (P := P) w t A' n' c' hel k k2 h' m' h0 h1 h2
        rw [hel2] at this
        have hA : (A'.map fun x => x.add 0) = A' := by cases A' <;> simp [Addr.add]
        simp [execOp, evalS_sound ha hx, evalS_sound ha hsh, evalS_sound ha hsm, litOf_den hlh, litOf_den hlm, SV.den, run_sliceAt_slice w t _ _ _ _ hel, this, run_sizeT hs, sliced, Result.andThen, hA]
      · cases hq
    · cases hq
  · cases hq
def sl3I (P : Program) (ntm : Nat) (s : S) : Option (Option Addr × Nat × Nat × Int × Int × Nat) :=
  match s.head?, s.dstOk ntm with
  | some o, true => sl3Q P s.fr o
  | _, _ => none
theorem At.sl3 {s : S} (A : Option Addr) (n c : Nat) (h m : Int) (size : Nat) (hq : sl3I P ntm s = some (A, n, c, h, m, size)) (hF : Stable F) (h0 : 0 ≤ h) (h1 : h ≤ m) (h2 : m ≤ c)
    (hk : At P Q N w0 ntm F (s.tail ntm (.sl A h.toNat m.toNat))) : At P Q N w0 ntm F s := by
  unfold sl3I at hq
  split at hq
  · rename_i o ho hd
    exact At.op hF o (.sl A h.toNat m.toNat) ho hd (fun ρ act w hi _ => run_sl3Q hi.act hq h0 h1 h2 w) hk
  · cases hq
def slLQ (P : Program) (fr : Fr) (o : Oper) : Option (Addr × Nat × Nat × Int × Nat) :=
  match o.op with
  | .slice t x (some lo) none none => match P.underlying t, evalS fr x, (evalS fr lo).bind litOf with
    | some (.slice e), some (.sl (some a) n c), some (.int _ l, _) => match sizeT P e with
      | some size => some (a, n, c, l, size)
      | none => none
    | _, _, _ => none
  | _ => none
theorem run_slLQ {ρ : List Nat} {fr : Fr} {act : Act} (ha : AInv ntm ρ fr act) {o : Oper} {a : Addr} {n c size : Nat} {l : Int} (hq : slLQ P fr o = some (a, n, c, l, size)) (h0 : 0 ≤ l) (h1 : l ≤ n) (h2 : l.toNat < c) (w : World) :
    (execOp act.eval o).run P w = .ok (.value (.slice (some (a.add (l.toNat * size))) (n - l.toNat) (c - l.toNat))) w := by
  obtain ⟨dst, op, ty, pos, after, guard⟩ := o
  unfold slLQ at hq
  simp only at hq
  split at hq
  · rename_i t x lo
    split at hq
    · rename_i e a' n' c' k l' lf hu hx hlo
      obtain ⟨sl, hsl, hll⟩ := Option.bind_eq_some_iff.1 hlo
      have hel : P.underlying t = some (.slice (P.elem t)) := by simp [Program.elem, hu]
      have hel2 : P.elem t = e := by simp [Program.elem, hu]
      split at hq
      · rename_i size' hs
        simp only [Option.some.injEq, Prod.mk.injEq] at hq
        obtain ⟨rfl, rfl, rfl, rfl, rfl⟩ := hq
        have := run_slice_l (P := P) w t (some a') n' c' hel k l' h0 h1
        rw [hel2] at this
        have hne : ¬ c' = l'.toNat := by omega
        simp [execOp, evalS_sound ha hx, evalS_sound ha hsl, litOf_den hll, SV.den, run_sliceAt_slice w t _ _ _ _ hel, this, run_sizeT hs, sliced, Result.andThen, hne]
      · cases hq
    · cases hq
  · cases hq
def slLI (P : Program) (ntm : Nat) (s : S) : Option (Addr × Nat × Nat × Int × Nat) :=
  match s.head?, s.dstOk ntm with
  | some o, true => slLQ P s.fr o
  | _, _ => none
theorem At.slL {s : S} (a : Addr) (n c : Nat) (l : Int) (size : Nat) (hq : slLI P ntm s = some (a, n, c, l, size)) (hF : Stable F) (h0 : 0 ≤ l) (h1 : l ≤ n) (h2 : l.toNat < c)
    (hk : At P Q N w0 ntm F (s.tail ntm (.sl (some (a.add (l.toNat * size))) (n - l.toNat) (c - l.toNat)))) : At P Q N w0 ntm F s := by
  unfold slLI at hq
  split at hq
  · rename_i o ho hd
    exact At.op hF o (.sl (some (a.add (l.toNat * size))) (n - l.toNat) (c - l.toNat)) ho hd (fun ρ act w hi _ => run_slLQ hi.act hq h0 h1 h2 w) hk
  · cases hq
/-! ### rows that lay finished when a world was noted -/
structure Aside (w1 : World) (ρ1 : List Nat) (a : Addr) (xs : List Value) : Prop where
  src : Src w1 a xs
  out : a.block ∉ ρ1
theorem add_block (a : Addr) (j : Nat) : (a.add j).block = a.block := by unfold Addr.add; split <;> rfl
theorem cell_heap {w w' : World} {a : Addr} (h : w'.heap[a.block]? = w.heap[a.block]?) : w'.cell? a = w.cell? a := by
  unfold World.cell?
  rw [h]
theorem Aside.now {w1 w : World} {ρ1 ρ : List Nat} {a : Addr} {xs : List Value} (h : Aside w1 ρ1 a xs) (hf : FrameR w1 (fun b => b ∈ ρ1) ρ1 ρ w) : Src w a xs := fun j u hj => by
  have hc := h.src j u hj
  have hb := World.block_lt_of_cell? w1 _ hc
  have hk := hf.1.block _ hb (by rw [add_block]; exact h.out)
  rw [cell_heap hk]
  exact hc
theorem Aside.later {w1 w w' : World} {ρ1 ρ : List Nat} {a : Addr} {xs : List Value} (h : Aside w1 ρ1 a xs) (hf : FrameR w1 (fun b => b ∈ ρ1) ρ1 ρ w) (hb : Below w.heap.size w w') (hx : xs ≠ []) : Aside w' ρ a xs := by
  have hs := h.now hf
  refine ⟨fun j u hj => ?_, fun hm => ?_⟩
  · have hc := hs j u hj
    rw [cell_below hb (World.block_lt_of_cell? w _ hc)]
    exact hc
  · rcases hf.2.1 _ hm with h1 | h1
    · exact h.out h1
    · obtain ⟨u, l, rfl⟩ := List.exists_cons_of_ne_nil hx
      have hc := h.src 0 u rfl
      have := World.block_lt_of_cell? w1 _ hc
      rw [add_block] at this
      omega
theorem run_append_zero {t ty e : TypeId} {size bytes : Nat} (ht : elemT P t = some (e, size, bytes)) (A : Option Addr) (n c : Nat) (hnc : n ≤ c) (b : Addr) (k : Nat) (w : World) :
    (Builtin.append_ #[t, t] ty #[.slice A n c, .slice (some b) 0 k]).run P w = .ok (.slice A n c) w := by
  unfold elemT at ht
  split at ht
  · rename_i e' hu
    split at ht
    · rename_i i hi
      split at ht
      · rename_i z hz
        split at ht
        · simp [Builtin.append_, run_underlying hu, sizeOf, typeInfo, hi, Builtin.lenOf, Builtin.firstCells, hnc, storeCells, loadCells, loadCellsFrom]
          cases A <;> simp [storeCells]
        · cases ht
      · cases ht
    · cases ht
  · cases ht
theorem run_append_full {t ty e : TypeId} {size bytes : Nat} (ht : elemT P t = some (e, size, bytes)) (a : Addr) (n c : Nat) (hnc : c = n) (olds : List Value) (ho : olds.length = n * size) (b : Addr) (m k : Nat) (hm : 0 < m) (news : List Value) (hn : news.length = m * size) (w : World) (h1 : Src w a olds) (h2 : Src w b news) (hbytes : (n + m) * bytes ≤ 140737488355328) (h63 : n + m ≤ maxLen) :
    ∃ c' w', (Builtin.append_ #[t, t] ty #[.slice (some a) n c, .slice (some b) m k]).run P w = .ok (.slice (some ⟨w.heap.size, 0, none⟩) (n + m) c') w' ∧ Below w.heap.size w w' ∧ Src w' ⟨w.heap.size, 0, none⟩ (olds ++ news) := by
  subst hnc
  unfold elemT at ht
  split at ht
  · rename_i e' hu
    split at ht
    · rename_i i hi
      split at ht
      · rename_i z hz
        split at ht
        · rename_i hb
          simp only [Option.some.injEq, Prod.mk.injEq] at ht
          obtain ⟨rfl, rfl, rfl⟩ := ht
          have hr := run_append_grow (P := P) w t ty e' i z hu hi hz a c c olds ho h1 b m k news hn h2 (by omega) (by simp only [maxLen] at h63; omega) (growslice_fits (by omega) hbytes)
          refine ⟨_, _, hr, ⟨rfl, rfl, rfl, by simp, fun k hk => heap_alloc_old w.drew _ hk⟩, fun j u hj => ?_⟩
          rw [add_ok, Nat.zero_add]
          have hnew := heap_alloc_new w.drew (.cells (olds.toArray ++ news.toArray ++ Builtin.zeroCells z.cells (grownCap w (c + m) c e' - (c + m))) e')
          have hsz : w.drew.heap.size = w.heap.size := rfl
          rw [hsz] at hnew
          simp only [World.cell?, hnew]
          have hj' := (List.getElem?_eq_some_iff.1 hj).1
          show (olds.toArray ++ news.toArray ++ Builtin.zeroCells z.cells (grownCap w (c + m) c e' - (c + m)))[j]? = some u
          rw [Array.getElem?_append_left (by simpa using hj')]
          simpa using hj
        · cases ht
      · cases ht
    · cases ht
  · cases ht
/-- A finished row is put behind a full one: where there is something, a new row. -/
theorem At.appFull {s : S} (e size bytes : Nat) (a : Addr) (n c : Nat) (hnc : c = n) (b : Addr) (m k : Nat) (olds news : List Value) (w1 : World) (ρ1 : List Nat) (hq : outI P ntm s = some (e, size, bytes, some a, n, c, some b, m, k)) (hoa : Aside w1 ρ1 a olds) (hob : Aside w1 ρ1 b news) (ho : olds.length = n * size) (hn : news.length = m * size)
    (hbytes : (n + m) * bytes ≤ 140737488355328) (h63 : n + m ≤ maxLen)
    (h : ∀ (a' : Addr) (c' : Nat) (w2 : World) (ρ2 : List Nat), ρ2.length = s.loc.length → (∀ (x : Addr) (xs : List Value), xs ≠ [] → Aside w1 ρ1 x xs → Aside w2 ρ2 x xs) → (olds ++ news ≠ [] → Aside w2 ρ2 a' (olds ++ news)) → At P Q N w0 ntm (FrameR w2 (fun b => b ∈ ρ2) ρ2) (s.tail ntm (.sl (some a') (n + m) c'))) : At P Q N w0 ntm (FrameR w1 (fun b => b ∈ ρ1) ρ1) s := by
  unfold outI at hq
  obtain ⟨⟨o, t, e', size', bytes', A', n', c', B', m', k'⟩, hq1, hq2⟩ := Option.map_eq_some_iff.1 hq
  simp only [Prod.mk.injEq] at hq2
  obtain ⟨rfl, rfl, rfl, rfl, rfl, rfl, rfl, rfl, rfl⟩ := hq2
  unfold outQ at hq1
  split at hq1
  · rename_i o' ho'
    split at hq1
    · rename_i t' A1 n1 c1 sy ha
      split at hq1
      · rename_i e1 size1 bytes1 B1 m1 k1 ht hsy hpd
        simp only [Option.some.injEq, Prod.mk.injEq] at hq1
        obtain ⟨rfl, rfl, rfl, rfl, rfl, rfl, rfl, rfl, rfl, rfl, rfl⟩ := hq1
        simp only [Bool.and_eq_true] at hpd
        refine At.opx o' (fun x : Addr × Nat × World × List Nat => .sl (some x.1) (n1 + m1) x.2.1) (fun x ρ w => FrameR x.2.2.1 (fun b => b ∈ x.2.2.2) x.2.2.2 ρ w ∧ (x.2.2.2.length = s.loc.length ∧ (∀ (y : Addr) (xs : List Value), xs ≠ [] → Aside w1 ρ1 y xs → Aside x.2.2.1 x.2.2.2 y xs) ∧ (olds ++ news ≠ [] → Aside x.2.2.1 x.2.2.2 x.1 (olds ++ news)))) ho' hpd.2 hpd.1 ?_ (fun x => At.pure fun hx => h x.1 x.2.1 x.2.2.1 x.2.2.2 hx.1 hx.2.1 hx.2.2)
        intro ρ act w hi hf
        have hsyd : sy.den ρ = .slice (some b) m1 k1 := by rw [← SV.asSl_den, hsy]; rfl
        by_cases hm : m1 = 0
        · subst hm
          have hn0 : news = [] := List.eq_nil_of_length_eq_zero (by rw [hn, Nat.zero_mul])
          have hr := run_append_zero (P := P) (ty := o'.type) ht (some a) n1 c1 (by omega) b k1 w
          refine ⟨(a, c1, w, ρ), w, run_appS hi.act ha (by rw [hsyd]; exact hr), hi.mem, FrameR.start (w0 := w) _ ρ (fun b hb => hb), hi.mem.len, fun y xs hne hy => hy.later hf (Below.refl _ _) hne, fun hne => ?_⟩
          rw [hn0, List.append_nil] at hne ⊢
          exact hoa.later hf (Below.refl _ _) hne
        · obtain ⟨c2, w', r1, r2, r3⟩ := run_append_full (P := P) (ty := o'.type) ht a n1 c1 hnc olds ho b m1 k1 (by omega) news hn w (hoa.now hf) (hob.now hf) hbytes h63
          refine ⟨(⟨w.heap.size, 0, none⟩, c2, w', ρ), w', run_appS hi.act ha (by rw [hsyd]; exact r1), hi.mem.after r2, FrameR.start (w0 := w') _ ρ (fun b hb => hb), hi.mem.len, fun y xs hne hy => hy.later hf r2 hne, fun _ => ⟨r3, fun hmem => ?_⟩⟩
          have := (hi.mem.ge _ hmem).2
          simp at this
      · cases hq1
    · cases hq1
  · cases hq1
theorem fewer_len {ok : Nat → Prop} {ρ0 : List Nat} {n : Nat} (h : ρ0.length = n) : FewerK n (FrameR w0 ok ρ0) := h ▸ FrameR.fewer
end
end Go.Sx
