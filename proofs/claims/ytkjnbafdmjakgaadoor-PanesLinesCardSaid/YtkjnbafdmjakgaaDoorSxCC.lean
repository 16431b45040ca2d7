import Derived.Test.YtkjnbafdmjakgaaDoorSxBB
set_option linter.unusedSimpArgs false
set_option linter.unusedVariables false
namespace Go.Sx
open Go.RowKit
section
variable {P : Program} {Q : Exit → Act → World → Prop} {N : Nat} {w0 : World} {ntm : Nat} {F : List Nat → World → Prop}

/-! ### a walk within the walk: from a world that is noted, and back -/
/-- What points into a local block, taken as pointing outside. -/
def SV.out (ρ : List Nat) : SV → SV
  | .lp i o => .v (.pointer (some ⟨nth ρ i, o, none⟩))
  | .ls i o n c => .sl (some ⟨nth ρ i, o, none⟩) n c
  | s => s
def SV.outOk : SV → Bool
  | .lp _ _ => true
  | .ls _ _ _ _ => true
  | s => s.inBlk 0
theorem SV.out_den {ρ ρ' : List Nat} {s : SV} (h : s.outOk = true) : (s.out ρ).den ρ' = s.den ρ := by
  have hc : s.inBlk 0 = true → s.den ρ' = s.den ρ := fun hs => by
    have := denL_closed (ρ := ρ') (ρ' := ρ) (l := [s]) (by simp [SV.scopedL, hs])
    simpa [SV.denL] using this
  cases s with
  | lp i o => rfl
  | ls i o n c => rfl
  | v x => exact hc h
  | bo x => exact hc h
  | io k x => exact hc h
  | so x => exact hc h
  | sl a n c => exact hc h
  | agg l => exact hc h
  | tup l => exact hc h
  | fn f l => exact hc h
def outFr (ρ : List Nat) (fr : Fr) : Fr := fr.map fun p => (p.1, p.2.out ρ)
def okFr (fr : Fr) : Bool := fr.all fun p => p.2.outOk
theorem look_out (ρ : List Nat) : ∀ (fr : Fr) (t : Nat), look (outFr ρ fr) t = (look fr t).map (SV.out ρ)
  | [], t => rfl
  | (k, s) :: l, t => by
    simp only [outFr, List.map_cons, look]
    cases Nat.beq k t with
    | true => rfl
    | false => exact look_out ρ l t
theorem okFr_look : ∀ {fr : Fr} {t : Nat} {s : SV}, okFr fr = true → look fr t = some s → s.outOk = true
  | (k, s') :: l, t, s, h, hl => by
    simp only [okFr, List.all_cons, Bool.and_eq_true] at h
    simp only [look] at hl
    split at hl
    · simp only [Option.some.injEq] at hl
      subst hl
      exact h.1
    · exact okFr_look h.2 hl
/-- From here the walk begins anew, in the world as it is: the local blocks are as good as outside. -/
theorem At.aside {s : S} (hok : okFr s.fr = true) (h : ∀ ρ w1, WInv N w0 ρ s.loc w1 → F ρ w1 → At P Q w1.heap.size w1 ntm (FrameR w1 (fun _ => False) []) ⟨s.pc, s.ks, outFr ρ s.fr, []⟩) : At P Q N w0 ntm F s := by
  intro ρ a w hi hf
  refine h ρ w hi.mem hf [] a w ⟨⟨hi.act.defers, hi.act.size, fun t x hx => ?_⟩, ⟨⟨rfl, rfl, rfl, Nat.le_refl _, fun _ _ => rfl⟩, Nat.le_refl _, rfl, List.nodup_nil, (by simp), (by simp)⟩⟩ (FrameR.start _ [] (by simp))
  rw [look_out] at hx
  obtain ⟨y, hy, rfl⟩ := Option.map_eq_some_iff.1 hx
  rw [SV.out_den (okFr_look hok hy)]
  exact hi.act.slot t y hy
/-- The same from the outer walk: its own blocks are as good as outside, the later ones are the inner walk's. -/
def SV.inn (n1 : Nat) (ρ : List Nat) : SV → SV
  | .lp i o => match Nat.blt i n1 with
    | true => .v (.pointer (some ⟨nth ρ i, o, none⟩))
    | false => .lp (i - n1) o
  | .ls i o n c => match Nat.blt i n1 with
    | true => .sl (some ⟨nth ρ i, o, none⟩) n c
    | false => .ls (i - n1) o n c
  | s => s
theorem blt_no {i n : Nat} (h : Nat.blt i n = false) : n ≤ i := by
  refine Nat.le_of_not_lt fun hlt => ?_
  have h1 : Nat.blt i n = true := Nat.ble_eq_true_of_le hlt
  rw [h1] at h
  cases h
theorem nth_left {ρ1 ρ2 : List Nat} {i : Nat} (h : i < ρ1.length) : nth (ρ1 ++ ρ2) i = nth ρ1 i := by simp [nth, List.getD, List.getElem?_append_left h]
theorem nth_right {ρ1 ρ2 : List Nat} {i : Nat} (h : ρ1.length ≤ i) : nth (ρ1 ++ ρ2) i = nth ρ2 (i - ρ1.length) := by simp [nth, List.getD, List.getElem?_append_right h]
theorem SV.inn_den {ρ1 ρ2 : List Nat} {n1 : Nat} (hl : ρ1.length = n1) {s : SV} (h : s.outOk = true) : (s.inn n1 ρ1).den ρ2 = s.den (ρ1 ++ ρ2) := by
  have hc : s.inBlk 0 = true → s.den ρ2 = s.den (ρ1 ++ ρ2) := fun hs => by
    have := denL_closed (ρ := ρ2) (ρ' := ρ1 ++ ρ2) (l := [s]) (by simp [SV.scopedL, hs])
    simpa [SV.denL] using this
  subst hl
  cases s with
  | lp i o =>
    simp only [SV.inn]
    split
    · rename_i hb
      have hb' : i < ρ1.length := by simpa using hb
      simp only [SV.den, nth_left hb']
    · rename_i hb
      have hb' : ρ1.length ≤ i := blt_no hb
      simp only [SV.den, nth_right hb']
  | ls i o n c =>
    simp only [SV.inn]
    split
    · rename_i hb
      have hb' : i < ρ1.length := by simpa using hb
      simp only [SV.den, nth_left hb']
    · rename_i hb
      have hb' : ρ1.length ≤ i := blt_no hb
      simp only [SV.den, nth_right hb']
  | v x => exact hc h
  | bo x => exact hc h
  | io k x => exact hc h
  | so x => exact hc h
  | sl a n c => exact hc h
  | agg l => exact hc h
  | tup l => exact hc h
  | fn f l => exact hc h
def innFr (n1 : Nat) (ρ : List Nat) (fr : Fr) : Fr := fr.map fun p => (p.1, p.2.inn n1 ρ)
theorem look_inn (n1 : Nat) (ρ : List Nat) : ∀ (fr : Fr) (t : Nat), look (innFr n1 ρ fr) t = (look fr t).map (SV.inn n1 ρ)
  | [], t => rfl
  | (k, s) :: l, t => by
    simp only [innFr, List.map_cons, look]
    cases Nat.beq k t with
    | true => rfl
    | false => exact look_inn n1 ρ l t
theorem nodup_app {l k : List Nat} (h : l.Nodup) (h2 : k.Nodup) (hd : ∀ x ∈ l, ∀ y ∈ k, x ≠ y) : (l ++ k).Nodup := List.nodup_append.2 ⟨h, h2, hd⟩
/-- Back to what was known when the world was noted; the blocks that were made since come along. -/
theorem At.back {s s2 : S} {w1 : World} {ρ1 : List Nat} {F1 : List Nat → World → Prop} (L1 L2 : Loc) (hpc : s2.pc = s.pc) (hks : s2.ks = s.ks) (hfr : innFr L1.length ρ1 s.fr = s2.fr) (hloc : s.loc = L1 ++ L2) (hl : s2.loc = L2) (hc1 : scopedLoc L1.length L1 = true) (hc2 : scopedLoc 0 L2 = true) (hok : okFr s.fr = true) (hF : Stable F)
    (hm : WInv N w0 ρ1 L1 w1) (hf : F ρ1 w1) (h : At P Q N w0 ntm F s) : At P Q w1.heap.size w1 ntm F1 s2 := by
  intro ρ a w hi _
  have hb := hi.mem.below
  have h1 := hm.below
  have hlen1 := hm.len
  have hlen2 : ρ.length = L2.length := by rw [hi.mem.len, hl]
  have hge : ∀ x ∈ ρ, w1.heap.size ≤ x := fun x hx => (hi.mem.ge x hx).1
  have hk := h (ρ1 ++ ρ) a w ⟨⟨hi.act.defers, hi.act.size, fun t x hx => ?_⟩, ⟨⟨hb.os.trans h1.os, hb.tape.trans h1.tape, hb.output.trans h1.output, Nat.le_trans h1.size hb.size, fun k hk => (hb.block k (Nat.lt_of_lt_of_le hk hm.hN)).trans (h1.block k hk)⟩,
    Nat.le_trans hm.hN hb.size, by rw [hloc, List.length_append, List.length_append, hlen1, hlen2], nodup_app hm.nodup hi.mem.nodup (fun x hx y hy => by
      have := (hm.ge x hx).2
      have := hge y hy
      omega), fun b hb' => ?_, fun i c t hi' => ?_⟩⟩ (hF ρ1 w1 (ρ1 ++ ρ) w ⟨ρ, rfl, hge⟩ (Keep.of_below hb) hf)
  · rw [hpc, hks]
    exact hk
  · have hx2 : look s2.fr t = some (x.inn L1.length ρ1) := by rw [← hfr, look_inn, hx]; rfl
    have := hi.act.slot t _ hx2
    rw [SV.inn_den hlen1 (okFr_look hok hx)] at this
    exact this
  · rcases List.mem_append.1 hb' with h2 | h2
    · exact ⟨(hm.ge b h2).1, Nat.lt_of_lt_of_le (hm.ge b h2).2 hb.size⟩
    · exact ⟨Nat.le_trans hm.hN (hi.mem.ge b h2).1, (hi.mem.ge b h2).2⟩
  · rw [hloc] at hi'
    by_cases hil : i < L1.length
    · rw [List.getElem?_append_left hil] at hi'
      have hc := hm.cells i c t hi'
      have hd := SV.denL_take (ρ1 ++ ρ) ρ1.length c (by rw [hlen1]; exact scopedLoc_get hc1 hi')
      rw [List.take_left] at hd
      rw [nth_left (by omega), hb.block _ (Array.getElem?_eq_some_iff.1 hc).1, hc, hd]
    · rw [List.getElem?_append_right (by omega)] at hi'
      have hc := hi.mem.cells (i - L1.length) c t (by rw [hl]; exact hi')
      rw [nth_right (by omega), hlen1, hc, denL_closed (ρ := ρ) (ρ' := ρ1 ++ ρ) (scopedLoc_get hc2 hi')]

/-! ### a store into a row of one's own -/
def S.past (s : S) : S :=
  match s.pc with
  | .ops all (_ :: rest) => { s with pc := .ops all rest }
  | _ => s
def stQ (P : Program) (fr : Fr) (o : Oper) : Option (Addr × SV) :=
  match o.dst, o.op with
  | none, .store t x y => match evalS fr x, (evalS fr y).bind SV.cells?, sizeT P t with
    | some (.v (.pointer (some a))), some [c], some 1 => match c.one with
      | true => some (a, c)
      | false => none
    | _, _, _ => none
  | _, _ => none
theorem run_stQ {ρ : List Nat} {fr : Fr} {a : Act} {w : World} (ha : AInv ntm ρ fr a) {o : Oper} {p : Addr} {c : SV} (h : stQ P fr o = some (p, c)) {v0 : Value} (hc : w.cell? (p.add 0) = some v0) (hz : w.frozen? (p.add 0) = false) :
    o.dst = none ∧ (execOp a.eval o).run P w = .ok .skip (w.setCell (p.add 0) (c.den ρ)) := by
  obtain ⟨dst, op, ty, pos, after, guard⟩ := o
  unfold stQ at h
  simp only at h
  split at h
  · rename_i t x y
    split at h
    · rename_i a' c' hx hy hn
      split at h
      · rename_i hone
        simp only [Option.some.injEq, Prod.mk.injEq] at h
        obtain ⟨rfl, rfl⟩ := h
        refine ⟨rfl, ?_⟩
        obtain ⟨s, hs, hcs⟩ := Option.bind_eq_some_iff.1 hy
        have hcells := SV.cells?_den (ρ := ρ) hcs
        have h1 : (c'.den ρ).oneCell' = true := by
          have := oneL_den (ρ := ρ) (l := [c']) (by simp [oneL, hone])
          exact this _ (by simp [SV.denL_eq])
        have hst := run_store P w (a'.add 0) (c'.den ρ) .plain h1
        rw [hc] at hst
        simp only [hz, Bool.false_eq_true, if_false] at hst
        unfold execOp
        simp only [evalS_sound ha hx, evalS_sound ha hs, SV.den, Instr.storeAt, Instr.sureAddr, storeVar, Sem.run_bind, Sem.run_pure, Result.andThen_ok, run_sizeT hn, hcells, List.size_toArray, SV.denL_eq, List.map_cons, List.map_nil, List.length_singleton, ne_eq, not_true_eq_false, if_false, storeCells, hst]
      · cases h
    · cases h
  · cases h
def stI (P : Program) (s : S) : Option (Addr × SV) :=
  match s.head?, s.plain with
  | some o, true => stQ P s.fr o
  | _, _ => none
theorem S.past_at {s : S} {o : Oper} (ho : s.head? = some o) (hp : s.plain = true) : ∃ all rest, s.pc = .ops all (o :: rest) ∧ s.past = { s with pc := .ops all rest } ∧ guardS all s.fr o = some true := by
  obtain ⟨pc, ks, fr, loc⟩ := s
  cases pc with
  | ops all rest =>
    cases rest with
    | nil => simp [S.head?] at ho
    | cons o' rest =>
      simp only [S.head?] at ho
      split at ho
      · rename_i hg
        simp only [Option.some.injEq] at ho
        subst ho
        exact ⟨all, rest, rfl, rfl, hg⟩
      · cases ho
  | qops all rest => simp [S.plain] at hp
  | code c => simp [S.plain] at hp
  | any _ _ _ => simp [S.plain] at hp
  | exit e => simp [S.plain] at hp
theorem At.stRow {s : S} {ok : Nat → Prop} {ρ0 : List Nat} {base e n c : Nat} {a : Addr} {xs : List Value} {L : List (Option Addr × List Value)} (j : Nat) (p : Addr) (cv : SV) (u : Value) (hq : stI P s = some (p, cv)) (hp : p = a.add j) (hj : j < n) (hu : ∀ ρ, cv.den ρ = u) (hN : N ≤ base)
    (h : At P Q N w0 ntm (RowE w0 ok ρ0 base e 1 (some a) n c (xs.set j u) L) s.past) : At P Q N w0 ntm (RowE w0 ok ρ0 base e 1 (some a) n c xs L) s := by
  unfold stI at hq
  split at hq
  · rename_i o ho hpl
    obtain ⟨all, rest, h1, h2, h3⟩ := S.past_at ho hpl
    intro ρ act w hi hf
    obtain ⟨⟨⟨hrow, hb⟩, hfr, hblk⟩, hent⟩ := hf
    have ha : a = ⟨a.block, 0, none⟩ := by
      rcases hrow.1.2 with ⟨h', _⟩ | ⟨g, cap, cur, hv, _⟩
      · cases h'
      · injection hv with hv _ _
        injection hv with hv
        rw [hv]
    generalize hg : a.block = g at ha
    subst ha
    have hlen : xs.length = n := by have := hrow.1.1; omega
    have hst := hrow.1.stored j u
    obtain ⟨g', hg', hcell⟩ := hrow.cell (j := j) (by omega)
    injection hg' with hg'
    injection hg' with hg' _ _
    subst hg'
    have hp' : p.add 0 = ⟨g, j, none⟩ := by rw [hp, add_ok, add_ok, Nat.zero_add, Nat.add_zero]
    rw [List.getElem?_eq_getElem (by omega)] at hcell
    obtain ⟨hd, hrun⟩ := run_stQ hi.act hq (w := w) (v0 := xs[j]) (by rw [hp']; exact hcell) (by rw [hp']; exact hrow.1.frozenAt j)
    rw [hp', hu] at hrun
    have hown : ∀ k, some g = some k → N ≤ k ∧ k ∉ ρ := fun k hk => by
      injection hk with hk
      subst hk
      exact ⟨Nat.le_trans hN (hrow.1.lt g rfl).1, hrow.2 g rfl⟩
    have hk := h ρ act (w.setCell ⟨g, j, none⟩ u) (by rw [h2]; exact ⟨hi.act, hi.mem.grown hst.2 hown⟩) ⟨⟨⟨⟨hst.1, hrow.2⟩, Nat.le_trans hb hst.2.size⟩, hfr.grown hst.2 fun k hk => hblk k (by injection hk with hk; subst hk; rfl), hblk⟩, fun q hq' => by
      obtain ⟨b, e1, e2, e3, e4, e5, e6⟩ := hent q hq'
      exact ⟨b, e1, e2, Nat.lt_of_lt_of_le e3 hst.2.size, e4, e5, src_same e6 (hst.2.block b e3 fun he => e5 (by rw [he]; rfl))⟩⟩
    rw [h2] at hk
    rw [h1]
    show wpList P all _ (o :: rest) act w
    unfold wpList
    rw [if_pos (guardS_ok hi.act h3)]
    refine .inl ?_
    unfold Oper.wp
    rw [hrun, Oper.upon_skip, hd]
    exact hk
  · cases hq

/-! ### an index into an array that lies outside -/
def ixaQ (P : Program) (fr : Fr) (o : Oper) : Option (Addr × Nat × Int × Nat) :=
  match o.op with
  | .indexAddr t x ix => match P.underlying t, evalS fr x, evalS fr ix with
    | some (.array n e), some (.v (.pointer (some a))), some si => match litOf si, sizeT P e with
      | some (.int _ i, _), some size => some (a, n, i, size)
      | _, _ => none
    | _, _, _ => none
  | _ => none
theorem run_ixaQ {ρ : List Nat} {fr : Fr} {act : Act} (ha : AInv ntm ρ fr act) {o : Oper} {a : Addr} {n size : Nat} {i : Int} (h : ixaQ P fr o = some (a, n, i, size)) (h0 : 0 ≤ i) (hn : i < n) (w : World) :
    (execOp act.eval o).run P w = .ok (.value (.pointer (some (a.add (i.toNat * size))))) w := by
  obtain ⟨dst, op, ty, pos, after, guard⟩ := o
  unfold ixaQ at h
  simp only at h
  split at h
  · split at h
    · rename_i n' e a' si hu hx hi
      split at h
      · rename_i k i' lf size' hl hs
        simp only [Option.some.injEq, Prod.mk.injEq] at h
        obtain ⟨rfl, rfl, rfl, rfl⟩ := h
        have hsi := litOf_den (ρ := ρ) hl
        have hb : 0 ≤ i' ∧ i' < (n' : Int) := ⟨h0, hn⟩
        simp [execOp, evalS_sound ha hx, evalS_sound ha hi, hsi, SV.den, Instr.indexAt, asIntOf, run_underlying hu, hb, run_sizeT hs, Instr.sureAddr]
      · cases h
    · cases h
  · cases h
def ixaI (P : Program) (ntm : Nat) (s : S) : Option (Addr × Nat × Int × Nat) :=
  match s.head?, s.dstOk ntm with
  | some o, true => ixaQ P s.fr o
  | _, _ => none
theorem At.ixa {s : S} (a : Addr) (n size : Nat) (i : Int) (hq : ixaI P ntm s = some (a, n, i, size)) (h0 : 0 ≤ i) (hn : i < n)
    (hF : Stable F) (h : At P Q N w0 ntm F (s.tail ntm (.v (.pointer (some (a.add (i.toNat * size))))))) : At P Q N w0 ntm F s := by
  unfold ixaI at hq
  split at hq
  · rename_i o ho hd
    exact At.op hF o (.v (.pointer (some (a.add (i.toNat * size))))) ho hd (fun ρ act w hi _ => run_ixaQ hi.act hq h0 hn w) h
  · cases hq

/-! ### all bits of a number turned -/
def cplQ (fr : Fr) (o : Oper) : Option (IntKind × Int) :=
  match o.op with
  | .unOp .xor _ x => match (evalS fr x).bind litOf with
    | some (.int k n, _) => some (k, n)
    | _ => none
  | _ => none
theorem run_cplQ {ρ : List Nat} {fr : Fr} {act : Act} (ha : AInv ntm ρ fr act) {o : Oper} {k : IntKind} {n : Int} (h : cplQ fr o = some (k, n)) (w : World) :
    (execOp act.eval o).run P w = .ok (.value (.int k (k.wrap (BitVec.ofInt k.bits (if k.signed then -1 else k.max) ^^^ BitVec.ofInt k.bits n).toNat))) w := by
  obtain ⟨dst, op, ty, pos, after, guard⟩ := o
  unfold cplQ at h
  simp only at h
  split at h
  · split at h
    · rename_i k' n' l hx
      simp only [Option.some.injEq, Prod.mk.injEq] at h
      obtain ⟨rfl, rfl⟩ := h
      obtain ⟨sx, hx, hl⟩ := Option.bind_eq_some_iff.1 hx
      simp [execOp, evalS_sound ha hx, litOf_den hl, Op.unary, Op.intBits]
    · cases h
  · cases h
def cplI (ntm : Nat) (s : S) : Option (IntKind × Int) :=
  match s.head?, s.dstOk ntm with
  | some o, true => cplQ s.fr o
  | _, _ => none
theorem At.cpl {s : S} (k : IntKind) (n m : Int) (hq : cplI ntm s = some (k, n)) (hm : k.wrap (BitVec.ofInt k.bits (if k.signed then -1 else k.max) ^^^ BitVec.ofInt k.bits n).toNat = m)
    (hF : Stable F) (h : At P Q N w0 ntm F (s.tail ntm (.io k m))) : At P Q N w0 ntm F s := by
  unfold cplI at hq
  split at hq
  · rename_i o ho hd
    exact At.op hF o (.io k m) ho hd (fun ρ act w hi _ => by rw [← hm]; exact run_cplQ hi.act hq w) h
  · cases hq

/-- A row that lies beside is put behind a row of one's own, whatever else is known of it. -/
theorem At.appOutG {s : S} (e size bytes : Nat) (A : Option Addr) (n c : Nat) (b : Addr) (m k : Nat) (ok : Nat → Prop) (ρ0 : List Nat) (base : Nat) (xs news : List Value) (hq : outI P ntm s = some (e, size, bytes, A, n, c, some b, m, k)) (hl : news.length = m * size) (h1 : ∀ u ∈ news, u.oneCell' = true)
    (hF : ∀ ρ w, WInv N w0 ρ s.loc w → F ρ w → RowF w0 ok ρ0 base e size A n c xs ρ w ∧ Src w b news)
    (hbytes : (n + m) * bytes ≤ 140737488355328) (h63 : n + m ≤ maxLen) (hN : N ≤ base)
    (h : ∀ (A' : Option Addr) (c' : Nat), At P Q N w0 ntm (RowF w0 ok ρ0 base e size A' (n + m) c' (xs ++ news)) (s.tail ntm (.sl A' (n + m) c'))) : At P Q N w0 ntm F s := by
  unfold outI at hq
  obtain ⟨⟨o, t, e', size', bytes', A', n', c', B', m', k'⟩, hq1, hq2⟩ := Option.map_eq_some_iff.1 hq
  simp only [Prod.mk.injEq] at hq2
  obtain ⟨rfl, rfl, rfl, rfl, rfl, rfl, rfl, rfl, rfl⟩ := hq2
  unfold outQ at hq1
  split at hq1
  · rename_i o' ho
    split at hq1
    · rename_i t' A1 n1 c1 sy ha
      split at hq1
      · rename_i e1 size1 bytes1 B1 m1 k1 ht hsy hpd
        simp only [Option.some.injEq, Prod.mk.injEq] at hq1
        obtain ⟨rfl, rfl, rfl, rfl, rfl, rfl, rfl, rfl, rfl, rfl, rfl⟩ := hq1
        simp only [Bool.and_eq_true] at hpd
        refine At.opx o' (fun x : Option Addr × Nat => .sl x.1 (n1 + m1) x.2) (fun x ρ w => RowF w0 ok ρ0 base e1 size1 x.1 (n1 + m1) x.2 (xs ++ news) ρ w) ho hpd.2 hpd.1 ?_ (fun x => h x.1 x.2)
        intro ρ a w hi hf
        obtain ⟨⟨⟨hrow, hb⟩, hfr, hblk⟩, hsrc⟩ := hF ρ w hi.mem hf
        obtain ⟨A', c', w', r1, r2, r3, r4⟩ := run_append_row (P := P) (ty := o'.type) ht hrow hb (fun b hb => (hi.mem.ge b hb).2) b m1 k1 news hl hsrc h1 hbytes h63
        refine ⟨(A', c'), w', run_appS hi.act ha (by
          have : sy.den ρ = .slice (some b) m1 k1 := by rw [← SV.asSl_den, hsy]; rfl
          rw [this]
          exact r1), hi.mem.grown r3 (fun g hg => ⟨Nat.le_trans hN (hrow.1.lt g hg).1, hrow.2 g hg⟩), ⟨r2, Nat.le_trans hb r3.size⟩, hfr.grown r3 hblk, fun g hg => ?_⟩
        rcases r4 with r4 | r4
        · exact hblk g (r4 ▸ hg)
        · rw [r4] at hg
          injection hg with hg
          have := hfr.1.size
          exact .inr (by omega)
      · cases hq1
    · cases hq1
  · cases hq1
/-- A row that lies beside, or none at all, is put behind a row of one's own. -/
theorem At.appAny {s : S} (e size bytes : Nat) (A : Option Addr) (n c : Nat) (B : Option Addr) (m k : Nat) (ok : Nat → Prop) (ρ0 : List Nat) (base : Nat) (xs news : List Value) (hq : outI P ntm s = some (e, size, bytes, A, n, c, B, m, k)) (hl : news.length = m * size) (h1 : ∀ u ∈ news, u.oneCell' = true)
    (hn : B = none → m = 0) (hsrc : ∀ b, B = some b → ∀ ρ w, WInv N w0 ρ s.loc w → Src w b news)
    (hbytes : (n + m) * bytes ≤ 140737488355328) (h63 : n + m ≤ maxLen) (hN : N ≤ base)
    (h : ∀ (A' : Option Addr) (c' : Nat), At P Q N w0 ntm (RowF w0 ok ρ0 base e size A' (n + m) c' (xs ++ news)) (s.tail ntm (.sl A' (n + m) c'))) : At P Q N w0 ntm (RowF w0 ok ρ0 base e size A n c xs) s := by
  cases B with
  | some b => exact At.appOut e size bytes A n c b m k ok ρ0 base xs news hq hl h1 (fun ρ w hm _ => hsrc b rfl ρ w hm) hbytes h63 hN h
  | none =>
    obtain rfl := hn rfl
    have hnil : news = [] := List.eq_nil_of_length_eq_zero (by rw [hl, Nat.zero_mul])
    subst hnil
    refine At.appNone e size bytes A n c k ok ρ0 base xs hq ?_
    have hk := h A c
    rw [List.append_nil, Nat.add_zero] at hk
    exact hk
end
end Go.Sx
