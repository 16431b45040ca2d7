import Derived.Test.YtkjnbafdmjakgaaDoorSxW
import Derived.Laws.Slices
set_option linter.unusedSimpArgs false
set_option linter.unusedVariables false
namespace Go.Sx
open Go.RowKit
section
variable {P : Program} {Q : Exit → Act → World → Prop} {N : Nat} {w0 : World} {ntm : Nat} {F : List Nat → World → Prop}

/-! ### part of a slice that lies outside -/
def slQ (P : Program) (fr : Fr) (o : Oper) : Option (Option Addr × Nat × Nat × Option Int × Int × Nat) :=
  match o.op with
  | .slice t x lo (some hi) none => match P.underlying t, evalS fr x, (evalS fr hi).bind litOf with
    | some (.slice e), some (.sl A n c), some (.int _ h, _) => match sizeT P e, lo with
      | some size, none => some (A, n, c, none, h, size)
      | some size, some l => match (evalS fr l).bind litOf with
        | some (.int _ li, _) => some (A, n, c, some li, h, size)
        | _ => none
      | _, _ => none
    | _, _, _ => none
  | _ => none
theorem run_slQ {ρ : List Nat} {fr : Fr} {act : Act} (ha : AInv ntm ρ fr act) {o : Oper} {A : Option Addr} {n c size : Nat} {lo : Option Int} {h : Int} (hq : slQ P fr o = some (A, n, c, lo, h, size)) (h0 : 0 ≤ lo.getD 0) (h1 : lo.getD 0 ≤ h) (h2 : h ≤ c) (w : World) :
    (execOp act.eval o).run P w = .ok (.value (.slice (if c = (lo.getD 0).toNat then A else A.map (·.add ((lo.getD 0).toNat * size))) (h.toNat - (lo.getD 0).toNat) (c - (lo.getD 0).toNat))) w := by
  obtain ⟨dst, op, ty, pos, after, guard⟩ := o
  unfold slQ at hq
  simp only at hq
  split at hq
  · rename_i t x lo' hi
    split at hq
    · rename_i e A' n' c' k h' lf hu hx hhi
      obtain ⟨sh, hsh, hlh⟩ := Option.bind_eq_some_iff.1 hhi
      have hel : P.underlying t = some (.slice (P.elem t)) := by simp [Program.elem, hu]
      have hel2 : P.elem t = e := by simp [Program.elem, hu]
      split at hq
      · rename_i size' hs
        simp only [Option.some.injEq, Prod.mk.injEq] at hq
        obtain ⟨rfl, rfl, rfl, rfl, rfl, rfl⟩ := hq
        simp only [Option.getD_none] at h0 h1 h2 ⊢
        have := run_slice_h (P := P) w t A' n' c' hel k h' (by omega) h2
        rw [hel2] at this
        simp [execOp, evalS_sound ha hx, evalS_sound ha hsh, litOf_den hlh, SV.den, run_sliceAt_slice w t _ _ _ _ hel, this, run_sizeT hs, sliced, Result.andThen]
      · rename_i size' l hs
        split at hq
        · rename_i kl li lfl hll
          obtain ⟨sl, hsl, hll2⟩ := Option.bind_eq_some_iff.1 hll
          simp only [Option.some.injEq, Prod.mk.injEq] at hq
          obtain ⟨rfl, rfl, rfl, rfl, rfl, rfl⟩ := hq
          simp only [Option.getD_some] at h0 h1 h2 ⊢
          have := run_slice_lh (P := P) w t A' n' c' hel kl k li h' h0 h1 h2
          rw [hel2] at this
          simp [execOp, evalS_sound ha hx, evalS_sound ha hsh, evalS_sound ha hsl, litOf_den hlh, litOf_den hll2, SV.den, run_sliceAt_slice w t _ _ _ _ hel, this, run_sizeT hs, sliced, Result.andThen]
        · cases hq
      · cases hq
    · cases hq
  · cases hq
def slI (P : Program) (ntm : Nat) (s : S) : Option (Option Addr × Nat × Nat × Option Int × Int × Nat) :=
  match s.head?, s.dstOk ntm with
  | some o, true => slQ P s.fr o
  | _, _ => none
theorem At.slx {s : S} (A : Option Addr) (n c : Nat) (lo : Option Int) (h : Int) (size : Nat) (r : SV) (hq : slI P ntm s = some (A, n, c, lo, h, size)) (hF : Stable F) (h0 : 0 ≤ lo.getD 0) (h1 : lo.getD 0 ≤ h)
    (hr : ∀ ρ w, WInv N w0 ρ s.loc w → F ρ w → h ≤ c ∧ r.den ρ = .slice (if c = (lo.getD 0).toNat then A else A.map (·.add ((lo.getD 0).toNat * size))) (h.toNat - (lo.getD 0).toNat) (c - (lo.getD 0).toNat))
    (hk : At P Q N w0 ntm F (s.tail ntm r)) : At P Q N w0 ntm F s := by
  unfold slI at hq
  split at hq
  · rename_i o ho hd
    exact At.op hF o r ho hd (fun ρ act w hi hf => by
      obtain ⟨h2, h3⟩ := hr ρ w hi.mem hf
      rw [h3]
      exact run_slQ hi.act hq h0 h1 h2 w) hk
  · cases hq

/-! ### a local, empty row becomes a row of one's own; a row that came in is put behind -/
def S.bind (s : S) (t : Nat) (v : SV) : S := { s with fr := (t, v) :: s.fr }
theorem At.lsRow {s : S} (t : Nat) (ts : List Nat) (i e size : Nat) (hl : look s.fr t = some (.ls i 0 0 0)) (hloc : s.loc[i]? = some ([], e)) (hlen : s.loc.length = i + 1) (hN : N = w0.heap.size)
    (hsc : (scopedFr i (s.keep ts i).fr && scopedLoc i (s.keep ts i).loc) = true)
    (h : ∀ A : Option Addr, At P Q N w0 ntm (RowF w0 (fun _ => False) [] w0.heap.size e size A 0 0 []) ((s.keep ts i).bind t (.sl A 0 0))) : At P Q N w0 ntm noF s := by
  intro ρ a w hi _
  simp only [Bool.and_eq_true] at hsc
  have hk := hi.keep ts i hsc.1 hsc.2
  have hcell := hi.mem.cells i _ _ hloc
  have hρl : ρ.length = i + 1 := by rw [hi.mem.len, hlen]
  have hmi : nth ρ i ∈ ρ := nth_mem (by omega)
  have hgi := hi.mem.ge _ hmi
  have hni : nth ρ i ∉ ρ.take i := by
    intro hmem
    obtain ⟨j, hj, he⟩ := List.getElem_of_mem hmem
    have hj' : j < i := by simp at hj; omega
    have hnj : nth ρ j = nth ρ i := by
      rw [← he]
      simp only [nth, List.getD, List.getElem_take, List.getElem?_eq_getElem (show j < ρ.length by omega), Option.getD_some]
    have := nth_inj hi.mem.nodup (by omega) (by omega) hnj
    omega
  have hrow : w.ownsRow w0.heap.size e size (.slice (some ⟨nth ρ i, 0, none⟩) 0 0) 0 [] :=
    ⟨by simp, .inr ⟨nth ρ i, 0, #[], rfl, hN ▸ hgi.1, hcell, Nat.le_refl _, Nat.zero_le _, by simp, by simp⟩⟩
  have hfr : FrameR w0 (fun _ => False) [] (ρ.take i) w := ⟨Chg.ofBelow (hN ▸ hi.mem.below), fun b hb => .inr (hN ▸ (hi.mem.ge b (List.mem_of_mem_take hb)).1), by simp⟩
  have hrowF : RowF w0 (fun _ => False) [] w0.heap.size e size (some ⟨nth ρ i, 0, none⟩) 0 0 [] (ρ.take i) w := ⟨⟨⟨hrow, fun g hg hm => by
    simp only [Value.ownBlock, Option.some.injEq] at hg
    subst hg
    exact hni hm⟩, hi.mem.below.size⟩, hfr, fun g hg => by
    simp only [Value.ownBlock, Option.some.injEq] at hg
    subst hg
    exact .inr (hN ▸ hgi.1)⟩
  refine h (some ⟨nth ρ i, 0, none⟩) (ρ.take i) a w ⟨⟨hk.act.defers, hk.act.size, fun t' x hx => ?_⟩, hk.mem⟩ hrowF
  simp only [S.bind, look] at hx
  split at hx
  · rename_i hb
    have := Nat.eq_of_beq_eq_true hb
    subst this
    simp only [Option.some.injEq] at hx
    subst hx
    exact hi.act.slot _ _ hl
  · exact hk.act.slot t' x hx
def outQ (P : Program) (ntm : Nat) (s : S) : Option (Oper × TypeId × TypeId × Nat × Nat × Option Addr × Nat × Nat × Option Addr × Nat × Nat) :=
  match s.head? with
  | some o => match appS s.fr o with
    | some (t, .sl A n c, sy) => match elemT P t, sy.asSl, s.plain && s.dstOk ntm with
      | some (e, size, bytes), .sl B m k, true => some (o, t, e, size, bytes, A, n, c, B, m, k)
      | _, _, _ => none
    | _ => none
  | none => none
def outI (P : Program) (ntm : Nat) (s : S) : Option (TypeId × Nat × Nat × Option Addr × Nat × Nat × Option Addr × Nat × Nat) := (outQ P ntm s).map fun (_, _, e, size, bytes, A, n, c, B, m, k) => (e, size, bytes, A, n, c, B, m, k)
/-- A row that came in is put behind a row of one's own. -/
theorem At.appOut {s : S} (e size bytes : Nat) (A : Option Addr) (n c : Nat) (b : Addr) (m k : Nat) (ok : Nat → Prop) (ρ0 : List Nat) (base : Nat) (xs news : List Value) (hq : outI P ntm s = some (e, size, bytes, A, n, c, some b, m, k)) (hl : news.length = m * size) (h1 : ∀ u ∈ news, u.oneCell' = true)
    (hsrc : ∀ ρ w, WInv N w0 ρ s.loc w → RowF w0 ok ρ0 base e size A n c xs ρ w → Src w b news)
    (hbytes : (n + m) * bytes ≤ 140737488355328) (h63 : n + m ≤ maxLen) (hN : N ≤ base)
    (h : ∀ (A' : Option Addr) (c' : Nat), At P Q N w0 ntm (RowF w0 ok ρ0 base e size A' (n + m) c' (xs ++ news)) (s.tail ntm (.sl A' (n + m) c'))) : At P Q N w0 ntm (RowF w0 ok ρ0 base e size A n c xs) s := by
  unfold outI at hq
  obtain ⟨⟨o, t, e', size', bytes', A', n', c', B', m', k'⟩, hq1, hq2⟩ := Option.map_eq_some_iff.1 hq
  simp only [Prod.mk.injEq] at hq2
  obtain ⟨rfl, rfl, rfl, rfl, rfl, rfl, rfl, rfl, rfl⟩ := hq2
  unfold outQ at hq1
  split at hq1
  · rename_i o' ho
    split at hq1
    · rename_i t' A1 n1 c1 sy ha
      split at hq1
      · rename_i e1 size1 bytes1 B1 m1 k1 ht hsy hpd
        simp only [Option.some.injEq, Prod.mk.injEq] at hq1
        obtain ⟨rfl, rfl, rfl, rfl, rfl, rfl, rfl, rfl, rfl, rfl, rfl⟩ := hq1
        simp only [Bool.and_eq_true] at hpd
        refine At.opx o' (fun x : Option Addr × Nat => .sl x.1 (n1 + m1) x.2) (fun x ρ w => RowF w0 ok ρ0 base e1 size1 x.1 (n1 + m1) x.2 (xs ++ news) ρ w) ho hpd.2 hpd.1 ?_ (fun x => h x.1 x.2)
        intro ρ a w hi hf
        have hf' := hf
        obtain ⟨⟨hrow, hb⟩, hfr, hblk⟩ := hf
        obtain ⟨A', c', w', r1, r2, r3, r4⟩ := run_append_row (P := P) (ty := o'.type) ht hrow hb (fun b hb => (hi.mem.ge b hb).2) b m1 k1 news hl (hsrc ρ w hi.mem hf') h1 hbytes h63
        refine ⟨(A', c'), w', run_appS hi.act ha (by
          have : sy.den ρ = .slice (some b) m1 k1 := by rw [← SV.asSl_den, hsy]; rfl
          rw [this]
          exact r1), hi.mem.grown r3 (fun g hg => ⟨Nat.le_trans hN (hrow.1.lt g hg).1, hrow.2 g hg⟩), ⟨r2, Nat.le_trans hb r3.size⟩, hfr.grown r3 hblk, fun g hg => ?_⟩
        rcases r4 with r4 | r4
        · exact hblk g (r4 ▸ hg)
        · rw [r4] at hg
          injection hg with hg
          have := hfr.1.size
          exact .inr (by omega)
      · cases hq1
    · cases hq1
  · cases hq1
theorem run_append_none (t ty e : TypeId) (size bytes : Nat) (ht : elemT P t = some (e, size, bytes)) (base : Nat) (A : Option Addr) (n c : Nat) (xs : List Value) (w : World) (hown : w.ownsRow base e size (.slice A n c) n xs) (k : Nat) :
    (Builtin.append_ #[t, t] ty #[.slice A n c, .slice none 0 k]).run P w = .ok (.slice A n c) w := by
  unfold elemT at ht
  split at ht
  · rename_i e' hu
    split at ht
    · rename_i i hi
      split at ht
      · rename_i z hz
        split at ht
        · simp only [Option.some.injEq, Prod.mk.injEq] at ht
          obtain ⟨rfl, rfl, rfl⟩ := ht
          rcases hown.2 with ⟨hv, _⟩ | ⟨g, cap, cur, hv, _, _, hnc, _⟩
          · injection hv with h1 h2 h3
            subst h1 h2 h3
            simp [Builtin.append_, run_underlying hu, sizeOf, typeInfo, hi, Builtin.lenOf, Builtin.firstCells]
          · injection hv with h1 _ h3
            subst h1 h3
            simp [Builtin.append_, run_underlying hu, sizeOf, typeInfo, hi, Builtin.lenOf, Builtin.firstCells, hnc, storeCells]
        · cases ht
      · cases ht
    · cases ht
  · cases ht
/-- Nothing is put behind a row of one's own. -/
theorem At.appNone {s : S} (e size bytes : Nat) (A : Option Addr) (n c k : Nat) (ok : Nat → Prop) (ρ0 : List Nat) (base : Nat) (xs : List Value) (hq : outI P ntm s = some (e, size, bytes, A, n, c, none, 0, k))
    (h : At P Q N w0 ntm (RowF w0 ok ρ0 base e size A n c xs) (s.tail ntm (.sl A n c))) : At P Q N w0 ntm (RowF w0 ok ρ0 base e size A n c xs) s := by
  unfold outI at hq
  obtain ⟨⟨o, t, e', size', bytes', A', n', c', B', m', k'⟩, hq1, hq2⟩ := Option.map_eq_some_iff.1 hq
  simp only [Prod.mk.injEq] at hq2
  obtain ⟨rfl, rfl, rfl, rfl, rfl, rfl, rfl, rfl, rfl⟩ := hq2
  unfold outQ at hq1
  split at hq1
  · rename_i o' ho
    split at hq1
    · rename_i t' A1 n1 c1 sy ha
      split at hq1
      · rename_i e1 size1 bytes1 B1 m1 k1 ht hsy hpd
        simp only [Option.some.injEq, Prod.mk.injEq] at hq1
        obtain ⟨rfl, rfl, rfl, rfl, rfl, rfl, rfl, rfl, rfl, rfl, rfl⟩ := hq1
        simp only [Bool.and_eq_true] at hpd
        refine At.op RowF.stable o' (.sl A1 n1 c1) ho hpd.2 (fun ρ a w hi hf => ?_) h
        exact run_appS hi.act ha (by
          have : sy.den ρ = .slice none 0 k1 := by rw [← SV.asSl_den, hsy]; rfl
          rw [this]
          exact run_append_none t' o'.type e1 size1 bytes1 ht base A1 n1 c1 xs w hf.1.1.1 k1)
      · cases hq1
    · cases hq1
  · cases hq1
/-- A slice that is written out may be taken as one that lies outside. -/
def slFr (fr : Fr) : Fr := fr.map fun p => (p.1, p.2.asSl)
theorem look_slFr : ∀ {fr : Fr} {t : Nat} {s : SV}, look (Go.Sx.slFr fr) t = some s → ∃ s', look fr t = some s' ∧ s = s'.asSl
  | [], t, s, h => by simp [Go.Sx.slFr, look] at h
  | (k, x) :: l, t, s, h => by
    simp only [Go.Sx.slFr, List.map_cons, look] at h ⊢
    split at h
    · exact ⟨x, rfl, by simpa using h.symm⟩
    · exact look_slFr h
theorem At.slFr {s : S} (s' : S) (hs : { s with fr := Go.Sx.slFr s.fr } = s') (h : At P Q N w0 ntm F s') : At P Q N w0 ntm F s := by
  subst hs
  intro ρ a w hi hf
  refine h ρ a w ⟨⟨hi.act.defers, hi.act.size, fun t x hl => ?_⟩, hi.mem⟩ hf
  obtain ⟨x', h1, rfl⟩ := look_slFr hl
  rw [SV.asSl_den]
  exact hi.act.slot t x' h1
/-! ### in a region that draws its order: a part of a slice ahead of all else -/
def anyAt (s : S) (j : Nat) : Option Oper :=
  match s.pc, s.ks with
  | .any all (_ + 1) dn, [] => match all[j]? with
    | some o => match guardS all s.fr o, (Region.free .any all (listedOf all.size dn) j && Region.noSelect all) && (Region.ready .any all (listedOf all.size dn)).contains j with
      | some true, true => some o
      | _, _ => none
    | none => none
  | _, _ => none
def anyPut (ntm : Nat) (s : S) (j : Nat) (r : SV) : Option S :=
  match s.pc, s.ks with
  | .any all (g + 1) dn, [] => match all[j]? with
    | some o => (putS ntm s.fr o.dst r).map fun fr' => ⟨.any all g (j :: dn), [], fr', s.loc⟩
    | none => none
  | _, _ => none
def S.anyNext (s : S) (ntm : Nat) (j : Nat) (r : SV) : S := (anyPut ntm s j r).getD s
theorem At.first {s : S} (hQ : ∀ e a w, Q e a w → e = .normal) (j : Nat) (o : Oper) (r : SV) (ho : anyAt s j = some o) (hp : (anyPut ntm s j r).isSome = true)
    (hrun : ∀ ρ a w, AInv ntm ρ s.fr a → (execOp a.eval o).run P w = .ok (.value (r.den ρ)) w) (h : At P Q N w0 ntm F (s.anyNext ntm j r)) : At P Q N w0 ntm F s := by
  obtain ⟨pc, ks, fr, loc⟩ := s
  unfold anyAt at ho
  simp only at ho
  split at ho
  · rename_i all g dn
    split at ho
    · rename_i o' ho'
      split at ho
      · rename_i hg hfs
        simp only [Option.some.injEq] at ho
        subst ho
        simp only [Bool.and_eq_true] at hfs
        unfold S.anyNext at h
        unfold anyPut at h hp
        simp only [ho'] at h hp
        rcases hput : putS ntm fr o'.dst r with _ | fr'
        · rw [hput] at hp; cases hp
        · rw [hput] at h
          simp only [Option.map_some, Option.getD_some] at h
          intro ρ a w hi hf
          refine wpAny_first hQ ho' (Region.noSelect_spec hfs.1.2) g _ a w (Region.free_spec ho' hfs.1.1) (by simpa using hfs.2) (guardS_ok hi.act hg) (fun w => hrun ρ a w hi.act) ?_
          exact h ρ _ w ⟨putS_ok hi.act hput, hi.mem⟩ hf
      · cases ho
    · cases ho
  · cases ho
theorem At.slFirst {s : S} (hQ : ∀ e a w, Q e a w → e = .normal) (j : Nat) (A : Option Addr) (n c : Nat) (lo : Option Int) (h : Int) (size : Nat) (r : SV) (hq : (anyAt s j).bind (slQ P s.fr) = some (A, n, c, lo, h, size)) (hp : (anyPut ntm s j r).isSome = true) (h0 : 0 ≤ lo.getD 0) (h1 : lo.getD 0 ≤ h) (h2 : h ≤ c)
    (hr : ∀ ρ, r.den ρ = .slice (if c = (lo.getD 0).toNat then A else A.map (·.add ((lo.getD 0).toNat * size))) (h.toNat - (lo.getD 0).toNat) (c - (lo.getD 0).toNat))
    (hk : At P Q N w0 ntm F (s.anyNext ntm j r)) : At P Q N w0 ntm F s := by
  obtain ⟨o, ho, hq'⟩ := Option.bind_eq_some_iff.1 hq
  exact At.first hQ j o r ho hp (fun ρ a w hi => by rw [hr]; exact run_slQ hi hq' h0 h1 h2 w) hk
end
end Go.Sx
