/- Joined texts: FN, BM, BN, SxRw, AF, AG, AH, AK, TA, TB, BB, SxRo. -/
import Derived.Test.YtkjnbafdmjakgaaGreatDoorVAF
import Derived.WideMake
import Derived.Laws.Small
import Derived.Lib.Builder
import Derived.Lib.AppendStr
import Derived.Laws.Externs
import Derived.RangeFuncRecord
set_option linter.unusedSectionVars false
set_option linter.unusedSimpArgs false
set_option linter.unusedVariables false
section
namespace Go.Sx
open Go.RowKit
section
variable {P : Program} {ops : Array Oper} {md : Region.Mode} {Q : Exit → Act → World → Prop}
theorem wpAny_firstL (J : Array Bool → Act → World → Prop) (hQ : ∀ e a w, Q e a w → e = .normal) {i : Nat} {oi : Oper} {v : Value} (hi : ops[i]? = some oi) (hsel : ∀ (j : Nat) (o : Oper) cs b, ops[j]? = some o → o.op ≠ .select cs b)
  (hv : ∀ L a w, J L a w → (execOp a.eval oi).run P w = .ok (.value v) w) :
  ∀ (f : Nat) (listed : Array Bool) (a : Act) (w : World),
   (∀ j oj, ops[j]? = some oj → j ≠ i → listed.getD j true = false → (∀ e ∈ oj.after, Region.binds md e = true → e.on ≠ i) → oi.apart ops oj = true) →
   (∀ j oj, ops[j]? = some oj → j ≠ i → listed.getD j true = false → ∀ L a w, j ∈ Region.ready md ops L → J L a w → J (L.setIfInBounds j true) (a.put oj.dst undef) w ∧ ∀ n w', (execOp a.eval oj).run P w = .ok n w' → ∃ u, (n = .value u ∨ (n = .skip ∧ u = undef)) ∧ J (L.setIfInBounds j true) (a.put oj.dst u) w') →
   i ∈ Region.ready md ops listed → Region.wanted oi (yielded ops a.tmps) = true → J listed a w →
   wpAny P md ops Q f (listed.setIfInBounds i true) (a.put oi.dst v) w → wpAny P md ops Q (f + 1) listed a w := by
 intro f
 induction f with
 | zero =>
  intro listed a w _ _ hr hw hJ H
  refine ⟨fun h => (by rw [h] at hr; cases hr), fun j hj => ?_⟩
  by_cases hji : j = i
  ·subst hji
   unfold wpOp
   simp only [hi, hw, if_true]
   refine .inl ?_
   unfold Oper.wp
   rw [hv listed a w hJ]
   exact H
  have := ready_mono hj hji
  rw [H.1] at this
  cases this
 | succ f ih =>
  intro listed a w hfree hst hr hw hJ H
  refine ⟨fun h => (by rw [h] at hr; cases hr), fun j hj => ?_⟩
  by_cases hji : j = i
  ·subst hji
   unfold wpOp
   simp only [hi, hw, if_true]
   refine .inl ?_
   unfold Oper.wp
   rw [hv listed a w hJ]
   exact H
  have h1 := H.2 j (ready_mono hj hji)
  obtain ⟨hjun, oj, hoj, hall⟩ := mem_ready.1 hj
  have hnot : ∀ e ∈ oj.after, Region.binds md e = true → e.on ≠ i := fun e he hb heq => by
   have h1 := hall e he hb
   rw [heq, getD_both (mem_ready.1 hr).1] at h1
   cases h1
  have hap := hfree j oj hoj hji hjun hnot
  have h2 := wpOp_put hQ hoj hap (fun cs b => hsel j oj cs b hoj) h1
  obtain ⟨a1, a2, a3⟩ := Oper.apart_spec hap
  obtain ⟨hsk, hrun⟩ := hst j oj hoj hji hjun listed a w hj hJ
  unfold wpOp at h2 ⊢
  simp only [hoj] at h2 ⊢
  have step : ∀ (u : Value) (w' : World), J (listed.setIfInBounds j true) (a.put oj.dst u) w' → wpAny P md ops Q f ((listed.setIfInBounds i true).setIfInBounds j true) ((a.put oj.dst u).put oi.dst v) w' → wpAny P md ops Q (f + 1) (listed.setIfInBounds j true) (a.put oj.dst u) w' := by
   intro u w' hJ' hh
   refine ih (listed.setIfInBounds j true) (a.put oj.dst u) w' (fun k ok hk hki hun hno => ?_) (fun k ok hk hki hun => ?_) (ready_mono hr (Ne.symm hji)) ?_ hJ' ?_
   ·refine hfree k ok hk hki ?_ hno
    by_cases hjk : j = k
    ·subst hjk; exact hjun
    rw [getD_set_ne true hjk] at hun; exact hun
   ·refine hst k ok hk hki ?_
    by_cases hjk : j = k
    ·subst hjk; exact hjun
    rw [getD_set_ne true hjk] at hun; exact hun
   ·rw [wanted_put oi a oj.dst u a3]; exact hw
   rw [Array.setIfInBounds_comm _ _ hji]
   exact hh
  split
  ·rename_i hwj
   rw [if_pos hwj] at h2
   rcases h2 with h2 | ⟨_, a', w', h'⟩
   ·refine .inl ?_
    unfold Oper.wp at h2 ⊢
    generalize hrr : (execOp a.eval oj).run P w = r at *
    cases r with
    | ok n w' =>
     obtain ⟨u, hu, hJ'⟩ := hrun n w' rfl
     rcases hu with rfl | ⟨rfl, rfl⟩
     ·simp only [Oper.upon] at h2 ⊢
      exact step u w' hJ' h2
     simp only [Oper.upon] at h2 ⊢
     exact step undef w' hJ' h2
    | halt x w' =>
     cases x <;> simp only [Oper.upon] at h2 ⊢
     exact absurd (hQ _ _ _ h2) (by simp)
   exact absurd (hQ _ _ _ h') (by simp)
  rename_i hwj
  rw [if_neg hwj] at h2
  exact step undef w hsk h2
variable {N : Nat} {w0 : World} {ntm : Nat} {F : List Nat → World → Prop}
end
end Go.Sx
end
section
/-! A map of one's own: made, looked up, written. -/
namespace Go.Sx
open Go.RowKit
section
variable {P : Program} {Q : Exit → Act → World → Prop} {N : Nat} {w0 : World} {ntm : Nat} {F : List Nat → World → Prop}
def MapF (m : Nat) (es : Array MapEntry) (clk : Nat) (ρ : List Nat) (w : World) : Prop := w.heap[m]? = some (.map es clk) ∧ m ∉ ρ
theorem MapF.stable {m : Nat} {es : Array MapEntry} {clk : Nat} : Stable (MapF m es clk) := fun ρ w ρ' w' hg hk h => by
 have hlt := (Array.getElem?_eq_some_iff.1 h.1).1
 refine ⟨(hk.block m hlt h.2).trans h.1, fun hm => ?_⟩
 rcases hg.of_mem hm with h1 | h1
 ·exact h.2 h1
 omega
theorem MapF.fewer {m : Nat} {es : Array MapEntry} {clk : Nat} {ρ : List Nat} {w : World} (k : Nat) (h : MapF m es clk ρ w) : MapF m es clk (ρ.take k) w := ⟨h.1, fun hm => h.2 (List.mem_of_mem_take hm)⟩
def mkQ (o : Oper) : Bool := match o.op with | .makeMap _ none => true | _ => false
def mkI (ntm : Nat) (s : S) : Bool := match s.head?, s.dstOk ntm, s.plain with
 | some o, true, true => mkQ o
 | _, _, _ => false
theorem run_mkQ {o : Oper} {a : Act} {w : World} (h : mkQ o = true) : (execOp a.eval o).run P w = .ok (.value (.map (some w.heap.size))) (w.alloc (.map #[] 0)) := by
 obtain ⟨dst, op, ty, pos, after, guard⟩ := o
 unfold mkQ at h
 simp only at h
 split at h
 ·simp [execOp, run_makeMap_plain]
 cases h
theorem Keep.alloc (ρ : List Nat) (w : World) (o : Obj) : Keep ρ w (w.alloc o) :=
 .of_below ((Below.refl _ _).alloc (Nat.le_refl _) o)
theorem WInv.more {ρ : List Nat} {loc : Loc} {w : World} (h : WInv N w0 ρ loc w) (o : Obj) : WInv N w0 ρ loc (w.alloc o) := by
 have hs : w.heap.size ≤ (w.alloc o).heap.size := (Keep.alloc ρ w o).size
 refine ⟨h.below.alloc h.hN o, Nat.le_trans h.hN hs, h.len, h.nodup, fun b hb => ⟨(h.ge b hb).1, Nat.lt_of_lt_of_le (h.ge b hb).2 hs⟩, fun i c t hi => ?_⟩
 have hold := h.cells i c t hi
 rw [((Below.refl w.heap.size w).alloc (Nat.le_refl _) o).block _ (Array.getElem?_eq_some_iff.1 hold).1]
 exact hold
theorem At.mkMap {s : S} (hq : mkI ntm s = true) (hF : Stable F) (h : ∀ m, N ≤ m → At P Q N w0 ntm (fun ρ w => F ρ w ∧ MapF m #[] 0 ρ w) (s.tail ntm (.v (.map (some m))))) : At P Q N w0 ntm F s := by
 unfold mkI at hq
 split at hq
 ·rename_i o ho hd hp
  refine At.opx (X := { m : Nat // N ≤ m }) o (fun m => .v (.map (some m.1))) (fun m ρ w => F ρ w ∧ MapF m.1 #[] 0 ρ w) ho hd hp ?_ (fun m => h m.1 m.2)
  intro ρ a w hi hf
  refine ⟨⟨w.heap.size, hi.mem.hN⟩, w.alloc (.map #[] 0), run_mkQ hq, hi.mem.more _, hF ρ w ρ _ ⟨[], by simp, by simp⟩ (Keep.alloc ρ w _) hf, ?_, fun hm => ?_⟩
  ·rw [show (w.alloc _).heap = w.heap.push _ from rfl]
   simp
  have := (hi.mem.ge w.heap.size hm).2
  omega
 cases hq
def lkQ (P : Program) (fr : Fr) (o : Oper) : Option (Nat × SV × Value) := match o.op with
  | .lookup t x k false => match evalS fr x, evalS fr k, P.underlying t with
    | some (.v (.map (some m))), some sk, some (.map kt et) => match P.underlying kt, (P.info? et).bind TypeInfo.zero with
       | some .string, some z => some (m, sk, z)
       | _, _ => none
    | _, _, _ => none
  | _ => none
theorem run_zeroInfo {et : TypeId} {z : Value} (h : (P.info? et).bind TypeInfo.zero = some z) (w : World) : (zeroValue et).run P w = .ok z w := by
 obtain ⟨i, h1, h2⟩ := Option.bind_eq_some_iff.1 h
 simp [zeroValue, typeInfo, h1, Result.andThen, h2]
theorem run_lkQ {ρ : List Nat} {fr : Fr} {a : Act} (ha : AInv ntm ρ fr a) {o : Oper} {m : Nat} {sk : SV} {z : Value} (hq : lkQ P fr o = some (m, sk, z)) {k : ByteArray} (hk : sk.den ρ = .string k) {w : World} {es : Array MapEntry} {clk : Nat} (hb : w.heap[m]? = some (.map es clk))
  {r : Option (Nat × Value)} (hr : Instr.findNow .string (.string k) es.toList 0 = some r) : (execOp a.eval o).run P w = .ok (.value ((r.map (·.2)).getD z)) w := by
 obtain ⟨dst, op, ty, pos, after, guard⟩ := o
 unfold lkQ at hq
 simp only at hq
 split at hq
 ·split at hq
  ·rename_i m' sk' kt et hx hsk hu
   split at hq
   ·rename_i z' hkt hz
    simp only [Option.some.injEq, Prod.mk.injEq] at hq
    obtain ⟨rfl, rfl, rfl⟩ := hq
    have hc : ∀ b, (Instr.checkKey b 10000 kt (.string k)).run P w = .ok () w := fun b => MapKept.run_checkKey (k := .string k) hkt (by simp [MapKept.IsKey]) b 9999
    cases r with
    | none => simp [execOp, evalS_sound ha hx, evalS_sound ha hsk, hk, SV.den, Instr.lookup, run_underlying hu, MapKept.run_getObj_map hb, hc, MapKept.run_findKey hkt hr, run_zeroInfo hz, Result.andThen]
    | some iv => 
     obtain ⟨i, v⟩ := iv
     simp [execOp, evalS_sound ha hx, evalS_sound ha hsk, hk, SV.den, Instr.lookup, run_underlying hu, MapKept.run_getObj_map hb, hc, MapKept.run_findKey hkt hr, Result.andThen]
   cases hq
  cases hq
 cases hq
def lkI (P : Program) (ntm : Nat) (s : S) : Option (Nat × SV × Value) := match s.head?, s.dstOk ntm with
 | some o, true => lkQ P s.fr o
 | _, _ => none
theorem At.lk {s : S} (m : Nat) (sk : SV) (z : Value) (k : ByteArray) (es : Array MapEntry) (clk : Nat) (r : Option (Nat × Value)) (x : SV) (hq : lkI P ntm s = some (m, sk, z)) (hk : ∀ ρ, sk.den ρ = .string k) (hr : Instr.findNow .string (.string k) es.toList 0 = some r) (hx : ∀ ρ, x.den ρ = (r.map (·.2)).getD z)
  (hF : Stable F) (hm : ∀ ρ w, F ρ w → MapF m es clk ρ w) (h : At P Q N w0 ntm F (s.tail ntm x)) : At P Q N w0 ntm F s := by
 unfold lkI at hq
 split at hq
 ·rename_i o ho hd
  refine At.op hF o x ho hd ?_ h
  intro ρ a w hi hf
  rw [hx]
  exact run_lkQ hi.act hq (hk ρ) (hm ρ w hf).1 hr
 cases hq
def muQ (P : Program) (fr : Fr) (o : Oper) : Option (Nat × SV × SV) := match o.dst, o.op with
  | none, .mapUpdate t x k v => match evalS fr x, evalS fr k, evalS fr v, P.underlying t with
    | some (.v (.map (some m))), some sk, some sv, some (.map kt et) => match P.underlying kt with
       | some .string => some (m, sk, sv)
       | _ => none
    | _, _, _, _ => none
  | _, _ => none
def putM (k : ByteArray) (v : Value) (es : List MapEntry) (clk : Nat) : Option (Array MapEntry × Nat) := match es with
 | [] => some (#[{ key := .string k, val := v, born := clk }], clk + 1)
 | [⟨.string k', _, b⟩] => match k == k' with
  | true => some (#[{ key := .string k, val := v, born := b }], clk)
  | false => none
 | _ => none
theorem run_muQ {ρ : List Nat} {fr : Fr} {a : Act} (ha : AInv ntm ρ fr a) {o : Oper} {m : Nat} {sk sv : SV} (hq : muQ P fr o = some (m, sk, sv)) {k : ByteArray} (hk : sk.den ρ = .string k) {v : Value} (hv : sv.den ρ = v) {w : World} {es : List MapEntry} {clk : Nat} (hb : w.heap[m]? = some (.map es.toArray clk))
  {es' : Array MapEntry} {clk' : Nat} (hr : putM k v es clk = some (es', clk')) : o.dst = none ∧ (execOp a.eval o).run P w = .ok .skip { w with heap := w.heap.setIfInBounds m (.map es' clk') } := by
 obtain ⟨dst, op, ty, pos, after, guard⟩ := o
 unfold muQ at hq
 simp only at hq
 split at hq
 ·rename_i t x k0 v0
  split at hq
  ·rename_i m' sk' sv' kt et hx hsk hsv hu
   split at hq
   ·rename_i hkt
    simp only [Option.some.injEq, Prod.mk.injEq] at hq
    obtain ⟨rfl, rfl, rfl⟩ := hq
    refine ⟨rfl, ?_⟩
    unfold putM at hr
    split at hr
    ·simp only [Option.some.injEq, Prod.mk.injEq] at hr
     obtain ⟨rfl, rfl⟩ := hr
     simp only [execOp, evalS_sound ha hx, evalS_sound ha hsk, evalS_sound ha hsv, hk, hv, SV.den, Sem.run_bind, run_mapUpdate_first w _ _ _ _ _ _ _ hu hkt hb, Result.andThen_ok, Sem.run_pure]
    ·rename_i k' v' b
     split at hr
     ·rename_i hkk
      have hkk := (MapKept.bytes_beq _ _).1 hkk
      subst hkk
      simp only [Option.some.injEq, Prod.mk.injEq] at hr
      obtain ⟨rfl, rfl⟩ := hr
      have hf : Instr.findNow .string (.string k) [(⟨.string k, v', b⟩ : MapEntry)] 0 = some (some (0, v')) := by simp [Instr.findNow, Instr.sameNow, (MapKept.bytes_beq k k).2 rfl]
      have hc : (Instr.checkKey false 10000 kt (.string k)).run P w = .ok () w := MapKept.run_checkKey (k := .string k) hkt (by simp [MapKept.IsKey]) false 9999
      have hks : (Instr.keyThatStays (.string k) (.string k)).run P w = .ok (.string k) w := MapKept.run_keyThatStays (d := .string) (by simp [MapKept.IsKey])
      simp [execOp, evalS_sound ha hx, evalS_sound ha hsk, evalS_sound ha hsv, hk, hv, SV.den, Instr.mapUpdate, run_underlying hu, MapKept.run_getObj_map hb, hc, MapKept.run_findKey hkt hf, hks, MapKept.run_setObj_map _ hb, Result.andThen]
     cases hr
    cases hr
   cases hq
  cases hq
 cases hq
theorem WInv.setMap {ρ : List Nat} {loc : Loc} {w : World} (h : WInv N w0 ρ loc w) {m : Nat} (hN : N ≤ m) (hm : m ∉ ρ) (o : Obj) : WInv N w0 ρ loc { w with heap := w.heap.setIfInBounds m o } := by
 have hne : ∀ g, g ≠ m → (w.heap.setIfInBounds m o)[g]? = w.heap[g]? := fun g hg => by simp [Ne.symm hg]
 refine ⟨h.below.trans ⟨rfl, rfl, rfl, by simp, fun k hk => hne k (by omega)⟩, by simpa using h.hN, h.len, h.nodup, fun b hb => ⟨(h.ge b hb).1, by simpa using (h.ge b hb).2⟩, fun i c t hi => ?_⟩
 have hold := h.cells i c t hi
 have hmm : nth ρ i ∈ ρ := by
  have : i < ρ.length := by rw [h.len]; exact (List.getElem?_eq_some_iff.1 hi).1
  simp [nth, List.getD, this]
 rw [show ({ w with heap := w.heap.setIfInBounds m o } : World).heap = w.heap.setIfInBounds m o from rfl, hne _ (fun e => hm (e ▸ hmm))]
 exact hold
def muI (P : Program) (s : S) : Option (Nat × SV × SV) := match s.head?, s.plain with
 | some o, true => muQ P s.fr o
 | _, _ => none
theorem At.mapPut {G : List Nat → World → Prop} {s : S} (m : Nat) (sk sv : SV) (k : ByteArray) (v : Value) (es : List MapEntry) (clk : Nat) (es' : Array MapEntry) (clk' : Nat) (hq : muI P s = some (m, sk, sv)) (hk : ∀ ρ, sk.den ρ = .string k) (hv : ∀ ρ, sv.den ρ = v)
  (hr : putM k v es clk = some (es', clk')) (hN : N ≤ m) (hm : ∀ ρ w, F ρ w → MapF m es.toArray clk ρ w) (hG : ∀ ρ w, F ρ w → G ρ { w with heap := w.heap.setIfInBounds m (.map es' clk') })
  (h : At P Q N w0 ntm G s.past) : At P Q N w0 ntm F s := by
 unfold muI at hq
 split at hq
 ·rename_i o ho hpl
  obtain ⟨all, rest, h1, h2, h3⟩ := S.past_at ho hpl
  intro ρ act w hi hf
  obtain ⟨hb, hmr⟩ := hm ρ w hf
  obtain ⟨hd, hrun⟩ := run_muQ hi.act hq (hk ρ) (hv ρ) hb hr
  have hk' := h ρ act _ (by rw [h2]; exact ⟨hi.act, hi.mem.setMap hN hmr _⟩) (hG ρ w hf)
  rw [h2] at hk'
  rw [h1]
  show wpList P all _ (o :: rest) act w
  unfold wpList
  rw [if_pos (guardS_ok hi.act h3)]
  refine .inl ?_
  unfold Oper.wp
  rw [hrun, Oper.upon_skip, hd]
  exact hk'
 cases hq
theorem MapF.set {m : Nat} {es : Array MapEntry} {clk : Nat} {ρ : List Nat} {w : World} (h : MapF m es clk ρ w) (es' : Array MapEntry) (clk' : Nat) : MapF m es' clk' ρ { w with heap := w.heap.setIfInBounds m (.map es' clk') } :=
 ⟨(MapKept.heap_set h.1).1, h.2⟩
theorem Row.setMap {base e size : Nat} {A : Option Addr} {n c : Nat} {xs : List Value} {ρ : List Nat} {w : World} (h : Row base e size A n c xs ρ w) {m : Nat} {es : Array MapEntry} {clk : Nat} (hm : w.heap[m]? = some (.map es clk)) (o : Obj) : Row base e size A n c xs ρ { w with heap := w.heap.setIfInBounds m o } := by
 refine ⟨⟨h.1.1, ?_⟩, h.2⟩
 rcases h.1.2 with h2 | ⟨g, cap, cur, hv, hb, hc, hr⟩
 ·exact .inl h2
 refine .inr ⟨g, cap, cur, hv, hb, ?_, hr⟩
 rw [← hc]
 exact (MapKept.heap_set hm).2 g fun e => by subst e; rw [hm] at hc; cases hc
/-! ### whole elements stored into a row of one's own -/
def stnQ (P : Program) (fr : Fr) (o : Oper) : Option (Addr × List SV) :=
 match o.dst, o.op with
 | none, .store t x y => match evalS fr x, (evalS fr y).bind SV.cells?, sizeT P t with
  | some (.v (.pointer (some a))), some l, some n => match oneL l, Nat.beq l.length n with
   | true, true => some (a, l)
   | _, _ => none
  | _, _, _ => none
 | _, _ => none
theorem run_stnQ {ρ : List Nat} {fr : Fr} {a : Act} {w : World} (ha : AInv ntm ρ fr a) {o : Oper} {l : List SV} {b i : Nat} (h : stnQ P fr o = some (⟨b, i, none⟩, l)) (hc : ∀ j, j < l.length → (w.cell? ⟨b, i + j, none⟩).isSome = true) (hz : ∀ j, j < l.length → w.frozen? ⟨b, i + j, none⟩ = false) :
  o.dst = none ∧ (execOp a.eval o).run P w = .ok .skip (w.setCells b i (SV.denL ρ l)) := by
 obtain ⟨dst, op, ty, pos, after, guard⟩ := o
 unfold stnQ at h
 simp only at h
 split at h
 ·rename_i t x y
  split at h
  ·rename_i a' l' n' hx hy hn
   split at h
   ·rename_i hone hlen
    simp only [Option.some.injEq, Prod.mk.injEq] at h
    obtain ⟨rfl, rfl⟩ := h
    refine ⟨rfl, ?_⟩
    obtain ⟨s, hs, hcs⟩ := Option.bind_eq_some_iff.1 hy
    have hcells := SV.cells?_den (ρ := ρ) hcs
    have hlen := Nat.eq_of_beq_eq_true hlen
    have hl2 : (SV.denL ρ l').length = l'.length := by simp [SV.denL_eq]
    have hst := run_storeCells_cells (P := P) b i (SV.denL ρ l') 0 w (fun j hj => by simpa using hc j (by omega)) (fun j hj => by simp) (oneL_den hone)
    rw [Nat.add_zero] at hst
    unfold execOp
    simp only [evalS_sound ha hx, evalS_sound ha hs, SV.den, Instr.storeAt, Instr.sureAddr, storeVar, Sem.run_bind, Sem.run_pure, Result.andThen_ok, run_sizeT hn, hcells, List.size_toArray, hl2, hlen, ne_eq, not_true_eq_false, if_false, hst]
   cases h
  cases h
 cases h
theorem grown_trans {a b c : World} {row : Option Nat} (h : a.grownBy b row) (k : b.grownBy c row) : a.grownBy c row :=
 ⟨k.os.trans h.os, k.tape.trans h.tape, k.output.trans h.output, Nat.le_trans h.size k.size, fun i hi hn => (k.block i (Nat.lt_of_lt_of_le hi h.size) hn).trans (h.block i hi hn)⟩
theorem storedN {base e size n cap g : Nat} : ∀ (vs : List Value) (j : Nat) (w : World) (xs : List Value), w.ownsRow base e size (.slice (some ⟨g, 0, none⟩) n cap) n xs →
  ∃ xs', (w.setCells g j vs).ownsRow base e size (.slice (some ⟨g, 0, none⟩) n cap) n xs' ∧ w.grownBy (w.setCells g j vs) (some g)
 | [], j, w, xs, h => ⟨xs, h, rfl, rfl, rfl, Nat.le_refl _, fun _ _ _ => rfl⟩
 | v :: vs, j, w, xs, h => by
  obtain ⟨h1, h2⟩ := h.stored j v
  obtain ⟨xs', h3, h4⟩ := storedN vs (j + 1) _ _ h1
  exact ⟨xs', h3, grown_trans h2 h4⟩
def stnI (P : Program) (s : S) : Option (Addr × List SV) :=
 match s.head?, s.plain with
 | some o, true => stnQ P s.fr o
 | _, _ => none
theorem At.stRowN {s : S} {wb : World} {ok : Nat → Prop} {ρ0 : List Nat} {base e size n c : Nat} {a : Addr} {xs : List Value} (j : Nat) (p : Addr) (l : List SV) (hq : stnI P s = some (p, l)) (hp : p = a.add j) (hj : j + l.length ≤ n * size) (hN : N ≤ base)
  (h : ∀ ys, At P Q N w0 ntm (RowF wb ok ρ0 base e size (some a) n c ys) s.past) : At P Q N w0 ntm (RowF wb ok ρ0 base e size (some a) n c xs) s := by
 unfold stnI at hq
 split at hq
 ·rename_i o ho hpl
  obtain ⟨all, rest, h1, h2, h3⟩ := S.past_at ho hpl
  intro ρ act w hi hf
  obtain ⟨⟨hrow, hb⟩, hfr, hblk⟩ := hf
  have ha : a = ⟨a.block, 0, none⟩ := by
   rcases hrow.1.2 with ⟨h', _⟩ | ⟨g, cap, cur, hv, _⟩
   ·cases h'
   injection hv with hv _ _
   injection hv with hv
   rw [hv]
  generalize hg : a.block = g at ha
  subst ha
  have hlen : xs.length = n * size := hrow.1.1
  have hp' : p = ⟨g, j, none⟩ := by rw [hp, add_ok, Nat.zero_add]
  subst hp'
  obtain ⟨hd, hrun⟩ := run_stnQ hi.act hq (w := w) (fun k hk => by
   obtain ⟨g', hg', hcell⟩ := hrow.cell (j := j + k) (by omega)
   injection hg' with hg'
   injection hg' with hg' _ _
   subst hg'
   rw [hcell, List.getElem?_eq_getElem (by omega)]
   rfl) (fun k hk => hrow.1.frozenAt (j + k))
  obtain ⟨ys, hs1, hs2⟩ := storedN (SV.denL ρ l) j w xs hrow.1
  have hown : ∀ k, some g = some k → N ≤ k ∧ k ∉ ρ := fun k hk => by
   injection hk with hk
   subst hk
   exact ⟨Nat.le_trans hN (hrow.1.lt g rfl).1, hrow.2 g rfl⟩
  have hk := h ys ρ act _ (by rw [h2]; exact ⟨hi.act, hi.mem.grown hs2 hown⟩) ⟨⟨⟨hs1, hrow.2⟩, Nat.le_trans hb hs2.size⟩, hfr.grown hs2 fun k hk => hblk k (by injection hk with hk; subst hk; rfl), hblk⟩
  rw [h2] at hk
  rw [h1]
  show wpList P all _ (o :: rest) act w
  unfold wpList
  rw [if_pos (guardS_ok hi.act h3)]
  refine .inl ?_
  unfold Oper.wp
  rw [hrun, Oper.upon_skip, hd]
  exact hk
 cases hq
end
end Go.Sx
end
section
/-! In a region that draws its order: an operation that looks at memory, taken ahead of those that leave what was there as it was. -/
namespace Go.Sx
open Go.RowKit
section
variable {P : Program} {Q : Exit → Act → World → Prop} {N : Nat} {w0 : World} {ntm : Nat} {F : List Nat → World → Prop}
theorem run_buildSlice_ok {t : TypeId} {len : Nat} {parts : Array (Nat × Value)} {v : Value} {w w' : World} (h : (Instr.buildSlice t len parts).run P w = .ok v w') : ∃ o, w' = w.alloc o := by
 unfold Instr.buildSlice at h
 cases hu : P.underlying t with
 | none => simp [underlying, hu, Result.andThen] at h
 | some d =>
  cases d
  case slice e =>
   cases hi : P.info? e with
   | none => simp [run_underlying hu, sizeOf, typeInfo, hi, Result.andThen] at h
   | some i =>
    simp only [Sem.run_bind, run_underlying hu, sizeOf, typeInfo, run_program, hi, Result.andThen_ok, Sem.run_pure] at h
    by_cases hbig : len * i.size > 2 ^ 24
    ·rw [if_pos hbig] at h
     simp [Result.andThen] at h
    rw [if_neg hbig] at h
    by_cases h0 : len * i.size = 0
    ·rw [if_pos h0] at h
     simp only [Sem.run_bind, Sem.run_pure, Result.andThen_ok] at h
     split at h
     ·simp [newRow, Result.andThen] at h
      exact ⟨_, h.2.symm⟩
     simp [Result.andThen] at h
    rw [if_neg h0] at h
    cases hz : i.zero with
    | none => simp [zeroValue, typeInfo, run_program, hi, hz, Result.andThen] at h
    | some z =>
     simp only [Sem.run_bind, zeroValue, typeInfo, run_program, hi, hz, Sem.run_pure, Result.andThen_ok] at h
     split at h
     ·simp [newRow, Result.andThen] at h
      exact ⟨_, h.2.symm⟩
     simp [Result.andThen] at h
  all_goals simp [run_underlying hu, Result.andThen] at h
def hangs (all : Array Oper) (L : Array Bool) (i : Nat) (ds : List Nat) : Bool := ds.all fun k => !L.getD k true && (match all[k]? with
 | some o => o.after.toList.any fun e => Region.binds .any e && (Nat.beq e.on i || ds.contains e.on)
 | none => false)
def isBS (o : Oper) : Bool := match o.op with
 | .buildSlice .. => true
 | _ => false
theorem isBS_run {o : Oper} {a : Act} {w w' : World} {n : Go.Next} (h : isBS o = true) (hr : (execOp a.eval o).run P w = .ok n w') : ∃ v ob, n = .value v ∧ w' = w.alloc ob := by
 obtain ⟨dst, op, ty, pos, after, guard⟩ := o
 cases op <;> simp only [isBS] at h <;> try (cases h; done)
 rename_i t len parts
 simp only [execOp, Sem.run_bind] at hr
 generalize hq : (Instr.buildSlice t len (parts.map fun x => (x.1, a.eval x.2))).run P w = q at hr
 cases q with
 | halt x y => simp [Result.andThen] at hr
 | ok v y =>
  simp only [Result.andThen_ok, Sem.run_pure, Result.ok.injEq] at hr
  obtain ⟨rfl, rfl⟩ := hr
  obtain ⟨ob, rfl⟩ := run_buildSlice_ok hq
  exact ⟨v, ob, rfl, rfl⟩
def benign (P : Program) (sub : Fr) (loc : Loc) (o : Oper) : Bool := isBS o || (pureOp P loc sub o.op).isSome
def okB (P : Program) (all : Array Oper) (L : Array Bool) (fr : Fr) (loc : Loc) (i : Nat) (ds : List Nat) : Bool :=
 hangs all L i ds && (List.range all.size).all fun k => Nat.beq k i || (L.getD k true || (ds.contains k || (match all[k]? with
  | some o => benign P (drops ((unl all L).filterMap (·.dst)) fr) loc o
  | none => true)))
theorem WInv.later {ρ : List Nat} {loc : Loc} {w w' : World} (h : WInv N w0 ρ loc w) (hb : Below w.heap.size w w') : WInv N w0 ρ loc w' :=
 ⟨h.below.trans ⟨hb.os, hb.tape, hb.output, hb.size, fun k hk => hb.block k (Nat.lt_of_lt_of_le hk h.hN)⟩, Nat.le_trans h.hN hb.size, h.len, h.nodup, fun b hm => ⟨(h.ge b hm).1, Nat.lt_of_lt_of_le (h.ge b hm).2 hb.size⟩, fun i c t hi => by
  have := h.cells i c t hi
  rw [hb.block _ (Array.getElem?_eq_some_iff.1 this).1]
  exact this⟩
def restFr (s : S) : Fr := match s.pc with
 | .any all _ dn => drops ((unl all (listedOf all.size dn)).filterMap (·.dst)) s.fr
 | _ => []
def okS (P : Program) (s : S) (j : Nat) (ds : List Nat) : Bool := match s.pc with
 | .any all _ dn => okB P all (listedOf all.size dn) s.fr s.loc j ds
 | _ => false
theorem At.takeB {s : S} (hQ : ∀ e a w, Q e a w → e = .normal) (j : Nat) (o : Oper) (r : SV) (ds : List Nat) (ho : anyAt s j = some o) (hp : (anyPut ntm s j r).isSome = true)
  (hds : okS P s j ds = true)
  (hrun : ∀ ρ a w1 w, AInv ntm ρ (restFr s) a → WInv N w0 ρ s.loc w1 → F ρ w1 → Below w1.heap.size w1 w → (execOp a.eval o).run P w = .ok (.value (r.den ρ)) w) (h : At P Q N w0 ntm F (s.anyNext ntm j r)) : At P Q N w0 ntm F s := by
 obtain ⟨pc, ks, fr, loc⟩ := s
 unfold anyAt at ho
 simp only at ho
 split at ho
 ·rename_i all g dn
  split at ho
  ·rename_i o' ho'
   split at ho
   ·rename_i hg hfs
    simp only [Option.some.injEq] at ho
    subst ho
    simp only [Bool.and_eq_true] at hfs
    unfold S.anyNext at h
    unfold anyPut at h hp
    simp only [ho'] at h hp
    simp only [restFr, okS] at hrun hds
    rcases hput : putS ntm fr o'.dst r with _ | fr'
    ·rw [hput] at hp; cases hp
    rw [hput] at h
    simp only [Option.map_some, Option.getD_some] at h
    simp only [okB, Bool.and_eq_true] at hds
    obtain ⟨hd1, hd2⟩ := hds
    intro ρ a w hi hf
    have hjr : j ∈ Region.ready .any all (listedOf all.size dn) := by simpa using hfs.2
    have hj0 := (mem_ready.1 hjr).1
    refine wpAny_firstL (v := r.den ρ) (fun L a w' => AInv ntm ρ (drops ((unl all (listedOf all.size dn)).filterMap (·.dst)) fr) a ∧ (∀ k, k = j ∨ k ∈ ds → L.getD k true = false) ∧ Below w.heap.size w w') hQ ho' (Region.noSelect_spec hfs.1.2) ?_ g _ a w (Region.free_spec ho' hfs.1.1) ?_ hjr (guardS_ok hi.act hg) ⟨hi.act.drops_ _, ?_, Below.refl _ _⟩ ?_
    ·intro L a' w' ⟨h1, _, h3⟩
     exact hrun ρ a' w w' h1 hi.mem hf h3
    ·intro k ok hk hkj hun L a' w' hrd ⟨h1, h2, h3⟩
     obtain ⟨hku, ok', hok', hall⟩ := mem_ready.1 hrd
     rw [hk] at hok'
     simp only [Option.some.injEq] at hok'
     subst hok'
     have hnds : k ∉ ds := by
      intro hm
      have h4 := List.all_eq_true.1 hd1 k hm
      rw [hk] at h4
      simp only [Bool.and_eq_true] at h4
      obtain ⟨e, he, heb⟩ := List.any_eq_true.1 h4.2
      simp only [Bool.and_eq_true, Bool.or_eq_true] at heb
      have h5 := hall e (by simpa using he) heb.1
      have h6 := h2 e.on (by
       rcases heb.2 with h7 | h7
       ·exact .inl (Nat.eq_of_beq_eq_true h7)
       exact .inr (List.contains_iff_mem.1 h7))
      rw [getD_both h6] at h5
      cases h5
     have hL : ∀ k', k' = j ∨ k' ∈ ds → (L.setIfInBounds k true).getD k' true = false := fun k' hk' => by
      rw [getD_set_ne true (fun e => by
       subst e
       rcases hk' with h7 | h7
       ·exact hkj h7
       exact hnds h7)]
      exact h2 k' hk'
     have hmem := mem_unl hk hun
     have hd : ∀ t, ok.dst = some t → t ∈ (unl all (listedOf all.size dn)).filterMap (·.dst) := fun t ht => List.mem_filterMap.2 ⟨ok, hmem, ht⟩
     refine ⟨⟨h1.over hd _, hL, h3⟩, fun n w'' hr => ?_⟩
     have hb := List.all_eq_true.1 hd2 k (List.mem_range.2 (Array.getElem?_eq_some_iff.1 hk).1)
     rw [hk, hun] at hb
     simp only [Bool.or_eq_true, Bool.false_or] at hb
     have hb : benign P (drops ((unl all (listedOf all.size dn)).filterMap (·.dst)) fr) loc ok = true := by
      rcases hb with h7 | h7 | h7
      ·exact absurd (Nat.eq_of_beq_eq_true h7) hkj
      ·exact absurd (List.contains_iff_mem.1 h7) hnds
      exact h7
     simp only [benign, Bool.or_eq_true] at hb
     rcases hb with hb | hb
     ·obtain ⟨v, ob, rfl, rfl⟩ := isBS_run hb hr
      exact ⟨v, .inl rfl, h1.over hd v, hL, h3.alloc h3.size ob⟩
     obtain ⟨x, hx⟩ := Option.isSome_iff_exists.1 hb
     rw [run_pureOp (N := N) (w0 := w0) h1 (fun _ => hi.mem.later h3) hx] at hr
     simp only [Result.ok.injEq] at hr
     obtain ⟨rfl, rfl⟩ := hr
     exact ⟨_, .inl rfl, h1.over hd _, hL, h3⟩
    ·intro k hk
     rcases hk with rfl | hk
     ·exact hj0
     have h4 := List.all_eq_true.1 hd1 k hk
     simp only [Bool.and_eq_true, Bool.not_eq_true'] at h4
     exact h4.1
    exact h ρ _ w ⟨putS_ok hi.act hput, hi.mem⟩ hf
   cases ho
  cases ho
 cases ho
theorem At.takeLoad {s : S} (hQ : ∀ e a w, Q e a w → e = .normal) (j : Nat) (r : SV) (ds : List Nat) (hq : ((anyAt s j).bind fun o => pureOp P s.loc (restFr s) o.op) = some r) (hp : (anyPut ntm s j r).isSome = true) (hds : okS P s j ds = true)
  (h : At P Q N w0 ntm F (s.anyNext ntm j r)) : At P Q N w0 ntm F s := by
 obtain ⟨o, ho, hr⟩ := Option.bind_eq_some_iff.1 hq
 exact At.takeB hQ j o r ds ho hp hds (fun ρ a w1 w ha hw _ hb => run_pureOp ha (fun _ => hw.later hb) hr) h
theorem At.takeLk {s : S} (hQ : ∀ e a w, Q e a w → e = .normal) (j : Nat) (x : SV) (ds : List Nat) (m : Nat) (sk : SV) (z : Value) (k : ByteArray) (es : Array MapEntry) (clk : Nat) (r : Option (Nat × Value))
  (hq : ((anyAt s j).bind fun o => lkQ P (restFr s) o) = some (m, sk, z)) (hp : (anyPut ntm s j x).isSome = true) (hds : okS P s j ds = true)
  (hk : ∀ ρ, sk.den ρ = .string k) (hr : Instr.findNow .string (.string k) es.toList 0 = some r) (hx : ∀ ρ, x.den ρ = (r.map (·.2)).getD z) (hm : ∀ ρ w, F ρ w → MapF m es clk ρ w) (h : At P Q N w0 ntm F (s.anyNext ntm j x)) : At P Q N w0 ntm F s := by
 obtain ⟨o, ho, hl⟩ := Option.bind_eq_some_iff.1 hq
 refine At.takeB hQ j o x ds ho hp hds (fun ρ a w1 w ha hw hf hb => ?_) h
 obtain ⟨h1, h2⟩ := hm ρ w1 hf
 rw [hx]
 exact run_lkQ ha hl (hk ρ) ((hb.block m (Array.getElem?_eq_some_iff.1 h1).1).trans h1) hr
end
end Go.Sx
end
section
/- Several rows of one's own, each in memory of its own. -/
namespace Go.Sx
open Go.RowKit
structure Rw where
 e : Nat
 size : Nat
 A : Option Addr
 n : Nat
 c : Nat
 xs : List Value
def Rw.own (x : Rw) : Option Nat := (Value.slice x.A x.n x.c).ownBlock
def Apart (x y : Rw) : Prop := ∀ g, x.own = some g → y.own ≠ some g
theorem Apart.symm {x y : Rw} (h : Apart x y) : Apart y x := fun g hg he => h g he hg
def Rws (b : Nat) (L : List Rw) (ρ : List Nat) (w : World) : Prop := (∀ x ∈ L, Row b x.e x.size x.A x.n x.c x.xs ρ w) ∧ L.Pairwise Apart
theorem Rws.none (b : Nat) (ρ : List Nat) (w : World) : Rws b [] ρ w := ⟨fun x h => (by cases h), List.Pairwise.nil⟩
theorem Rws.stable {b : Nat} {L : List Rw} : Stable (Rws b L) := fun ρ w ρ' w' hg hk h => ⟨fun x hx => (h.1 x hx).keep hg hk, h.2⟩
theorem Rws.fewer {b : Nat} {L : List Rw} : FewerK 0 (Rws b L) := fun ρ w k _ h => ⟨fun x hx => Row.fewer _ _ _ _ _ _ _ ρ w k (h.1 x hx), h.2⟩
theorem Rws.perm {b : Nat} {L L' : List Rw} {ρ : List Nat} {w : World} (h : Rws b L ρ w) (hp : L'.Perm L) : Rws b L' ρ w :=
 ⟨fun x hx => h.1 x (hp.subset hx), (hp.pairwise_iff (fun h => Apart.symm h)).2 h.2⟩
theorem Rws.sub {b : Nat} {L L' : List Rw} {ρ : List Nat} {w : World} (h : Rws b L ρ w) (hs : L'.Sublist L) : Rws b L' ρ w := ⟨fun x hx => h.1 x (hs.subset hx), h.2.sublist hs⟩
theorem Rws.nil {b : Nat} {L : List Rw} {ρ : List Nat} {w : World} (h : Rws b L ρ w) (e size : Nat) : Rws b (⟨e, size, .none, 0, 0, []⟩ :: L) ρ w :=
 ⟨fun x hx => by
  rcases List.mem_cons.1 hx with rfl | hx
  ·exact Row.nil b e size ρ w
  exact h.1 x hx, List.pairwise_cons.2 ⟨fun y _ g hg => by simp [Rw.own, Value.ownBlock] at hg, h.2⟩⟩
theorem Rws.len {b : Nat} {L : List Rw} {x : Rw} {ρ : List Nat} {w : World} (h : Rws b L ρ w) (hx : x ∈ L) : x.xs.length = x.n * x.size := (h.1 x hx).1.1
theorem Rws.cap {b : Nat} {L : List Rw} {x : Rw} {ρ : List Nat} {w : World} (h : Rws b L ρ w) (hx : x ∈ L) : x.n ≤ x.c := by
 rcases (h.1 x hx).1.2 with ⟨h2, h3⟩ | ⟨g, cap, cur, hv, _, _, hnc, _⟩
 ·omega
 injection hv with _ _ hcc
 omega
theorem Rws.some {b : Nat} {L : List Rw} {x : Rw} {ρ : List Nat} {w : World} (h : Rws b L ρ w) (hx : x ∈ L) (hn : 0 < x.n) : ∃ a, x.A = Option.some a := by
 rcases (h.1 x hx).1.2 with ⟨h2, h3⟩ | ⟨g, cap, cur, hv, _⟩
 ·omega
 injection hv with hv _ _
 exact ⟨_, hv⟩
theorem Rws.isNil {b : Nat} {L : List Rw} {x : Rw} {ρ : List Nat} {w : World} (h : Rws b L ρ w) (hx : x ∈ L) (hA : x.A = Option.none) : x.n = 0 ∧ x.xs = [] := by
 rcases (h.1 x hx).1.2 with ⟨h2, h3⟩ | ⟨g, cap, cur, hv, _⟩
 ·exact ⟨h3, List.eq_nil_of_length_eq_zero (by rw [(h.1 x hx).1.1, h3, Nat.zero_mul])⟩
 injection hv with hv _ _
 rw [hA] at hv
 cases hv
theorem Rws.src {b : Nat} {L : List Rw} {x : Rw} {ρ : List Nat} {w : World} (h : Rws b L ρ w) (hx : x ∈ L) {a : Addr} (ha : x.A = Option.some a) : Src w a x.xs := by
 intro j u hj
 have hj' := (List.getElem?_eq_some_iff.1 hj).1
 obtain ⟨g, hg, hc⟩ := (h.1 x hx).cell (j := j) (by have := (h.1 x hx).1.1; omega)
 rw [ha] at hg
 injection hg with hg
 subst hg
 rw [add_ok, Nat.zero_add, hc]
 exact hj
theorem own_base' {w : World} {b b' e size n : Nat} {v : Value} {xs : List Value} (h : w.ownsRow b e size v n xs) (hb : b' ≤ b) : w.ownsRow b' e size v n xs := by
 refine ⟨h.1, ?_⟩
 rcases h.2 with h2 | ⟨g, cap, cur, hv, hg, h3⟩
 ·exact .inl h2
 exact .inr ⟨g, cap, cur, hv, Nat.le_trans hb hg, h3⟩
theorem Row.chg' {b e size : Nat} {A : Option Addr} {n c : Nat} {xs : List Value} {ρ : List Nat} {w w' : World} (h : Row b e size A n c xs ρ w) (hc : ∀ g, (Value.slice A n c).ownBlock = some g → w'.heap[g]? = w.heap[g]?) : Row b e size A n c xs ρ w' := by
 have hlt := h.1.lt
 refine ⟨⟨h.1.1, ?_⟩, h.2⟩
 rcases h.1.2 with h2 | ⟨g, cap, cur, hv, hb, hcur, hr⟩
 ·exact .inl h2
 have hg : (Value.slice A n c).ownBlock = some g := by rw [hv]; rfl
 exact .inr ⟨g, cap, cur, hv, hb, by rw [hc g hg]; exact hcur, hr⟩
theorem Rws.grown {b : Nat} {L : List Rw} {x y : Rw} {ρ : List Nat} {w w' : World} (h : Rws b (x :: L) ρ w) (hy : Row b y.e y.size y.A y.n y.c y.xs ρ w') (hg : w.grownBy w' x.own) (ho : y.own = x.own ∨ y.own = Option.some w.heap.size ∨ y.own = Option.none) : Rws b (y :: L) ρ w' := by
 obtain ⟨h1, h2⟩ := h
 have h2 := List.pairwise_cons.1 h2
 refine ⟨fun z hz => ?_, List.pairwise_cons.2 ⟨fun z hz g hg' he => ?_, h2.2⟩⟩
 ·rcases List.mem_cons.1 hz with rfl | hz
  ·exact hy
  have hz' := h1 z (List.mem_cons_of_mem _ hz)
  exact hz'.chg' fun g hg' => hg.block g (hz'.1.lt g hg').2 fun e => h2.1 z hz g e.symm hg'
 rcases ho with ho | ho | ho
 ·exact h2.1 z hz g (ho ▸ hg') he
 ·rw [ho] at hg'
  injection hg' with hg'
  have := ((h1 z (List.mem_cons_of_mem _ hz)).1.lt g he).2
  omega
 rw [ho] at hg'
 cases hg'
section
variable {P : Program} {Q : Exit → Act → World → Prop} {N : Nat} {w0 : World} {ntm : Nat} {F : List Nat → World → Prop}
variable [Md]
theorem At.rowCall {s : S} {L : List Rw} {e size : Nat} (g : FuncId) (vs : List SV) (xs : List Value) (rv : Option Addr → Nat → Nat → SV) (hc : s.call? = some (g, vs)) (hb : bodied P g = true) (hd : s.dstOk ntm = true) (hq : (match s.pc with | .ops .. => true | _ => false) = true)
  (hr : ∀ ρ w, WInv N w0 ρ s.loc w → Rws N L ρ w → Calls P g (SV.denL ρ vs).toArray w fun e' w' => ∃ A n c, e' = .returned ((rv A n c).den ρ) ∧ RowF w (fun _ => False) [] w.heap.size e size A n c xs [] w')
  (h : ∀ A n c, xs.length = n * size → At P Q N w0 ntm (Rws N (⟨e, size, A, n, c, xs⟩ :: L)) (s.tail ntm (rv A n c))) : At P Q N w0 ntm (Rws N L) s := by
 refine At.callx (X := Option Addr × Nat × Nat) Rws.stable g vs (fun x => rv x.1 x.2.1 x.2.2) (fun x ρ w => Rws N (⟨e, size, x.1, x.2.1, x.2.2, xs⟩ :: L) ρ w) (fun x => Rws.stable) hc hb hd hq (fun ρ a w hi hf => (hr ρ w hi.mem hf).mono ?_) (fun x => At.mono (F' := fun ρ w => Rws N (⟨e, size, x.1, x.2.1, x.2.2, xs⟩ :: L) ρ w ∧ xs.length = x.2.1 * size) (fun ρ w h => ⟨h.2, h.2.len (x := ⟨e, size, x.1, x.2.1, x.2.2, xs⟩) (List.mem_cons_self ..)⟩) (At.pure fun hl => h x.1 x.2.1 x.2.2 hl))
 rintro e' w' ⟨A, n, c, rfl, ⟨⟨h1, h2⟩, h3, h4⟩⟩
 have hbel : Below w.heap.size w w' := ⟨h3.1.os, h3.1.tape, h3.1.output, h3.1.size, fun k hk => h3.1.block k hk (fun h => h)⟩
 have hnew : ∀ g, (Value.slice A n c).ownBlock = some g → w.heap.size ≤ g := fun g hg => (h4 g hg).resolve_left fun h => h
 refine ⟨(A, n, c), rfl, hbel, fun x hx => ?_, List.pairwise_cons.2 ⟨fun y hy g hg => ?_, hf.2⟩⟩
 ·rcases List.mem_cons.1 hx with rfl | hx
  ·refine ⟨own_base' h1.1 hi.mem.hN, fun g hg hm => ?_⟩
   have h5 := hnew g hg
   have h6 := (hi.mem.ge g hm).2
   omega
  exact (hf.1 x hx).keep (Grow.refl _ _) (Keep.of_below hbel)
 intro he
 have h5 := hnew g hg
 have h6 := ((hf.1 y hy).1.lt g he).2
 omega
theorem At.appR {s : S} (e size bytes : Nat) (A : Option Addr) (n c : Nat) (B : Option Addr) (m k : Nat) (xs news : List Value) (L : List Rw) (hq : outI P ntm s = some (e, size, bytes, A, n, c, B, m, k)) (hl : news.length = m * size) (h1 : ∀ u ∈ news, u.oneCell' = true)
  (hn : B = none → m = 0) (hsrc : ∀ b, B = some b → ∀ ρ w, WInv N w0 ρ s.loc w → Rws N (⟨e, size, A, n, c, xs⟩ :: L) ρ w → Src w b news)
  (hbytes : (n + m) * bytes ≤ 140737488355328) (h63 : n + m ≤ maxLen)
  (h : ∀ (A' : Option Addr) (c' : Nat), n + m ≤ c' → At P Q N w0 ntm (Rws N (⟨e, size, A', n + m, c', xs ++ news⟩ :: L)) (s.tail ntm (.sl A' (n + m) c'))) : At P Q N w0 ntm (Rws N (⟨e, size, A, n, c, xs⟩ :: L)) s := by
 unfold outI at hq
 obtain ⟨⟨o, t, e', size', bytes', A', n', c', B', m', k'⟩, hq1, hq2⟩ := Option.map_eq_some_iff.1 hq
 simp only [Prod.mk.injEq] at hq2
 obtain ⟨rfl, rfl, rfl, rfl, rfl, rfl, rfl, rfl, rfl⟩ := hq2
 unfold outQ at hq1
 split at hq1
 ·rename_i o' ho
  split at hq1
  ·rename_i t' A1 n1 c1 sy ha
   split at hq1
   ·rename_i e1 size1 bytes1 B1 m1 k1 ht hsy hpd
    simp only [Option.some.injEq, Prod.mk.injEq] at hq1
    obtain ⟨rfl, rfl, rfl, rfl, rfl, rfl, rfl, rfl, rfl, rfl, rfl⟩ := hq1
    simp only [Bool.and_eq_true] at hpd
    refine At.opx o' (fun x : Option Addr × Nat => .sl x.1 (n1 + m1) x.2) (fun x ρ w => Rws N (⟨e1, size1, x.1, n1 + m1, x.2, xs ++ news⟩ :: L) ρ w) ho hpd.2 hpd.1 ?_ (fun x => At.mono (F' := fun ρ w => Rws N (⟨e1, size1, x.1, n1 + m1, x.2, xs ++ news⟩ :: L) ρ w ∧ n1 + m1 ≤ x.2) (fun ρ w h => ⟨h, h.cap (x := ⟨e1, size1, x.1, n1 + m1, x.2, xs ++ news⟩) (List.mem_cons_self ..)⟩) (At.pure fun hl => h x.1 x.2 hl))
    intro ρ a w hi hf
    have hrow := hf.1 _ (List.mem_cons_self ..)
    have hden : sy.den ρ = .slice B1 m1 k1 := by rw [← SV.asSl_den, hsy]; rfl
    cases B1 with
    | some b =>
     obtain ⟨A', c', w', r1, r2, r3, r4⟩ := run_append_row (P := P) (ty := o'.type) ht hrow hi.mem.hN (fun b hb => (hi.mem.ge b hb).2) b m1 k1 news hl (hsrc b rfl ρ w hi.mem hf) h1 hbytes h63
     exact ⟨(A', c'), w', run_appS hi.act ha (by rw [hden]; exact r1), hi.mem.grown r3 (fun g hg => ⟨(hrow.1.lt g hg).1, hrow.2 g hg⟩), hf.grown r2 r3 (r4.imp id .inl)⟩
    | none =>
     obtain rfl := hn rfl
     have hnil : news = [] := List.eq_nil_of_length_eq_zero (by rw [hl, Nat.zero_mul])
     subst hnil
     have hr := run_append_none (P := P) t' o'.type e1 size1 bytes1 ht N A1 n1 c1 xs w hrow.1 k1
     refine ⟨(A1, c1), w, run_appS hi.act ha (by rw [hden]; exact hr), hi.mem, ?_⟩
     rw [List.append_nil]
     exact hf
   cases hq1
  cases hq1
 cases hq1
theorem At.appV {s : S} (t e size bytes : Nat) (A : Option Addr) (n c m : Nat) (nl : List SV) (xs news : List Value) (L : List Rw) (hq : appI P ntm s = some ⟨t, e, size, bytes, A, n, c, m, nl⟩) (hnews : ∀ ρ, SV.denL ρ nl = news)
  (hbytes : (n + m) * bytes ≤ 140737488355328) (h63 : n + m ≤ maxLen)
  (h : ∀ (A' : Option Addr) (c' : Nat), n + m ≤ c' → At P Q N w0 ntm (Rws N (⟨e, size, A', n + m, c', xs ++ news⟩ :: L)) (s.tail ntm (.sl A' (n + m) c'))) : At P Q N w0 ntm (Rws N (⟨e, size, A, n, c, xs⟩ :: L)) s := by
 unfold appI at hq
 obtain ⟨⟨o, q', i, off, k, cells, ct⟩, h1, h2⟩ := Option.map_eq_some_iff.1 hq
 simp only at h2
 subst h2
 unfold appQ at h1
 split at h1
 ·rename_i o' ho
  split at h1
  ·rename_i t' A1 n1 c1 i' off' m' k' ha
   split at h1
   ·rename_i e1 size1 bytes1 cells' ct' ht hl
    split at h1
    ·rename_i hb
     simp only [Option.some.injEq, Prod.mk.injEq, AppQ.mk.injEq] at h1
     obtain ⟨rfl, ⟨rfl, rfl, rfl, rfl, rfl, rfl, rfl, rfl, rfl⟩, rfl, rfl, rfl, rfl, rfl⟩ := h1
     simp only [Bool.and_eq_true] at hb
     refine At.opx o' (fun x : Option Addr × Nat => .sl x.1 (n1 + m') x.2) (fun x ρ w => Rws N (⟨e1, size1, x.1, n1 + m', x.2, xs ++ news⟩ :: L) ρ w) ho hb.2 hb.1.1 ?_ (fun x => At.mono (F' := fun ρ w => Rws N (⟨e1, size1, x.1, n1 + m', x.2, xs ++ news⟩ :: L) ρ w ∧ n1 + m' ≤ x.2) (fun ρ w h => ⟨h, h.cap (x := ⟨e1, size1, x.1, n1 + m', x.2, xs ++ news⟩) (List.mem_cons_self ..)⟩) (At.pure fun hl => h x.1 x.2 hl))
     intro ρ a w hi hf
     have hrow := hf.1 _ (List.mem_cons_self ..)
     have hle := hb.1.2.1
     have hlen : news.length = m' * size1 := by
      rw [← hnews ρ]
      have := Nat.le_of_ble_eq_true hle
      simp [SV.denL_eq]; omega
     obtain ⟨A', c', w', r1, r2, r3, r4⟩ := run_append_row (P := P) (ty := o'.type) ht hrow hi.mem.hN (fun b hb => (hi.mem.ge b hb).2) ⟨nth ρ i', off', none⟩ m' k' news hlen (fun j u hj => by
       rw [add_ok, cell_of_loc hi.mem hl]
       rw [← hnews ρ] at hj
       have hjn : j < m' * size1 := by
        have := (List.getElem?_eq_some_iff.1 hj).1
        simp [SV.denL_eq] at this
        omega
       simpa [SV.denL_eq, List.getElem?_take, hjn, List.getElem?_drop] using hj) (by rw [← hnews ρ]; exact oneL_den hb.1.2.2) hbytes h63
     exact ⟨(A', c'), w', run_appS hi.act ha r1, hi.mem.grown r3 (fun g hg => ⟨(hrow.1.lt g hg).1, hrow.2 g hg⟩), hf.grown r2 r3 (r4.imp id .inl)⟩
    cases h1
   cases h1
  cases h1
 cases h1
theorem At.join {σ : Type} {s : S} (G : σ → List Nat → World → Prop) (s' : σ → S) (h1 : (∀ x, At P Q N w0 ntm (G x) (s' x)) → At P Q N w0 ntm F s) (h2 : ∀ x, At P Q N w0 ntm (G x) (s' x)) : At P Q N w0 ntm F s := h1 h2
theorem src_pre {w : World} {a : Addr} {xs ys : List Value} (h : Src w a (xs ++ ys)) : Src w a xs := fun j u hj => h j u (by rw [List.getElem?_append_left (List.getElem?_eq_some_iff.1 hj).1]; exact hj)
end
end Go.Sx
end
section
/-! A region that draws its order: each operation's value by itself, whatever went before. -/
namespace Go.Sx
open Go.RowKit
inductive Kn where
 | eq (s : SV)
 | ex (X : Type) (r : X → SV) (G : X → List Nat → World → Prop)
def Kn.ok : Kn → List Nat → World → Value → Prop
 | .eq s, ρ, _, v => v = s.den ρ
 | .ex _ r G, ρ, w, v => ∃ x, v = (r x).den ρ ∧ G x ρ w
def Kn.St : Kn → Prop
 | .eq _ => True
 | .ex _ _ G => ∀ x, Stable (G x)
theorem Kn.ok.keep {k : Kn} (hs : k.St) {ρ : List Nat} {w w' : World} {v : Value} (h : k.ok ρ w v) (hb : Below w.heap.size w w') : k.ok ρ w' v := by
 cases k with
 | eq s => exact h
 | ex X r G =>
  obtain ⟨x, hx, hg⟩ := h
  exact ⟨x, hx, hs x ρ w ρ w' (Grow.refl _ _) (Keep.of_below hb) hg⟩
def knOf : List (Nat × Kn) → Nat → Option Kn
 | [], _ => none
 | (k, s) :: l, t => match Nat.beq k t with | true => some s | false => knOf l t
def Done (all : Array Oper) (L0 : Array Bool) (kn : List (Nat × Kn)) (ρ : List Nat) (L : Array Bool) (a : Act) (w : World) : Prop :=
 ∀ i o t k, all[i]? = some o → L0.getD i true = false → L.getD i true = true → o.dst = some t → knOf kn i = some k → ∃ v, a.tmps[t]? = some v ∧ k.ok ρ w v
def eqFr (all : Array Oper) (L0 : Array Bool) (kn : List (Nat × Kn)) : List Nat → Fr → Fr
 | [], fr => fr
 | i :: l, fr => match L0.getD i true, all[i]?, knOf kn i with
  | false, some ⟨some t, _, _, _, _, _⟩, some (.eq s) => (t, s) :: eqFr all L0 kn l fr
  | _, _, _ => eqFr all L0 kn l fr
def onsOf (o : Oper) : List Nat := (o.after.toList.filter (Region.binds .any)).map (·.on)
theorem AInv.moreK {ntm : Nat} {ρ : List Nat} {fr : Fr} {a : Act} (h : AInv ntm ρ fr a) {t : Nat} {s : SV} (hs : a.tmps[t]? = some (s.den ρ)) : AInv ntm ρ ((t, s) :: fr) a := by
 refine ⟨h.defers, h.size, fun t' s' hl => ?_⟩
 simp only [look] at hl
 split at hl
 ·rename_i e
  have e := Nat.eq_of_beq_eq_true e
  subst e
  simp only [Option.some.injEq] at hl
  subst hl
  exact hs
 exact h.slot t' s' hl
theorem Done.fr {all : Array Oper} {L0 L : Array Bool} {kn : List (Nat × Kn)} {ρ : List Nat} {a : Act} {w : World} {ntm : Nat} {fr : Fr} (hd : Done all L0 kn ρ L a w) (ha : AInv ntm ρ fr a) : ∀ (l : List Nat), (∀ i ∈ l, L0.getD i true = false → L.getD i true = true) → AInv ntm ρ (eqFr all L0 kn l fr) a
 | [], _ => ha
 | i :: l, hl => by
  have ih := hd.fr ha l fun j hj => hl j (List.mem_cons_of_mem _ hj)
  unfold eqFr
  split
  ·rename_i h1 t op ty pos af g s h2 h3 h4
   obtain ⟨v, hv, hk⟩ := hd i _ t _ h3 h2 (hl i (List.mem_cons_self ..) h2) rfl h4
   exact ih.moreK (by rw [hv]; exact congrArg some hk)
  exact ih
section
variable {P : Program} {Q : Exit → Act → World → Prop} {N : Nat} {w0 : World} {ntm : Nat} {F : List Nat → World → Prop}
def StepK (P : Program) (N : Nat) (w0 : World) (ntm : Nat) (F : List Nat → World → Prop) (all : Array Oper) (L0 : Array Bool) (kn : List (Nat × Kn)) (fr0 : Fr) (loc : Loc) (i : Nat) : Prop :=
 ∀ o k, all[i]? = some o → knOf kn i = some k → ∀ ρ L a w, AInv ntm ρ (eqFr all L0 kn (onsOf o) fr0) a → Done all L0 kn ρ L a w → (∀ j ∈ onsOf o, L.getD j true = true) → WInv N w0 ρ loc w → F ρ w →
  Region.wanted o (yielded all a.tmps) = true ∧ o.wp P a w (fun a' w' => ∃ v, a' = a.put o.dst v ∧ k.ok ρ w' v ∧ Below w.heap.size w w') (fun _ _ _ => False)
def pureK (P : Program) (all : Array Oper) (L0 : Array Bool) (kn : List (Nat × Kn)) (fr0 : Fr) (loc : Loc) (i : Nat) : Option SV :=
 match all[i]? with
 | some o => match guardS all (eqFr all L0 kn (onsOf o) fr0) o with
  | some true => pureOp P loc (eqFr all L0 kn (onsOf o) fr0) o.op
  | _ => none
 | none => none
theorem StepK.pure {all : Array Oper} {L0 : Array Bool} {kn : List (Nat × Kn)} {fr0 : Fr} {loc : Loc} {i : Nat} {s : SV} (hs : pureK P all L0 kn fr0 loc i = some s) (hk : knOf kn i = some (.eq s)) : StepK P N w0 ntm F all L0 kn fr0 loc i := by
 intro o k ho hk' ρ L a w ha hd hl hw hf
 rw [hk] at hk'
 simp only [Option.some.injEq] at hk'
 subst hk'
 unfold pureK at hs
 simp only [ho] at hs
 split at hs
 ·rename_i hg
  refine ⟨guardS_ok ha hg, ?_⟩
  unfold Oper.wp
  rw [run_pureOp (N := N) (w0 := w0) ha (fun _ => hw) hs]
  exact ⟨_, rfl, rfl, Below.refl _ _⟩
 cases hs
def atK (all : Array Oper) (L0 : Array Bool) (kn : List (Nat × Kn)) (fr0 : Fr) (i : Nat) : Option (Oper × Fr) :=
 match all[i]? with
 | some o => match guardS all (eqFr all L0 kn (onsOf o) fr0) o with
  | some true => some (o, eqFr all L0 kn (onsOf o) fr0)
  | _ => none
 | none => none
theorem StepK.run {all : Array Oper} {L0 : Array Bool} {kn : List (Nat × Kn)} {fr0 fr : Fr} {loc : Loc} {i : Nat} {o : Oper} {s : SV} (ho : atK all L0 kn fr0 i = some (o, fr)) (hk : knOf kn i = some (.eq s))
  (hr : ∀ ρ a w, AInv ntm ρ fr a → WInv N w0 ρ loc w → F ρ w → (execOp a.eval o).run P w = .ok (.value (s.den ρ)) w) : StepK P N w0 ntm F all L0 kn fr0 loc i := by
 intro o' k ho' hk' ρ L a w ha hd hl hw hf
 rw [hk] at hk'
 simp only [Option.some.injEq] at hk'
 subst hk'
 unfold atK at ho
 simp only [ho'] at ho
 split at ho
 ·rename_i hg
  simp only [Option.some.injEq, Prod.mk.injEq] at ho
  obtain ⟨rfl, rfl⟩ := ho
  refine ⟨guardS_ok ha hg, ?_⟩
  unfold Oper.wp
  rw [hr ρ a w ha hw hf]
  exact ⟨_, rfl, rfl, Below.refl _ _⟩
 cases ho
def exAt (all : Array Oper) (L0 : Array Bool) (i j : Nat) : Option Nat :=
 match all[i]?, all[j]?, L0.getD j true with
 | some o, some oj, false => match (onsOf o).contains j with
  | true => oj.dst
  | false => none
 | _, _, _ => none
theorem StepK.call {all : Array Oper} {L0 : Array Bool} {kn : List (Nat × Kn)} {fr0 : Fr} {loc : Loc} {i : Nat} {k : Kn} (g : FuncId) (vs : List SV) (hq : ((atK all L0 kn fr0 i).bind fun x => callS x.2 x.1) = some (g, vs)) (hk : knOf kn i = some k) (hb : bodied P g = true)
  (hr : ∀ ρ w, WInv N w0 ρ loc w → F ρ w → Calls P g (SV.denL ρ vs).toArray w fun e w' => ∃ v, e = .returned v ∧ k.ok ρ w' v ∧ Below w.heap.size w w') : StepK P N w0 ntm F all L0 kn fr0 loc i := by
 obtain ⟨⟨o, fr⟩, ho, hc⟩ := Option.bind_eq_some_iff.1 hq
 intro o' k' ho' hk' ρ L a w ha hd hl hw hf
 rw [hk] at hk'
 simp only [Option.some.injEq] at hk'
 subst hk'
 unfold atK at ho
 simp only [ho'] at ho
 split at ho
 ·rename_i hg
  simp only [Option.some.injEq, Prod.mk.injEq] at ho
  obtain ⟨rfl, rfl⟩ := ho
  refine ⟨guardS_ok ha hg, ?_⟩
  unfold Oper.wp
  rw [run_callS ha hc hb]
  refine (hr ρ w hw hf).mono ?_
  rintro e w' ⟨v, rfl, h1, h2⟩
  exact ⟨v, rfl, h1, h2⟩
 cases ho
def cntL (n : Nat) (L : Array Bool) : Nat := ((List.range n).filter fun j => !L.getD j true).length
theorem cntL_set {n i : Nat} {L : Array Bool} (hi : i < n) (h : L.getD i true = false) : cntL n (L.setIfInBounds i true) < cntL n L := by
 have hsz : i < L.size := by
  rcases Nat.lt_or_ge i L.size with h' | h'
  ·exact h'
  simp [Array.getElem?_eq_none h'] at h
 have hs : ((List.range n).filter fun j => !(L.setIfInBounds i true).getD j true).Sublist ((List.range n).filter fun j => !L.getD j true) := by
  have e : ((List.range n).filter fun j => !(L.setIfInBounds i true).getD j true) = ((List.range n).filter fun j => !L.getD j true).filter fun j => !(L.setIfInBounds i true).getD j true := by
   rw [List.filter_filter]
   refine List.filter_congr fun j _ => ?_
   by_cases hij : i = j
   ·subst hij; simp [hsz]
   rw [getD_set_ne true hij]; simp
  rw [e]
  exact List.filter_sublist
 unfold cntL
 refine Nat.lt_of_le_of_ne hs.length_le fun e => ?_
 have := hs.eq_of_length e
 have hm : i ∈ ((List.range n).filter fun j => !L.getD j true) := List.mem_filter.2 ⟨List.mem_range.2 hi, by rw [h]; rfl⟩
 rw [← this] at hm
 have := (List.mem_filter.1 hm).2
 simp [hsz] at this
def fwd (all : Array Oper) : Bool := (List.range all.size).all fun i => match all[i]? with
 | some o => (onsOf o).all fun j => Nat.blt j i
 | none => true
theorem ready_nil {all : Array Oper} {L : Array Bool} (hf : fwd all = true) (hs : L.size = all.size) (h : Region.ready .any all L = []) : ∀ i, L.getD i true = true := by
 intro i
 induction i using Nat.strongRecOn with
 | _ i ih =>
  cases hi : L.getD i true with
  | true => rfl
  | false =>
   have hlt : i < L.size := by
    rcases Nat.lt_or_ge i L.size with h' | h'
    ·exact h'
    simp [Array.getElem?_eq_none h'] at hi
   have ho : all[i]? = some all[i] := Array.getElem?_eq_getElem (by omega)
   have hm : i ∈ Region.ready .any all L := by
    refine mem_ready.2 ⟨hi, _, ho, fun e he hb => ?_⟩
    have h1 := List.all_eq_true.1 hf i (List.mem_range.2 (by omega))
    rw [ho] at h1
    have h2 := List.all_eq_true.1 h1 e.on (List.mem_map.2 ⟨e, List.mem_filter.2 ⟨by simpa using he, hb⟩, rfl⟩)
    have h3 : e.on < i := by simpa using h2
    have h4 := ih e.on h3
    have hlt2 : e.on < L.size := by omega
    simpa [Array.getElem?_eq_getElem hlt2] using h4
   rw [h] at hm
   cases hm
def pendL (n : Nat) (L0 : Array Bool) : List Nat := (List.range n).filter fun j => !L0.getD j true
def okK (ntm : Nat) (all : Array Oper) (g : Nat) (L0 : Array Bool) (kn : List (Nat × Kn)) : Bool :=
 fwd all && (Nat.beq L0.size all.size && (Nat.ble (cntL all.size L0) g && ((pendL all.size L0).all (fun i => (knOf kn i).isSome && (match all[i]? with
  | some o => match o.dst with
   | some t => Nat.blt t ntm
   | none => false
  | none => false)) && decide (((pendL all.size L0).filterMap fun i => (all[i]?).bind (·.dst)).Nodup))))
theorem nodup_ne {l : List Nat} {f : Nat → Option Nat} (h : (l.filterMap f).Nodup) {i j t : Nat} (hi : i ∈ l) (hj : j ∈ l) (hij : i ≠ j) (h1 : f i = some t) : f j ≠ some t := by
 induction l with
 | nil => cases hi
 | cons x l ih =>
  intro h2
  rw [List.filterMap_cons] at h
  rcases List.mem_cons.1 hi with hi2 | hi2
  ·subst hi2
   rcases List.mem_cons.1 hj with hj2 | hj2
   ·exact hij hj2.symm
   rw [h1] at h
   exact (List.nodup_cons.1 h).1 (List.mem_filterMap.2 ⟨j, hj2, h2⟩)
  rcases List.mem_cons.1 hj with hj2 | hj2
  ·subst hj2
   rw [h2] at h
   exact (List.nodup_cons.1 h).1 (List.mem_filterMap.2 ⟨i, hi2, h1⟩)
  refine ih ?_ hi2 hj2 h2
  cases hx : f x with
  | none => rw [hx] at h; exact h
  | some y => rw [hx] at h; exact (List.nodup_cons.1 h).2
theorem drawn_all {all : Array Oper} {g : Nat} {L0 : Array Bool} {kn : List (Nat × Kn)} {fr0 : Fr} {ds : List Nat} {fr : Fr} {loc : Loc} (hfr : fr0 = drops ds fr) (hds : ∀ o ∈ unl all L0, ∀ t, o.dst = some t → t ∈ ds) (hok : okK ntm all g L0 kn = true) (hF : Stable F) (hkn : ∀ i k, knOf kn i = some k → k.St)
  (hst : ∀ i, L0.getD i true = false → i < all.size → StepK P N w0 ntm F all L0 kn fr0 loc i) {ρ : List Nat} {Q : Exit → Act → World → Prop}
  (hQ : ∀ a w, AInv ntm ρ fr0 a → Done all L0 kn ρ (Array.replicate all.size true) a w → WInv N w0 ρ loc w → F ρ w → Q .normal a w) :
  ∀ (f : Nat) (L : Array Bool) (a : Act) (w : World), L.size = all.size → (∀ i, L0.getD i true = true → L.getD i true = true) → cntL all.size L ≤ f → AInv ntm ρ fr0 a → Done all L0 kn ρ L a w → WInv N w0 ρ loc w → F ρ w → wpAny P .any all Q f L a w := by
 simp only [okK, Bool.and_eq_true] at hok
 obtain ⟨hfw, hs0, _, hp, hnd⟩ := hok
 have hend : ∀ (L : Array Bool) (a : Act) (w : World), L.size = all.size → Region.ready .any all L = [] → AInv ntm ρ fr0 a → Done all L0 kn ρ L a w → WInv N w0 ρ loc w → F ρ w → Q .normal a w := fun L a w hsz hr ha hd hw hf =>
  hQ a w ha (fun i o t k h1 h2 _ h4 h5 => hd i o t k h1 h2 (ready_nil hfw hsz hr i) h4 h5) hw hf
 intro f
 induction f with
 | zero =>
  intro L a w hsz hsub hc ha hd hw hf
  have hr : Region.ready .any all L = [] := by
   refine List.eq_nil_iff_forall_not_mem.2 fun i hi => ?_
   obtain ⟨h1, o, ho, _⟩ := mem_ready.1 hi
   have := cntL_set (Array.getElem?_eq_some_iff.1 ho).1 h1
   omega
  exact ⟨hr, hend L a w hsz hr ha hd hw hf⟩
 | succ f ih =>
  intro L a w hsz hsub hc ha hd hw hf
  refine ⟨fun hr => hend L a w hsz hr ha hd hw hf, fun i hi => ?_⟩
  obtain ⟨h1, o, ho, hall⟩ := mem_ready.1 hi
  have hlt := (Array.getElem?_eq_some_iff.1 ho).1
  have h0 : L0.getD i true = false := by
   cases h : L0.getD i true with
   | false => rfl
   | true => rw [hsub i h] at h1; cases h1
  have hpi : i ∈ pendL all.size L0 := List.mem_filter.2 ⟨List.mem_range.2 hlt, by rw [h0]; rfl⟩
  have hpp := List.all_eq_true.1 hp i hpi
  rw [ho] at hpp
  simp only [Bool.and_eq_true] at hpp
  obtain ⟨hkk, hdst⟩ := hpp
  obtain ⟨k, hk⟩ := Option.isSome_iff_exists.1 hkk
  obtain ⟨t, ht, htn⟩ : ∃ t, o.dst = some t ∧ t < ntm := by
   split at hdst
   ·rename_i t ht
    exact ⟨t, ht, by simpa using hdst⟩
   cases hdst
  have hons : ∀ j ∈ onsOf o, L.getD j true = true := fun j hj => by
   obtain ⟨e, he, rfl⟩ := List.mem_map.1 hj
   obtain ⟨he1, he2⟩ := List.mem_filter.1 he
   have h5 := hall e (by simpa using he1) he2
   rcases Nat.lt_or_ge e.on L.size with h' | h'
   ·simpa [Array.getElem?_eq_getElem h'] using h5
   simp [Array.getElem?_eq_none h'] at h5
  obtain ⟨hwn, hwp⟩ := hst i h0 hlt o k ho hk ρ L a w (hd.fr ha _ fun j hj _ => hons j hj) hd hons hw hf
  unfold wpOp
  simp only [ho, hwn, if_true]
  refine .inl (wp_mono2 ?_ (fun _ _ _ h => h.elim) hwp)
  rintro a' w' ⟨v, rfl, hv, hb⟩
  have hat : t < a.tmps.size := by rw [ha.size]; exact htn
  have hput : (a.put o.dst v).tmps = a.tmps.setIfInBounds t v := by rw [ht]; rfl
  refine ih _ _ _ (by simpa using hsz) (fun j hj => ?_) ?_ ?_ ?_ (hw.later hb) (hF ρ w ρ w' (Grow.refl _ _) (Keep.of_below hb) hf)
  ·by_cases hij : i = j
   ·subst hij; simp [show i < L.size by omega]
   rw [getD_set_ne true hij]; exact hsub j hj
  ·have := cntL_set (n := all.size) hlt h1
   omega
  ·subst hfr
   exact ha.over (hds o (mem_unl ho h0)) v
  intro j oj tj kj hj1 hj2 hj3 hj4 hj5
  rw [hput]
  by_cases hij : i = j
  ·subst hij
   rw [ho] at hj1
   simp only [Option.some.injEq] at hj1
   subst hj1
   rw [ht] at hj4
   simp only [Option.some.injEq] at hj4
   subst hj4
   rw [hk] at hj5
   simp only [Option.some.injEq] at hj5
   subst hj5
   exact ⟨v, by simp [hat], hv⟩
  rw [getD_set_ne true hij] at hj3
  obtain ⟨u, hu1, hu2⟩ := hd j oj tj kj hj1 hj2 hj3 hj4 hj5
  have hjp : j ∈ pendL all.size L0 := List.mem_filter.2 ⟨List.mem_range.2 (Array.getElem?_eq_some_iff.1 hj1).1, by rw [hj2]; rfl⟩
  have hne : t ≠ tj := fun e => nodup_ne (of_decide_eq_true hnd) hpi hjp hij (show ((all[i]?).bind (·.dst)) = some t by rw [ho]; exact ht) (show ((all[j]?).bind (·.dst)) = some t by rw [hj1, e]; exact hj4)
  exact ⟨u, by rw [Array.getElem?_setIfInBounds_ne hne]; exact hu1, hu2.keep (hkn j kj hj5) hb⟩
theorem At.drawn {Y : Type} {s : S} {all : Array Oper} {g : Nat} {dn : List Nat} (kn : List (Nat × Kn)) (frY : Y → Fr) (GY : Y → List Nat → World → Prop) (hpc : s.pc = .any all g dn) (hok : okK ntm all g (listedOf all.size dn) kn = true) (hF : Stable F) (hkn : ∀ i k, knOf kn i = some k → k.St)
  (hst : ∀ i ∈ pendL all.size (listedOf all.size dn), StepK P N w0 ntm F all (listedOf all.size dn) kn (drops ((unl all (listedOf all.size dn)).filterMap (·.dst)) s.fr) s.loc i)
  (hfin : ∀ ρ a w, AInv ntm ρ (eqFr all (listedOf all.size dn) kn (pendL all.size (listedOf all.size dn)) (drops ((unl all (listedOf all.size dn)).filterMap (·.dst)) s.fr)) a → Done all (listedOf all.size dn) kn ρ (Array.replicate all.size true) a w → F ρ w → ∃ y, AInv ntm ρ (frY y) a ∧ GY y ρ w)
  (h : ∀ y, At P Q N w0 ntm (GY y) ⟨.exit .normal, s.ks, frY y, s.loc⟩) : At P Q N w0 ntm F s := by
 have hok' := hok
 simp only [okK, Bool.and_eq_true] at hok'
 obtain ⟨_, hs0, hc0, _⟩ := hok'
 have hs0 := Nat.eq_of_beq_eq_true hs0
 have hc0 := Nat.le_of_ble_eq_true hc0
 intro ρ a w hi hf
 rw [hpc]
 refine drawn_all (ds := (unl all (listedOf all.size dn)).filterMap (·.dst)) (fr := s.fr) rfl (fun o ho t ht => List.mem_filterMap.2 ⟨o, ho, ht⟩) hok hF hkn (fun i h0 hlt => hst i (List.mem_filter.2 ⟨List.mem_range.2 hlt, by rw [h0]; rfl⟩)) (ρ := ρ) ?_ g _ a w hs0 (fun _ h => h) hc0 (hi.act.drops_ _) ?_ hi.mem hf
 ·intro a' w' ha hd hw hf'
  obtain ⟨y, hy1, hy2⟩ := hfin ρ a' w' (hd.fr ha _ fun i hi _ => by
   have := List.mem_range.1 (List.mem_filter.1 hi).1
   simp [this]) hd hf'
  exact h y ρ a' w' ⟨hy1, hw⟩ hy2
 intro i o t k h1 h2 h3
 rw [h2] at h3
 cases h3
def knSts : List (Nat × Kn) → Prop
 | [] => True
 | p :: l => p.2.St ∧ knSts l
theorem knSt {kn : List (Nat × Kn)} (h : knSts kn) : ∀ i k, knOf kn i = some k → k.St := by
 induction kn with
 | nil => intro i k hk; cases hk
 | cons p l ih =>
  intro i k hk
  simp only [knOf] at hk
  split at hk
  ·simp only [Option.some.injEq] at hk
   subst hk
   exact h.1
  exact ih h.2 i k hk
theorem At.drawnY {Y : Type} {s : S} {all : Array Oper} {g : Nat} {dn : List Nat} (kn : List (Nat × Kn)) (js : List Nat) (frY : Y → Fr) (GY : Y → List Nat → World → Prop) (hpc : s.pc = .any all g dn) (hok : okK ntm all g (listedOf all.size dn) kn = true) (hjs : pendL all.size (listedOf all.size dn) = js) (hF : Stable F) (hkn : knSts kn)
  (hst : allOf js fun i => StepK P N w0 ntm F all (listedOf all.size dn) kn (drops ((unl all (listedOf all.size dn)).filterMap (·.dst)) s.fr) s.loc i)
  (hfin : ∀ ρ a w, AInv ntm ρ (eqFr all (listedOf all.size dn) kn js (drops ((unl all (listedOf all.size dn)).filterMap (·.dst)) s.fr)) a → Done all (listedOf all.size dn) kn ρ (Array.replicate all.size true) a w → F ρ w → ∃ y, AInv ntm ρ (frY y) a ∧ GY y ρ w)
  (h : ∀ y, At P Q N w0 ntm (GY y) ⟨.exit .normal, s.ks, frY y, s.loc⟩) : At P Q N w0 ntm F s := by
 subst hjs
 exact At.drawn kn frY GY hpc hok hF (knSt hkn) (fun i hi => hst.mem i hi) hfin h
end
end Go.Sx
end
section
/-! In a region that draws its order: a look at local blocks taken ahead of two appends (the second one to the first one's row), and of allocations. -/
namespace Go.Sx
open Go.RowKit
section
variable {P : Program} {Q : Exit → Act → World → Prop} {N : Nat} {w0 : World} {ntm : Nat} {F : List Nat → World → Prop}
theorem cell_belowA {w0 w : World} {a : Addr} {v : Value} (h : w0.cell? a = some v) (hb : Below w0.heap.size w0 w) : w.cell? a = some v := by
 have hlt : a.block < w0.heap.size := by
  rcases Nat.lt_or_ge a.block w0.heap.size with h' | h'
  ·exact h'
  unfold World.cell? at h
  rw [Array.getElem?_eq_none h'] at h; cases h
 unfold World.cell? at h ⊢
 rw [hb.block _ hlt]
 exact h
theorem StepK.ldx {all : Array Oper} {L0 : Array Bool} {kn : List (Nat × Kn)} {fr0 : Fr} {loc : Loc} {k : Nat} {s : SV} (a : Addr) (hq : ((atK all L0 kn fr0 k).bind fun x => ldQ P x.2 x.1) = some a) (hk : knOf kn k = some (.eq s)) (hc : ∀ ρ w, WInv N w0 ρ loc w → F ρ w → w.cell? a = some (s.den ρ)) : StepK P N w0 ntm F all L0 kn fr0 loc k := by
 obtain ⟨⟨o, fr⟩, ho, hq⟩ := Option.bind_eq_some_iff.1 hq
 exact StepK.run ho hk fun ρ act w ha hw hf => run_ldQ ha hq (hc ρ w hw hf)
end
end Go.Sx
end
section
/-! In a region that draws its order: rows that it makes, and looks into them. -/
namespace Go.Sx
open Go.RowKit
def Cel (a : Addr) (ys : List Value) (ρ : List Nat) (w : World) : Prop := Src w a ys ∧ a.block < w.heap.size ∧ a.block ∉ ρ
theorem Cel.stable {a : Addr} {ys : List Value} : Stable (Cel a ys) := fun ρ w ρ' w' hg hk ⟨h3, h4, h5⟩ => by
 refine ⟨fun j u hj => ?_, Nat.lt_of_lt_of_le h4 hk.size, fun hm => ?_⟩
 ·have := h3 j u hj
  have hb : (a.add j).block = a.block := by unfold Addr.add; split <;> rfl
  simp only [World.cell?, hb] at this ⊢
  rw [hk.block _ h4 h5]
  exact this
 rcases hg.of_mem hm with h | h
 ·exact h5 h
 omega
theorem Cel.fewer {a : Addr} {ys : List Value} : FewerK 0 (Cel a ys) := fun ρ w k _ h => ⟨h.1, h.2.1, fun hm => h.2.2 (List.mem_of_mem_take hm)⟩
section
variable {P : Program} {Q : Exit → Act → World → Prop} {N : Nat} {w0 : World} {ntm : Nat} {F : List Nat → World → Prop}
theorem StepK.runXE {all : Array Oper} {L0 : Array Bool} {kn : List (Nat × Kn)} {fr0 : Fr} {loc : Loc} {i : Nat} {X Y : Type} {r : X → SV} {G : X → List Nat → World → Prop} {r' : Y → SV} {G' : Y → List Nat → World → Prop} (j t : Nat) (hk : knOf kn i = some (.ex Y r' G')) (hat : (atK all L0 kn fr0 i).isSome = true) (hj : exAt all L0 i j = some t) (hkj : knOf kn j = some (.ex X r G))
  (hr : ∀ o fr, atK all L0 kn fr0 i = some (o, fr) → ∀ x ρ a w, AInv ntm ρ ((t, r x) :: fr) a → WInv N w0 ρ loc w → F ρ w → G x ρ w → ∃ y, (execOp a.eval o).run P w = .ok (.value ((r' y).den ρ)) w ∧ G' y ρ w) : StepK P N w0 ntm F all L0 kn fr0 loc i := by
 intro o' k ho' hk' ρ L a w ha hd hl hw hf
 rw [hk] at hk'
 simp only [Option.some.injEq] at hk'
 subst hk'
 obtain ⟨⟨o, fr⟩, ho⟩ := Option.isSome_iff_exists.1 hat
 have ho2 := ho
 unfold atK at ho
 simp only [ho'] at ho
 split at ho
 ·rename_i hg
  simp only [Option.some.injEq, Prod.mk.injEq] at ho
  obtain ⟨rfl, rfl⟩ := ho
  refine ⟨guardS_ok ha hg, ?_⟩
  unfold exAt at hj
  split at hj
  ·rename_i o2 oj h1 h2 h3
   rw [ho'] at h1
   simp only [Option.some.injEq] at h1
   subst h1
   split at hj
   ·rename_i hjo
    obtain ⟨v, hv, x, rfl, hx⟩ := hd j oj t _ h2 h3 (hl j (List.contains_iff_mem.1 hjo)) hj hkj
    obtain ⟨y, hy1, hy2⟩ := hr _ _ ho2 x ρ a w (ha.moreK hv) hw hf hx
    unfold Oper.wp
    rw [hy1]
    exact ⟨_, rfl, ⟨y, rfl, hy2⟩, Below.refl _ _⟩
   cases hj
  cases hj
 cases ho
end
end Go.Sx
end
section
/- Whole elements stored into the first of several rows of one's own. -/
namespace Go.Sx
open Go.RowKit
section
variable {P : Program} {Q : Exit → Act → World → Prop} {N : Nat} {w0 : World} {ntm : Nat} {F : List Nat → World → Prop}
theorem At.know {s : S} {p : Prop} (h : ∀ ρ w, F ρ w → p) (k : p → At P Q N w0 ntm F s) : At P Q N w0 ntm F s :=
 fun ρ a w hi hf => k (h ρ w hf) ρ a w hi hf
end
end Go.Sx
end
section
/- Ordered maps, plain: trees balanced by heights, and the sorted lists that they stand for. -/
namespace Go.Proofs.YtkjnbafdmjakgaaGreatDoor
inductive Tr (κ ν : Type) where
 | nil
 | node (k : κ) (v : ν) (l r : Tr κ ν)
namespace Tr
variable {κ ν : Type}
def high : Tr κ ν → Nat
 | nil => 0
 | node _ _ l r => max l.high r.high + 1
def many : Tr κ ν → Nat
 | nil => 0
 | node _ _ l r => l.many + r.many + 1
def toL : Tr κ ν → List (κ × ν)
 | nil => []
 | node k v l r => l.toL ++ (k, v) :: r.toL
theorem many_toL : ∀ t : Tr κ ν, t.toL.length = t.many
 | nil => rfl
 | node k v l r => by
  simp only [toL, many, List.length_append, List.length_cons, many_toL l, many_toL r]
  omega
theorem high_le : ∀ t : Tr κ ν, t.high ≤ t.many
 | nil => Nat.le_refl _
 | node k v l r => by
  have h1 := high_le l
  have h2 := high_le r
  simp only [high, many]
  omega
def even (k : κ) (v : ν) (l r : Tr κ ν) : Tr κ ν :=
 if r.high + 1 < l.high then
  match l with
  | nil => node k v nil r
  | node lk lv ll lr => if lr.high ≤ ll.high then node lk lv ll (node k v lr r) else match lr with
   | nil => node k v (node lk lv ll nil) r
   | node mk mv ml mr => node mk mv (node lk lv ll ml) (node k v mr r)
 else if l.high + 1 < r.high then
  match r with
  | nil => node k v l nil
  | node rk rv rl rr => if rl.high ≤ rr.high then node rk rv (node k v l rl) rr else match rl with
   | nil => node k v l (node rk rv nil rr)
   | node mk mv ml mr => node mk mv (node k v l ml) (node rk rv mr rr)
 else node k v l r
theorem even_toL (k : κ) (v : ν) (l r : Tr κ ν) : (even k v l r).toL = l.toL ++ (k, v) :: r.toL := by
 unfold even
 split
 ·split
  ·rfl
  split
  ·simp [toL]
  split <;> simp [toL]
 split
 ·split
  ·rfl
  split
  ·simp [toL]
  split <;> simp [toL]
 rfl
theorem even_many (k : κ) (v : ν) (l r : Tr κ ν) : (even k v l r).many = l.many + r.many + 1 := by
 rw [← many_toL, even_toL, List.length_append, List.length_cons, many_toL, many_toL]
 omega
def put (cmp : κ → κ → Int) (k : κ) (v : ν) : Tr κ ν → Tr κ ν
 | nil => node k v nil nil
 | node k' v' l r => if cmp k k' < 0 then even k' v' (l.put cmp k v) r else if 0 < cmp k k' then even k' v' l (r.put cmp k v) else node k' v l r
def get (cmp : κ → κ → Int) (k : κ) : Tr κ ν → Option ν
 | nil => none
 | node k' v' l r => if cmp k k' < 0 then l.get cmp k else if 0 < cmp k k' then r.get cmp k else some v'
end Tr
structure Lin {κ : Type} (cmp : κ → κ → Int) : Prop where
 anti : ∀ a b, cmp a b < 0 ↔ 0 < cmp b a
 eq : ∀ a b, cmp a b = 0 ↔ a = b
 trans : ∀ a b c, cmp a b < 0 → cmp b c < 0 → cmp a c < 0
section
variable {κ ν : Type} {cmp : κ → κ → Int}
def Srt (cmp : κ → κ → Int) (l : List (κ × ν)) : Prop := l.Pairwise fun a b => cmp a.1 b.1 < 0
def insL (cmp : κ → κ → Int) (k : κ) (v : ν) : List (κ × ν) → List (κ × ν)
 | [] => [(k, v)]
 | (k', v') :: r => if cmp k k' < 0 then (k, v) :: (k', v') :: r else if 0 < cmp k k' then (k', v') :: insL cmp k v r else (k', v) :: r
def lookL (cmp : κ → κ → Int) (k : κ) : List (κ × ν) → Option ν
 | [] => none
 | (k', v') :: r => if cmp k k' = 0 then some v' else lookL cmp k r
theorem insL_left {k k' : κ} {v v' : ν} (h : cmp k k' < 0) (M : List (κ × ν)) : ∀ L : List (κ × ν), insL cmp k v (L ++ (k', v') :: M) = insL cmp k v L ++ (k', v') :: M
 | [] => by simp [insL, h]
 | (a, b) :: L => by
  rw [List.cons_append, insL, insL]
  split
  ·rfl
  split
  ·rw [insL_left h M L, List.cons_append]
  rfl
theorem insL_right {k : κ} {v : ν} (M : List (κ × ν)) : ∀ L : List (κ × ν), (∀ a ∈ L, 0 < cmp k a.1) → insL cmp k v (L ++ M) = L ++ insL cmp k v M
 | [], _ => rfl
 | (a, b) :: L, h => by
  have h1 : 0 < cmp k a := h (a, b) (List.mem_cons_self ..)
  rw [List.cons_append, insL, if_neg (by omega), if_pos h1, insL_right M L (fun x hx => h x (List.mem_cons_of_mem _ hx)), List.cons_append]
theorem lookL_right {k : κ} (M : List (κ × ν)) : ∀ L : List (κ × ν), (∀ a ∈ L, cmp k a.1 ≠ 0) → lookL cmp k (L ++ M) = lookL cmp k M
 | [], _ => rfl
 | (a, b) :: L, h => by
  rw [List.cons_append, lookL, if_neg (h (a, b) (List.mem_cons_self ..)), lookL_right M L (fun x hx => h x (List.mem_cons_of_mem _ hx))]
theorem lookL_none {k : κ} : ∀ L : List (κ × ν), (∀ a ∈ L, cmp k a.1 ≠ 0) → lookL cmp k L = none
 | [], _ => rfl
 | (a, b) :: L, h => by
  rw [lookL, if_neg (h (a, b) (List.mem_cons_self ..)), lookL_none L (fun x hx => h x (List.mem_cons_of_mem _ hx))]
theorem lookL_left {k : κ} : ∀ (L M : List (κ × ν)), (∀ a ∈ M, cmp k a.1 ≠ 0) → lookL cmp k (L ++ M) = lookL cmp k L
 | [], M, h => by rw [List.nil_append, lookL_none M h]; rfl
 | (a, b) :: L, M, h => by
  rw [List.cons_append, lookL, lookL, lookL_left L M h]
theorem srt_mid {L M : List (κ × ν)} {x : κ × ν} (h : Srt cmp (L ++ x :: M)) : Srt cmp L ∧ Srt cmp M ∧ (∀ a ∈ L, cmp a.1 x.1 < 0) ∧ (∀ a ∈ M, cmp x.1 a.1 < 0) := by
 unfold Srt at h ⊢
 rw [List.pairwise_append, List.pairwise_cons] at h
 exact ⟨h.1, h.2.1.2, fun a ha => h.2.2 a ha x (List.mem_cons_self ..), fun a ha => h.2.1.1 a ha⟩
theorem Tr.put_toL (ho : Lin cmp) (k : κ) (v : ν) : ∀ t : Tr κ ν, Srt cmp t.toL → (t.put cmp k v).toL = insL cmp k v t.toL
 | .nil, _ => rfl
 | .node k' v' l r, h => by
  obtain ⟨h1, h2, h3, h4⟩ := srt_mid h
  unfold Tr.put
  split
  ·rename_i hc
   rw [Tr.even_toL, Tr.put_toL ho k v l h1, Tr.toL, insL_left hc]
  rename_i hc
  split
  ·rename_i hd
   rw [Tr.even_toL, Tr.put_toL ho k v r h2, Tr.toL, insL_right _ _ (fun a ha => (ho.anti _ _).1 (ho.trans _ _ _ (h3 a ha) ((ho.anti _ _).2 hd))), insL, if_neg hc, if_pos hd]
  rename_i hd
  have he : k = k' := (ho.eq _ _).1 (by omega)
  subst he
  rw [Tr.toL, Tr.toL, insL_right _ _ (fun a ha => (ho.anti _ _).1 (h3 a ha)), insL, if_neg hc, if_neg hd]
theorem Tr.get_toL (ho : Lin cmp) (k : κ) : ∀ t : Tr κ ν, Srt cmp t.toL → t.get cmp k = lookL cmp k t.toL
 | .nil, _ => rfl
 | .node k' v' l r, h => by
  obtain ⟨h1, h2, h3, h4⟩ := srt_mid h
  unfold Tr.get
  split
  ·rename_i hc
   rw [Tr.toL, lookL_left _ _ (fun a ha => ?_), Tr.get_toL ho k l h1]
   rcases List.mem_cons.1 ha with rfl | ha
   ·simp only; omega
   have := ho.trans _ _ _ hc (h4 a ha)
   omega
  rename_i hc
  split
  ·rename_i hd
   rw [Tr.toL, lookL_right _ _ (fun a ha => ?_), lookL, if_neg (by omega), Tr.get_toL ho k r h2]
   have := (ho.anti _ _).1 (ho.trans _ _ _ (h3 a ha) ((ho.anti _ _).2 hd))
   omega
  rename_i hd
  have he : k = k' := (ho.eq _ _).1 (by omega)
  subst he
  rw [Tr.toL, lookL_right _ _ (fun a ha => ?_), lookL, if_pos (by omega)]
  have := (ho.anti _ _).1 (h3 a ha)
  simp only at this
  omega
theorem insL_mem {k : κ} {v : ν} : ∀ (l : List (κ × ν)) (x : κ × ν), x ∈ insL cmp k v l → x.1 = k ∨ x.1 ∈ l.map (·.1)
 | [], x, h => by
  simp only [insL, List.mem_singleton] at h
  exact .inl (by rw [h])
 | (a, b) :: l, x, h => by
  rw [insL] at h
  split at h
  ·rcases List.mem_cons.1 h with rfl | h
   ·exact .inl rfl
   exact .inr (List.mem_map_of_mem h)
  split at h
  ·rcases List.mem_cons.1 h with rfl | h
   ·exact .inr (by simp)
   rcases insL_mem l x h with h | h
   ·exact .inl h
   exact .inr (List.mem_cons_of_mem _ h)
  rcases List.mem_cons.1 h with rfl | h
  ·exact .inr (by simp)
  exact .inr (List.mem_cons_of_mem _ (List.mem_map_of_mem h))
theorem insL_srt (ho : Lin cmp) {k : κ} {v : ν} : ∀ l : List (κ × ν), Srt cmp l → Srt cmp (insL cmp k v l)
 | [], _ => List.pairwise_singleton _ _
 | (a, b) :: l, h => by
  have h' := List.pairwise_cons.1 h
  rw [insL]
  split
  ·rename_i hc
   refine List.pairwise_cons.2 ⟨fun x hx => ?_, h⟩
   rcases List.mem_cons.1 hx with rfl | hx
   ·exact hc
   exact ho.trans _ _ _ hc (h'.1 x hx)
  rename_i hc
  split
  ·rename_i hd
   refine List.pairwise_cons.2 ⟨fun x hx => ?_, insL_srt ho l h'.2⟩
   rcases insL_mem l x hx with e | e
   ·simp only [e]
    exact (ho.anti _ _).2 hd
   obtain ⟨y, hy, e⟩ := List.mem_map.1 e
   simp only [← e]
   exact h'.1 y hy
  exact List.pairwise_cons.2 ⟨h'.1, h'.2⟩
end
end Go.Proofs.YtkjnbafdmjakgaaGreatDoor
end
section
/- Trees in the heap; calls whose arguments are known up to something. -/
namespace Go.Sx
open Go.RowKit
section
variable {P : Program} {Q : Exit → Act → World → Prop} {N : Nat} {w0 : World} {ntm : Nat} {F : List Nat → World → Prop}
theorem ex_at {all : Array Oper} {L0 L : Array Bool} {kn : List (Nat × Kn)} {ρ : List Nat} {a : Act} {w : World} {i j t : Nat} {o' : Oper} {X : Type} {r : X → SV} {G : X → List Nat → World → Prop} (ho' : all[i]? = some o') (hj : exAt all L0 i j = some t) (hkj : knOf kn j = some (.ex X r G)) (hd : Done all L0 kn ρ L a w) (hl : ∀ j ∈ onsOf o', L.getD j true = true) :
  ∃ x, a.tmps[t]? = some ((r x).den ρ) ∧ G x ρ w := by
 unfold exAt at hj
 split at hj
 ·rename_i o2 oj h1 h2 h3
  rw [ho'] at h1
  simp only [Option.some.injEq] at h1
  subst h1
  split at hj
  ·rename_i hjo
   obtain ⟨v, hv, x, rfl, hx⟩ := hd j oj t _ h2 h3 (hl j (List.contains_iff_mem.1 hjo)) hj hkj
   exact ⟨x, hv, hx⟩
  cases hj
 cases hj
theorem StepK.callX {all : Array Oper} {L0 : Array Bool} {kn : List (Nat × Kn)} {fr0 : Fr} {loc : Loc} {i : Nat} {k : Kn} {X : Type} {r : X → SV} {G : X → List Nat → World → Prop} (j t : Nat) (g : FuncId) (vs : X → List SV) (hat : (atK all L0 kn fr0 i).isSome = true) (hj : exAt all L0 i j = some t) (hkj : knOf kn j = some (.ex X r G))
  (hq : ∀ x, ((atK all L0 kn fr0 i).bind fun y => callS ((t, r x) :: y.2) y.1) = some (g, vs x)) (hk : knOf kn i = some k) (hb : bodied P g = true)
  (hr : ∀ x ρ w, WInv N w0 ρ loc w → F ρ w → G x ρ w → Calls P g (SV.denL ρ (vs x)).toArray w fun e w' => ∃ v, e = .returned v ∧ k.ok ρ w' v ∧ Below w.heap.size w w') : StepK P N w0 ntm F all L0 kn fr0 loc i := by
 obtain ⟨⟨o, fr⟩, ho⟩ := Option.isSome_iff_exists.1 hat
 intro o' k' ho' hk' ρ L a w ha hd hl hw hf
 rw [hk] at hk'
 simp only [Option.some.injEq] at hk'
 subst hk'
 have ho2 := ho
 unfold atK at ho
 simp only [ho'] at ho
 split at ho
 ·rename_i hg
  simp only [Option.some.injEq, Prod.mk.injEq] at ho
  obtain ⟨rfl, rfl⟩ := ho
  refine ⟨guardS_ok ha hg, ?_⟩
  obtain ⟨x, hx1, hx2⟩ := ex_at ho' hj hkj hd hl
  have hc := hq x
  rw [ho2] at hc
  unfold Oper.wp
  rw [run_callS (ha.moreK hx1) hc hb]
  refine (hr x ρ w hw hf hx2).mono ?_
  rintro e w' ⟨v, rfl, h1, h2⟩
  exact ⟨v, rfl, h1, h2⟩
 cases ho
theorem StepK.callX2 {all : Array Oper} {L0 : Array Bool} {kn : List (Nat × Kn)} {fr0 : Fr} {loc : Loc} {i : Nat} {k : Kn} {X Y : Type} {r : X → SV} {G : X → List Nat → World → Prop} {r2 : Y → SV} {G2 : Y → List Nat → World → Prop} (j t j2 t2 : Nat) (g : FuncId) (vs : X → Y → List SV) (hat : (atK all L0 kn fr0 i).isSome = true) (hj : exAt all L0 i j = some t) (hkj : knOf kn j = some (.ex X r G)) (hj2 : exAt all L0 i j2 = some t2) (hkj2 : knOf kn j2 = some (.ex Y r2 G2))
  (hq : ∀ x y, ((atK all L0 kn fr0 i).bind fun z => callS ((t, r x) :: (t2, r2 y) :: z.2) z.1) = some (g, vs x y)) (hk : knOf kn i = some k) (hb : bodied P g = true)
  (hr : ∀ x y ρ w, WInv N w0 ρ loc w → F ρ w → G x ρ w → G2 y ρ w → Calls P g (SV.denL ρ (vs x y)).toArray w fun e w' => ∃ v, e = .returned v ∧ k.ok ρ w' v ∧ Below w.heap.size w w') : StepK P N w0 ntm F all L0 kn fr0 loc i := by
 obtain ⟨⟨o, fr⟩, ho⟩ := Option.isSome_iff_exists.1 hat
 intro o' k' ho' hk' ρ L a w ha hd hl hw hf
 rw [hk] at hk'
 simp only [Option.some.injEq] at hk'
 subst hk'
 have ho2 := ho
 unfold atK at ho
 simp only [ho'] at ho
 split at ho
 ·rename_i hg
  simp only [Option.some.injEq, Prod.mk.injEq] at ho
  obtain ⟨rfl, rfl⟩ := ho
  refine ⟨guardS_ok ha hg, ?_⟩
  obtain ⟨x, hx1, hx2⟩ := ex_at ho' hj hkj hd hl
  obtain ⟨y, hy1, hy2⟩ := ex_at ho' hj2 hkj2 hd hl
  have hc := hq x y
  rw [ho2] at hc
  unfold Oper.wp
  rw [run_callS ((ha.moreK hy1).moreK hx1) hc hb]
  refine (hr x y ρ w hw hf hx2 hy2).mono ?_
  rintro e w' ⟨v, rfl, h1, h2⟩
  exact ⟨v, rfl, h1, h2⟩
 cases ho
end
section
variable {P : Program} {Q : Exit → Act → World → Prop} {N : Nat} {w0 : World} {ntm : Nat} {F : List Nat → World → Prop}
variable [Md]
def maxS (fr : Fr) (o : Oper) : Option (IntKind × Int × Int) :=
 match o.op with
 | .call { callee := .builtin .max, args := ⟨[x, y]⟩, argTypes := ts } => match evalS fr x, evalS fr y with
  | some (.io k a), some (.io _ b) => some (k, a, b)
  | _, _ => none
 | _ => none
theorem run_maxS {ρ : List Nat} {fr : Fr} {a : Act} (ha : AInv ntm ρ fr a) {o : Oper} {k : IntKind} {x y m : Int} (h : maxS fr o = some (k, x, y)) (hm : (if y > x then y else x) = m) (w : World) : (execOp a.eval o).run P w = .ok (.value (.int k m)) w := by
 obtain ⟨dst, op, ty, pos, after, guard⟩ := o
 unfold maxS at h
 simp only at h
 split at h
 ·rename_i sx sy ts
  split at h
  ·rename_i k1 a1 k2 b1 hx hy
   simp only [Option.some.injEq, Prod.mk.injEq] at h
   obtain ⟨rfl, rfl, rfl⟩ := h
   have hr := run_max_int2 (P := P) w ts ty k1 k2 a1 b1
   rw [hm] at hr
   simp [execOp, resolve, invoke, builtin, evalS_sound ha hx, evalS_sound ha hy, SV.den, hr]
  cases h
 cases h
def maxI (ntm : Nat) (s : S) : Option (IntKind × Int × Int) :=
 match s.head?, s.dstOk ntm with
 | some o, true => maxS s.fr o
 | _, _ => none
theorem At.maxI {s : S} (k : IntKind) (a b m : Int) (hq : Go.Sx.maxI ntm s = some (k, a, b)) (hm : (if b > a then b else a) = m) (hF : Stable F) (h : At P Q N w0 ntm F (s.tail ntm (.io k m))) : At P Q N w0 ntm F s := by
 unfold Go.Sx.maxI at hq
 split at hq
 ·rename_i o ho hd
  exact At.op hF o (.io k m) ho hd (fun ρ act w hi _ => run_maxS hi.act hq hm w) h
 cases hq
end
theorem Cel.app {a : Addr} {ys : List Value} {ρ0 ρ : List Nat} {w : World} : Cel a ys (ρ0 ++ ρ) w ↔ Cel a ys ρ w ∧ a.block ∉ ρ0 := by
 unfold Cel
 rw [List.mem_append, not_or]
 exact ⟨fun ⟨h1, h2, h3, h4⟩ => ⟨⟨h1, h2, h4⟩, h3⟩, fun ⟨⟨h1, h2, h4⟩, h3⟩ => ⟨h1, h2, h3, h4⟩⟩
end Go.Sx
namespace Go.Proofs.YtkjnbafdmjakgaaGreatDoor
open Go.RowKit Go.Sx
section
variable {κ ν : Type} {kw : κ → List Value} {vw : ν → List Value}
def nodeW (kw : κ → List Value) (vw : ν → List Value) (k : κ) (v : ν) (pl pr : Option Addr) (h m : Nat) : List Value := kw k ++ vw v ++ [.pointer pl, .pointer pr, .int .i64 (h : Int), .int .i64 (m : Int)]
def TrF (kw : κ → List Value) (vw : ν → List Value) : Option Addr → Tr κ ν → List Nat → World → Prop
 | p, .nil, _, _ => p = none
 | p, .node k v l r, ρ, w => ∃ b pl pr, p = some ⟨b, 0, none⟩ ∧ Cel ⟨b, 0, none⟩ (nodeW kw vw k v pl pr (Tr.node k v l r).high (Tr.node k v l r).many) ρ w ∧ TrF kw vw pl l ρ w ∧ TrF kw vw pr r ρ w
theorem TrF.stable {ρ0 : List Nat} : ∀ {t : Tr κ ν} {p : Option Addr}, Stable (fun ρ w => TrF kw vw p t (ρ0 ++ ρ) w)
 | .nil, p => fun ρ w ρ' w' hg hk h => h
 | .node k v l r, p => fun ρ w ρ' w' hg hk ⟨b, pl, pr, h1, h2, h3, h4⟩ => by
  obtain ⟨h5, h6⟩ := Cel.app.1 h2
  exact ⟨b, pl, pr, h1, Cel.app.2 ⟨Cel.stable ρ w ρ' w' hg hk h5, h6⟩, TrF.stable ρ w ρ' w' hg hk h3, TrF.stable ρ w ρ' w' hg hk h4⟩
theorem TrF.fewer {ρ0 : List Nat} : ∀ {t : Tr κ ν} {p : Option Addr}, FewerK 0 (fun ρ w => TrF kw vw p t (ρ0 ++ ρ) w)
 | .nil, p => fun ρ w k hk h => h
 | .node _ _ l r, p => fun ρ w k hk ⟨b, pl, pr, h1, h2, h3, h4⟩ => by
  obtain ⟨h5, h6⟩ := Cel.app.1 h2
  exact ⟨b, pl, pr, h1, Cel.app.2 ⟨Cel.fewer ρ w k hk h5, h6⟩, TrF.fewer ρ w k hk h3, TrF.fewer ρ w k hk h4⟩
theorem TrF.sub {ρ ρ' : List Nat} {w : World} (hs : ∀ x ∈ ρ', x ∈ ρ) : ∀ {t : Tr κ ν} {p : Option Addr}, TrF kw vw p t ρ w → TrF kw vw p t ρ' w
 | .nil, p, h => h
 | .node k v l r, p, ⟨b, pl, pr, h1, h2, h3, h4⟩ => ⟨b, pl, pr, h1, ⟨h2.1, h2.2.1, fun hm => h2.2.2 (hs _ hm)⟩, TrF.sub hs h3, TrF.sub hs h4⟩
end
end Go.Proofs.YtkjnbafdmjakgaaGreatDoor
end
section
/-! A strings.Builder of one's own, as a fact: a block of two places, and the row that is its buffer. -/
namespace Go.Sx
open Go.RowKit
section
variable {P : Program} {Q : Exit → Act → World → Prop} {N : Nat} {w0 : World} {ntm : Nat} {F : List Nat → World → Prop}
section
variable {T e B b : Nat} {p v : Value} {A : Option Addr} {n c : Nat} {xs : List Value} {ρ : List Nat} {w : World}
end
def nckI (ntm : Nat) (s : S) : Option Addr := match s.head?, s.dstOk ntm with
 | some o, true => match o.op with
  | .nilCheck x => match evalS s.fr x with
   | some (.v (.pointer (some a))) => some a
   | _ => none
  | _ => none
 | _, _ => none
theorem At.nck {s : S} (a : Addr) (hq : nckI ntm s = some a) (hF : Stable F) (h : At P Q N w0 ntm F (s.tail ntm (.v (.pointer (some a))))) : At P Q N w0 ntm F s := by
 unfold nckI at hq
 split at hq
 ·rename_i o ho hd
  refine At.op hF o (.v (.pointer (some a))) ho hd (fun ρ act w hi hf => ?_) h
  obtain ⟨dst, op, ty, pos, after, guard⟩ := o
  simp only at hq
  split at hq
  ·split at hq
   ·rename_i x a' hx
    simp only [Option.some.injEq] at hq
    subst hq
    simp [execOp, evalS_sound hi.act hx, SV.den]
   cases hq
  cases hq
 cases hq
def pcI (ntm : Nat) (s : S) : Option (BinOp × TypeId × Option Addr × Option Addr) := match s.head?, s.dstOk ntm with
 | some o, true => match o.op with
  | .binOp op t x y _ => match evalS s.fr x, evalS s.fr y with
   | some (.v (.pointer p)), some (.v (.pointer q)) => some (op, t, p, q)
   | _, _ => none
  | _ => none
 | _, _ => none
theorem At.pcmp {s : S} (op : BinOp) (t : TypeId) (p q : Option Addr) (b : Bool) (hq : pcI ntm s = some (op, t, p, q)) (hF : Stable F) (hr : ∀ w, (binOp op t (.pointer p) (.pointer q)).run P w = .ok (.bool b) w) (h : At P Q N w0 ntm F (s.tail ntm (.v (.bool b)))) : At P Q N w0 ntm F s := by
 unfold pcI at hq
 split at hq
 ·rename_i o ho hd
  refine At.op hF o (.v (.bool b)) ho hd (fun ρ act w hi hf => ?_) h
  obtain ⟨dst, opr, ty, pos, after, guard⟩ := o
  simp only at hq
  split at hq
  ·split at hq
   ·rename_i op' t' x y tt _ _ p' q' hx hy
    simp only [Option.some.injEq, Prod.mk.injEq] at hq
    obtain ⟨rfl, rfl, rfl, rfl⟩ := hq
    have hg : (eqGuard op' t' x y (.pointer p') (.pointer q')).run P w = .ok () w := by cases op' <;> rfl
    simp only [execOp, evalS_sound hi.act hx, evalS_sound hi.act hy, SV.den, Sem.run_bind, hg, hr, Result.andThen_ok, Sem.run_pure]
   cases hq
  cases hq
 cases hq
theorem run_eql_none {t e : TypeId} {j : TypeInfo} (a : Addr) (ht : P.underlying t = some (.pointer e)) (he : P.info? e = some j) (w : World) : (binOp .eql t (.pointer (some a)) (.pointer none)).run P w = .ok (.bool false) w := by
 have h : ∀ d : Nat, (Op.equalIn (d + 1) t (.pointer (some a)) (.pointer none)).run P w = .ok false w := fun d => by
  simp [Op.equalIn, run_underlying ht, sizeOf, typeInfo, he]
 simp only [binOp]
 simp [Op.equal, Op.maxDepth, h 9999]
end
end Go.Sx
end
section
/- A range over a function: the statement, the call of yield, the round, the function's end with the mark among its deferred calls. -/
namespace Go.Sx
open Go.RowKit
section
variable {P : Program} {Q : Exit → Act → World → Prop} {N : Nat} {w0 : World} {ntm : Nat} {F : List Nat → World → Prop}
abbrev Md.rnd (l : Nat) : Md := ⟨some l, []⟩
abbrev Md.mark (D : Nat) : Md := ⟨none, [{ target := .collected D, args := #[] }]⟩
theorem CW_md {md : Md} (h : md.round = none) (c : Code) : @CW md P c Q = c.wp P Q := by
 funext a w
 exact propext (@CW_none P Q md h c a w)
theorem roundsW_md {md : Md} (h : md.round = none) (c : Code) : ∀ n, @roundsW md P c Q n = @roundsW Md.fn P c Q n
 | 0 => rfl
 | n + 1 => by
  funext a w
  simp only [roundsW]
  rw [CW_md h, CW_md (md := Md.fn) rfl, roundsW_md h c n]
theorem postK_md {md : Md} (h : md.round = none) : ∀ (ks : List K) (Q : Exit → Act → World → Prop), @postK md P ks Q = @postK Md.fn P ks Q
 | [], _ => rfl
 | k :: ks, Q => by
  have ih := postK_md h ks Q
  cases k <;> simp only [postK, ih, CW_md h, CW_md (md := Md.fn) rfl, roundsW_md h]
theorem WInv.putObj {ρ : List Nat} {loc : Loc} {w : World} (h : WInv N w0 ρ loc w) {r : Nat} (hN : N ≤ r) (hr : r ∉ ρ) (o : Obj) : WInv N w0 ρ loc (w.putObj r o) := by
 refine ⟨⟨h.below.os, h.below.tape, h.below.output, by simpa using h.below.size, fun k hk => ?_⟩, by simpa using h.hN, h.len, h.nodup, fun b hb => by simpa using h.ge b hb, fun i c t hi => ?_⟩
 ·rw [World.putObj_heap_other (by omega)]
  exact h.below.block k hk
 have hm : nth ρ i ∈ ρ := by
  have : i < ρ.length := by rw [h.len]; exact (List.getElem?_eq_some_iff.1 hi).1
  simp [nth, List.getD, this]
 rw [World.putObj_heap_other (fun e => hr (by rw [← e]; exact hm))]
 exact h.cells i c t hi
theorem WInv.notIn {ρ : List Nat} {loc : Loc} {w : World} (h : WInv N w0 ρ loc w) {r : Nat} {o : Obj} (hr : w.heap[r]? = some o) (ho : ∀ c t f, o ≠ .cells c t f) : r ∉ ρ := by
 intro hm
 obtain ⟨i, hi, he⟩ := List.getElem_of_mem hm
 have hi' : i < loc.length := by rw [← h.len]; exact hi
 have hc := h.cells i loc[i].1 loc[i].2 (by simp [hi'])
 have hn : nth ρ i = r := by simp [nth, List.getD, hi, he]
 rw [hn, hr] at hc
 injection hc with hc
 exact ho _ _ _ hc
theorem enterM {f : FuncId} {fn : Func} {c : Code} {R : Ending → World → Prop} (sargs : List SV) (hf : P.funcs[f]? = some fn) (hb : fn.body = some c) (hle : Nat.ble sargs.length fn.ntmps = true)
  (hN : N ≤ w0.heap.size) (hF : F [] w0) (h : At P (bodyPostM Fence.wide 0 P fn R) N w0 fn.ntmps F ⟨.code c, [], frOf 0 sargs, []⟩) : Calls P f (SV.denL [] sargs).toArray w0 R := by
 refine (callsIn_wide (n := 0)).1 (callsIn_of_wp_marks hf hb trivial (wpIn_wide.2 (h [] _ w0 ⟨⟨rfl, ?_, ?_⟩, ?_⟩ hF)))
 ·have := Nat.le_of_ble_eq_true hle
  simp [SV.denL_eq]; omega
 ·intro t s hs
  have := look_frOf (ρ := []) (pre := []) (rest := List.replicate (fn.ntmps - sargs.length) undef) rfl hs
  rw [← Array.getElem?_toList]
  simpa [SV.denL_eq] using this
 exact ⟨Below.refl _ _, hN, rfl, List.nodup_nil, by simp, by simp⟩
theorem enterH {f : FuncId} {fn : Func} {c : Code} {R : Ending → World → Prop} {w1 : World} (sargs : List SV) (ρ0 : List Nat) (loc0 : Loc) (hf : P.funcs[f]? = some fn) (hb : fn.body = some c) (hle : Nat.ble sargs.length fn.ntmps = true)
  (hm : WInv N w0 ρ0 loc0 w1) (hF : F ρ0 w1) (h : At P (bodyPost P fn R) N w0 fn.ntmps F ⟨.code c, [], frOf 0 sargs, loc0⟩) : Calls P f (SV.denL ρ0 sargs).toArray w1 R := by
 refine calls_of_wp hf hb (h ρ0 _ w1 ⟨⟨rfl, ?_, ?_⟩, hm⟩ hF)
 ·have := Nat.le_of_ble_eq_true hle
  simp [SV.denL_eq]; omega
 intro t s hs
 have := look_frOf (ρ := ρ0) (pre := []) (rest := List.replicate (fn.ntmps - sargs.length) undef) rfl hs
 rw [← Array.getElem?_toList]
 simpa [SV.denL_eq] using this
end
section
variable {P : Program} {Q : Exit → Act → World → Prop} {N : Nat} {w0 : World} {ntm : Nat} {F : List Nat → World → Prop}
variable [Md]
theorem At.retM {fn : Func} {R : Ending → World → Prop} {D : Nat} {s : S} (hdf : Md.dfs = [{ target := .collected D, args := #[] }]) (hd : s.done = true) (r : SV) (hr : resS P fn s = some r)
  (hD : ∀ ρ w, F ρ w → N ≤ D ∧ w.heap[D]? = some (.deferred (some [])))
  (h : ∀ ρ w, WInv N w0 ρ s.loc (w.putObj D (.deferred none)) → w.heap[D]? = some (.deferred (some [])) → F ρ w → R (.returned (r.den ρ)) (w.putObj D (.deferred none))) : At P (bodyPostM Fence.wide 0 P fn R) N w0 ntm F s := by
 intro ρ a w hi hf
 obtain ⟨hN, hw⟩ := hD ρ w hf
 have hm := hi.mem.putObj hN (hi.mem.notIn hw (fun _ _ _ => by simp)) (.deferred none)
 have h1 := run_resS (P := P) (fn := fn) (s := s) (r := r) (w := w.putObj D (.deferred none)) ⟨hi.act, hm⟩ hr
 have h2 := h ρ w hm hw hf
 have hdef : a.defers = [{ target := .collected D, args := #[] }] := hi.act.defers.trans hdf
 have key : LeavesInM Fence.wide 0 P fn a.tmps R a.defers .returning w := by
  rw [hdef]
  refine ⟨by simp, .inl ⟨D, _, rfl, run_takeDeferred hw, ?_⟩⟩
  exact ⟨_, h1, h2⟩
 obtain ⟨pc, ks, fr, loc⟩ := s
 unfold S.done at hd
 split at hd
 ·rename_i e1 e2
  simp only at e1 e2
  subst e1; subst e2
  exact key
 ·rename_i e1 e2
  simp only at e1 e2
  subst e1; subst e2
  exact key
 cases hd
theorem At.nextF {f : Act → World → Prop} {ks : List K} {s : S} (hp : s.pc = .exit .normal) (hk : s.ks = .next f :: ks) (h : ∀ ρ a w, Inv N w0 ntm ρ s.fr s.loc a w → F ρ w → f a w) : At P Q N w0 ntm F s := by
 intro ρ a w hi hf
 rw [hp, hk]
 exact h ρ a w hi hf
theorem AInv.more {ρ ext : List Nat} {loc : Loc} {fr : Fr} {a : Act} (h : AInv ntm ρ fr a) (hl : ρ.length = loc.length) (hsc : scopedFr loc.length fr = true) : AInv ntm (ρ ++ ext) fr a := by
 refine ⟨h.defers, h.size, fun t s hs => ?_⟩
 have h1 := scopedFr_look hsc hs
 have hden : s.den (ρ ++ ext) = s.den ρ := by
  have := SV.den_take (ρ ++ ext) loc.length s h1
  rw [← this]
  congr 1
  rw [← hl]
  simp
 rw [hden]
 exact h.slot t s hs
end
section
variable {P : Program} {Q : Exit → Act → World → Prop} {N : Nat} {w0 : World} {ntm : Nat} {F : List Nat → World → Prop}
abbrev recOf (fid : FuncId) (tmps : Array Value) (params : Array Tmp) (assign body : Code) (D : Nat) (st : LoopState) (pd : Option Code) : Loop := { state := st, pending := pd, fn := fid, tmps, params, assign, body, defers := D }
theorem listInW {ops : Array Oper} (hQ : ¬ LetsOut Q) : ∀ (l1 l2 : List Oper) (a : Act) (w : World), wpList P ops (Exit.then (wpListIn Fence.wide 0 P ops Q l2) Q) l1 a w → wpListIn Fence.wide 0 P ops Q (l1 ++ l2) a w
 | [], _, _, _, h => h
 | o :: l1, l2, a, w, h => by
  unfold wpList at h
  show wpListIn Fence.wide 0 P ops Q (o :: (l1 ++ l2)) a w
  unfold wpListIn
  split
  ·rename_i hw
   rw [if_pos hw] at h
   rcases h with h | ⟨_, h⟩
   ·have h1 := wp_then (fun _ _ hh => hh) h
    refine ⟨fun _ _ => trivial, ?_⟩
    show Oper.uponIn Fence.wide 0 P o a (wpListIn Fence.wide 0 P ops Q (l1 ++ l2)) Q ((o.semAt none a.eval).run P w)
    rw [Oper.semAt_none]
    unfold Oper.wp at h1
    generalize (execOp a.eval o).run P w = r at *
    cases r with
    | ok n w' =>
     cases n <;> simp only [Oper.upon] at h1 <;> simp only [Oper.uponIn]
     case value => exact listInW hQ l1 l2 _ _ h1
     case skip => exact listInW hQ l1 l2 _ _ h1
     case defer => exact listInW hQ l1 l2 _ _ h1
     case row => exact ⟨fun h0 => absurd h0 (by simp [Fence.wide]), (rowsIn_of_rows h1).mono fun _ _ hh => listInW hQ l1 l2 _ _ hh⟩
     case enter =>
      refine ⟨fun h0 => absurd h0 (by simp [Fence.wide]), (callsIn_wide (n := 0)).2 (h1.mono fun e w'' hh => ?_)⟩
      cases e with
      | returned v => exact listInW hQ l1 l2 _ _ hh
      | panicked c => exact hh
      | outgrown => exact hh
    | halt x w' =>
     cases x <;> simp only [Oper.upon] at h1 <;> simp only [Oper.uponIn]
     exact h1
   exact absurd (show LetsOut Q from h) hQ
  rename_i hw
  rw [if_neg hw] at h
  exact ⟨fun _ _ => trivial, listInW hQ l1 l2 _ _ h⟩
theorem listInW0 {ops : Array Oper} (hQ : ¬ LetsOut Q) (l : List Oper) (a : Act) (w : World) (h : wpList P ops Q l a w) : wpListIn Fence.wide 0 P ops Q l a w := by
 have := listInW (P := P) (ops := ops) hQ l [] a w
 rw [List.append_nil] at this
 refine this ?_
 have hQ2 : Exit.then (wpListIn Fence.wide 0 P ops Q []) Q = Q := by
  funext e a w
  cases e <;> rfl
 rw [hQ2]
 exact h
theorem At.range {X : Type} {s : S} {t : Tmp} {params : Array Tmp} {assign body : Code} {g : FuncId} {caps : List SV} (hpc : s.pc = .code (.rangeFunc (.tmp t) params assign body)) (hl : look s.fr t = some (.fn (.func g) caps)) (hb : bodied P g = true)
  (jmp : X → Option Code) (nl : X → Loc) (G : X → Nat → List Nat → World → Prop) (hsc : scopedFr s.loc.length s.fr = true)
  (iter : ∀ (D : Nat) (fid : FuncId) (ρ : List Nat) (a : Act) (w w1 : World), Inv N w0 ntm ρ s.fr s.loc a w → F ρ w → D = w.heap.size → w1 = (w.alloc (.deferred (some []))).alloc (.loop (recOf fid a.tmps params assign body D .ready none)) →
   Calls P g (SV.denL ρ (.v (.func (.yield (D + 1)) #[] #[]) :: caps)).toArray w1 fun e w3 => (∃ v, e = .returned v) ∧ ∃ x ρ3 r3, Grow w.heap.size ρ ρ3 ∧ WInv N w0 ρ3 (nl x) (w3.putObj (D + 1) (.loop { r3 with state := .exhausted })) ∧
    w3.heap[D + 1]? = some (.loop r3) ∧ r3.state ≠ .busy ∧ r3.pending = jmp x ∧ G x D ρ3 (w3.putObj (D + 1) (.loop { r3 with state := .exhausted })))
  (h : ∀ x D, @At (Md.mark D) P Q N w0 ntm (G x D) ⟨(match jmp x with | none => .exit .normal | some c => .code c), s.ks, s.fr, nl x⟩) : At P Q N w0 ntm F s := by
 intro ρ a w hi hf
 rw [hpc]
 show (Code.rangeFunc (.tmp t) params assign body).wp P (postK P s.ks Q) a w
 refine (wpIn_wide (n := 0)).1 (wpIn_rangeFunc fun fid _ => ?_)
 have hcall : ∃ d : Deferred, (resolve a.eval (rangeCall (.tmp t) (w.heap.size + 1)) 0).run P ((w.alloc (.deferred (some []))).alloc (.loop (recOf fid a.tmps params assign body w.heap.size .ready none))) = .ok d ((w.alloc (.deferred (some []))).alloc (.loop (recOf fid a.tmps params assign body w.heap.size .ready none))) ∧
   (invoke d.target d.args).run P ((w.alloc (.deferred (some []))).alloc (.loop (recOf fid a.tmps params assign body w.heap.size .ready none))) = .ok (.enter g (SV.denL ρ (.v (.func (.yield (w.heap.size + 1)) #[] #[]) :: caps)).toArray) ((w.alloc (.deferred (some []))).alloc (.loop (recOf fid a.tmps params assign body w.heap.size .ready none))) := by
  generalize ((w.alloc (.deferred (some []))).alloc (.loop (recOf fid a.tmps params assign body w.heap.size .ready none))) = w1
  have hev : a.eval (.tmp t) = .func (.func g) #[] (SV.denL ρ caps).toArray := by
   rw [evalS_sound hi.act (o := .tmp t) hl]; rfl
  unfold bodied at hb
  split at hb
  ·rename_i fn hfn
   simp only [Bool.and_eq_true, Bool.not_eq_true'] at hb
   have hbody : fn.body.isNone = false := by cases hq : fn.body <;> simp_all
   have hcf : ∀ xs, (callFunc g xs).run P w1 = .ok (.enter g xs) w1 := by
    intro xs
    unfold callFunc
    simp only [Sem.run_bind, run_program, Result.andThen_ok, hfn, hb.1, hbody, Bool.false_eq_true, if_false, Sem.run_pure]
   refine ⟨{ target := .fn (.func g) (SV.denL ρ caps).toArray, args := #[.func (.yield (w.heap.size + 1)) #[] #[]] }, ?_, ?_⟩
   ·have he : #[Operand.const (.func (.yield (w.heap.size + 1)) #[] #[])].map a.eval = #[.func (.yield (w.heap.size + 1)) #[] #[]] := by simp [Act.eval]
    simp only [rangeCall, resolve, hev, Deferred.ofValue, he, Sem.run_pure]
    rfl
   simp only [invoke, hcf]
   simp [SV.denL, SV.den]
  cases hb
 obtain ⟨d, hd1, hd2⟩ := hcall
 refine ⟨w.heap.size + 1, [{ target := .collected w.heap.size, args := #[] }], _, d, _, g, _, _, run_enterLoop_outer fid a.tmps params assign body, hd1, fun _ _ => trivial, hd2, fun h0 => absurd h0 (by simp [Fence.wide]), (callsIn_wide (n := 0)).2 ?_⟩
 refine (iter w.heap.size fid ρ a w _ hi hf rfl rfl).mono ?_
 rintro e w3 ⟨⟨v, rfl⟩, x, ρ3, r3, ⟨ext, rfl, hext⟩, hm3, hr3, hst, hpd, hG⟩
 refine ⟨r3.pending, _, run_endLoop hr3 hst, ?_⟩
 have hk := h x w.heap.size (ρ ++ ext) { a with defers := [{ target := .collected w.heap.size, args := #[] }] ++ a.defers } _ (@Inv.mk (Md.mark w.heap.size) _ _ _ _ _ _ _ _ (@AInv.mk (Md.mark w.heap.size) _ _ _ _ ?_ hi.act.size (hi.act.more (ext := ext) hi.mem.len hsc).slot) hm3) hG
 ·revert hk
  generalize w3.putObj (w.heap.size + 1) (.loop { r3 with state := .exhausted }) = w4
  rw [hpd]
  cases jmp x with
  | none =>
   intro hk
   have hk' : @postK (Md.mark w.heap.size) P s.ks Q .normal _ _ := hk
   rw [postK_md (md := Md.mark w.heap.size) rfl] at hk'
   exact hk'
  | some c =>
   intro hk
   have hk' : @CW (Md.mark w.heap.size) P c (@postK (Md.mark w.heap.size) P s.ks Q) _ _ := hk
   rw [postK_md (md := Md.mark w.heap.size) rfl, CW_md (md := Md.mark w.heap.size) rfl] at hk'
   exact (wpIn_wide (n := 0)).2 hk'
 show [_] ++ a.defers = [_]
 rw [hi.act.defers]
 rfl
theorem At.yield {X : Type} {ops : Array Oper} {o : Oper} {rest : List Oper} {ks : List K} {fr : Fr} {loc : Loc} {d : Tmp} {t : Tmp} {args : Array Operand} {tys : Array TypeId} {l : Nat} (vs : List SV)
  (hg : guardS ops fr o = some true) (hod : o.dst = some d) (hdn : Nat.blt d ntm = true) (ho : o.op = .call { callee := .value (.tmp t), args := args, argTypes := tys }) (hl : look fr t = some (.v (.func (.yield l) #[] #[]))) (hv : evalL fr args.toList = some vs)
  (hsc : scopedFr loc.length fr = true) (hQ : ¬ LetsOut (postK P ks Q)) (bv : X → Bool) (nl : X → Loc) (G : X → List Nat → World → Prop)
  (rnd : ∀ ρ a w, Inv N w0 ntm ρ fr loc a w → F ρ w → ∃ r, w.heap[l]? = some (.loop r) ∧ vs.length = r.params.size ∧
   RoundIn Fence.wide 0 P l r.fn ((r.params.zip (SV.denL ρ vs).toArray).foldl (fun tmps (t, a) => tmps.setIfInBounds t a) r.tmps) r.assign r.body w fun e w' => ∃ x ρ', e = .returned (.bool (bv x)) ∧ Grow w.heap.size ρ ρ' ∧ WInv N w0 ρ' (nl x) w' ∧ G x ρ' w')
  (h : ∀ x, At P Q N w0 ntm (G x) ⟨.ops ops rest, ks, (d, .v (.bool (bv x))) :: fr, nl x⟩) : At P Q N w0 ntm F ⟨.exit .normal, .next (wpListIn Fence.wide 0 P ops (postK P ks Q) (o :: rest)) :: ks, fr, loc⟩ := by
 intro ρ a w hi hf
 show wpListIn Fence.wide 0 P ops (postK P ks Q) (o :: rest) a w
 unfold wpListIn
 rw [if_pos (guardS_ok hi.act hg)]
 refine ⟨fun _ _ => trivial, ?_⟩
 show Oper.uponIn Fence.wide 0 P o a (wpListIn Fence.wide 0 P ops (postK P ks Q) rest) (postK P ks Q) ((o.semAt none a.eval).run P w)
 rw [Oper.semAt_none]
 obtain ⟨r, hr, hsz, hround⟩ := rnd ρ a w hi hf
 have hev : a.eval (.tmp t) = .func (.yield l) #[] #[] := by
  rw [evalS_sound hi.act (o := .tmp t) hl]; rfl
 have e2 := evalL_sound hi.act hv
 have e3 : args.map a.eval = (SV.denL ρ vs).toArray := Array.ext' (by rw [← e2]; simp)
 have hrun : (execOp a.eval o).run P w = .ok (.round l r.fn ((r.params.zip (SV.denL ρ vs).toArray).foldl (fun tmps (t, a) => tmps.setIfInBounds t a) r.tmps) r.assign r.body) w := by
  obtain ⟨dst, op, ty, pos, after, guard⟩ := o
  simp only at ho
  subst ho
  have hsz' : (SV.denL ρ vs).toArray.size = r.params.size := by simp [SV.denL_eq, hsz]
  have hy := run_yield (P := P) hr hsz'
  simp only [execOp, resolve, Deferred.ofValue, hev, invoke, Sem.run_bind, Sem.run_pure, Result.andThen_ok, e3]
  simpa using hy
 rw [hrun]
 show (_ → _) ∧ RoundIn Fence.wide (0 - 1) P l _ _ _ _ w _
 refine ⟨fun h0 => absurd h0 (by simp [Fence.wide]), hround.mono ?_⟩
 rintro e w' ⟨x, ρ', rfl, ⟨ext, rfl, hext⟩, hm, hG⟩
 refine listInW0 hQ _ _ _ ?_
 have hp : putS ntm fr o.dst (.v (.bool (bv x))) = some ((d, .v (.bool (bv x))) :: fr) := by
  rw [hod]
  simp [putS, hdn]
 exact h x (ρ ++ ext) (a.put o.dst (.bool (bv x))) w' ⟨putS_ok (s := .v (.bool (bv x))) (hi.act.more (ext := ext) hi.mem.len hsc) hp, hm⟩ hG
/-! ### facts when a record turns -/
theorem Row.putObj {base e size : Nat} {A : Option Addr} {n c : Nat} {xs : List Value} {ρ : List Nat} {w : World} (h : Row base e size A n c xs ρ w) {r : Nat} {o0 : Obj} (hr : w.heap[r]? = some o0) (ho : ∀ c t f, o0 ≠ .cells c t f) (o : Obj) : Row base e size A n c xs ρ (w.putObj r o) := by
 refine ⟨?_, h.2⟩
 obtain ⟨h1, h2⟩ := h.1
 refine ⟨h1, ?_⟩
 rcases h2 with h2 | ⟨g, cap, cur, hv, hb, hc, hrest⟩
 ·exact .inl h2
 refine .inr ⟨g, cap, cur, hv, hb, ?_, hrest⟩
 rw [World.putObj_heap_other (fun e => by rw [e, hr] at hc; injection hc with hc; exact ho _ _ _ hc)]
 exact hc
/-! ### the round -/
theorem roundOf {l : Nat} {fid : FuncId} {tmps : Array Value} {assign body : Code} {w : World} {R : Ending → World → Prop} {ρ : List Nat} {loc : Loc} {fr fr' : Fr} {r : Loop} {F0 : List Nat → World → Prop}
  (hm : WInv N w0 ρ loc w) (hF : F0 ρ w) (hsz : tmps.size = ntm) (hfr : ∀ t s, look fr t = some s → tmps[t]? = some (s.den ρ)) (hfa : flat assign = true) (hfb : flat body = true)
  (hrec : ∀ ρ w, F0 ρ w → w.heap[l]? = some (.loop r)) (hst : r.state = .ready)
  (asg : @At (Md.rnd l) P (fun _ _ _ => False) N w0 ntm F0 ⟨.code assign, [.next (fun a' w' => ∃ ρ', @Inv (Md.rnd l) N w0 ntm ρ' fr' loc a' w' ∧ F0 ρ' w')], fr, loc⟩)
  (h : ∀ ρ' w', WInv N w0 ρ' loc w' → F0 ρ' w' → ∀ a', @AInv (Md.rnd l) ntm ρ' fr' a' → @CW (Md.rnd l) P body (roundPost P l R) a' (w'.putObj l (.loop { r with state := .busy }))) : RoundIn Fence.wide 0 P l fid tmps assign body w R := by
 refine roundIn_of_wpIn trivial ?_
 have h1 := asg ρ { tmps := tmps, defers := [] } w (@Inv.mk (Md.rnd l) _ _ _ _ _ _ _ _ (@AInv.mk (Md.rnd l) _ _ _ _ rfl hsz hfr) hm) hF
 have h2 : @CW (Md.rnd l) P assign (Exit.then (fun a' w' => ∃ ρ', @Inv (Md.rnd l) N w0 ntm ρ' fr' loc a' w' ∧ F0 ρ' w') (fun _ _ _ => False)) { tmps := tmps, defers := [] } w := h1
 refine wpIn_mono ((@CW_some P _ (Md.rnd l) l rfl assign _ _).1 h2 hfa (fun ⟨_, _, h0⟩ => h0)) ?_
 intro e a' w' hq
 cases e with
 | normal =>
  obtain ⟨ρ', hi, hf⟩ := hq
  have hw := hrec ρ' w' hf
  refine ⟨_, run_beginRound hw hst, ?_⟩
  exact (@CW_some P _ (Md.rnd l) l rfl body _ _).1 (h ρ' w' (@Inv.mem (Md.rnd l) _ _ _ _ _ _ _ _ hi) hf a' (@Inv.act (Md.rnd l) _ _ _ _ _ _ _ _ hi)) hfb (fun ⟨_, _, h0⟩ => h0)
 | _ => exact hq
end
section
variable {P : Program} {N : Nat} {w0 : World} {ntm : Nat} {F : List Nat → World → Prop}
variable [Md]
def endOf : Exit → Option (Option Code)
 | .normal => some none
 | .ret => some (some .ret)
 | .exit id => some (some (.exit id))
 | _ => none
theorem At.rndEnd {l : Nat} {R : Ending → World → Prop} {s : S} {e : Exit} (jump : Option Code) (hp : s.pc = .exit e) (hk : s.ks = []) (he : endOf e = some jump)
  (h : ∀ ρ w, WInv N w0 ρ s.loc w → F ρ w → ∃ r, w.heap[l]? = some (.loop r) ∧ R (.returned (.bool jump.isNone)) (w.putObj l (.loop { r with state := if jump.isNone then .ready else .done, pending := jump }))) : At P (roundPost P l R) N w0 ntm F s := by
 intro ρ a w hi hf
 obtain ⟨r, hr, hR⟩ := h ρ w hi.mem hf
 rw [hp, hk]
 cases e with
 | normal => injection he with he; subst he; exact ⟨_, _, run_endRound _ hr, hR⟩
 | ret => injection he with he; subst he; exact ⟨_, _, run_endRound _ hr, hR⟩
 | exit id => injection he with he; subst he; exact ⟨_, _, run_endRound _ hr, hR⟩
 | _ => cases he
variable {Q : Exit → Act → World → Prop}
theorem At.newcallV {s : S} (g : FuncId) (vs : List SV) (v v2 : SV) (locc : Loc) (hF : Stable F) (hc : s.call? = some (g, vs)) (hb : bodied P g = true) (hd : s.dstOk ntm = true) (hp : s.plain = true)
  (hsc : scopedFr s.loc.length s.fr = true) (hl : scopedLoc s.loc.length s.loc = true) (hv : ∀ ρ ρc : List Nat, ρ.length = s.loc.length → v2.den (ρ ++ ρc) = v.den ρc) (hcl : scopedLoc 0 locc = true)
  (hr : ∀ ρ w, WInv N w0 ρ s.loc w → F ρ w → Calls P g (SV.denL ρ vs).toArray w fun e' w' => ∃ ρc, e' = .returned (v.den ρc) ∧ WInv w.heap.size w ρc locc w')
  (h : At P Q N w0 ntm F ((s.tail ntm v2).withLoc (s.loc ++ locc))) : At P Q N w0 ntm F s := by
 refine At.callg (X := Unit) g vs (fun _ => v2) (fun _ => s.loc ++ locc) (fun _ => F) hc hb hd hp hsc ?_ (fun _ => h)
 intro ρ w hm hf
 refine (hr ρ w hm hf).mono ?_
 rintro e' w' ⟨ρc, rfl, km⟩
 have hblk : ∀ k, k < w.heap.size → w'.heap[k]? = w.heap[k]? := km.below.block
 have hgrow : Grow w.heap.size ρ (ρ ++ ρc) := ⟨ρc, rfl, fun x hx => (km.ge x hx).1⟩
 have hlen := hm.len
 refine ⟨(), ρ ++ ρc, by rw [hv ρ ρc hm.len], hgrow, ⟨hm.below.trans (km.below.mono hm.hN), Nat.le_trans hm.hN km.below.size, by simp [hm.len, km.len], ?_, ?_, ?_⟩, hF ρ w (ρ ++ ρc) w' hgrow ⟨km.below.os, km.below.tape, km.below.output, km.below.size, fun k hk _ => hblk k hk⟩ hf⟩
 ·rw [List.nodup_append]
  refine ⟨hm.nodup, km.nodup, fun x hx y hy => ?_⟩
  have := (hm.ge x hx).2
  have := (km.ge y hy).1
  omega
 ·intro b hb
  rcases List.mem_append.1 hb with hb | hb
  ·exact ⟨(hm.ge b hb).1, Nat.lt_of_lt_of_le (hm.ge b hb).2 km.below.size⟩
  exact ⟨Nat.le_trans hm.hN (km.ge b hb).1, (km.ge b hb).2⟩
 intro i c t hi
 by_cases hlt : i < s.loc.length
 ·rw [List.getElem?_append_left hlt] at hi
  have hold := hm.cells i c t hi
  have hs := scopedLoc_get hl hi
  have hn : nth (ρ ++ ρc) i = nth ρ i := by simp only [nth, List.getD]; rw [List.getElem?_append_left (by omega)]
  have hden : SV.denL (ρ ++ ρc) c = SV.denL ρ c := by
   rw [← SV.denL_take (ρ ++ ρc) s.loc.length c hs, ← hlen]
   simp
  rw [hn, hden, hblk _ (Array.getElem?_eq_some_iff.1 hold).1]
  exact hold
 rw [List.getElem?_append_right (by omega)] at hi
 have hn : nth (ρ ++ ρc) i = nth ρc (i - s.loc.length) := by
  simp only [nth, List.getD]
  rw [List.getElem?_append_right (by omega), hlen]
 rw [hn, denL_closed (ρ' := ρc) (scopedLoc_get hcl hi)]
 exact km.cells _ c t hi
end
end Go.Sx
end
