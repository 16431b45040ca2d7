import Derived.Test.YtkjnbafdmjakgaaDoorFN
import Derived.WideMake
set_option linter.unusedSimpArgs false
set_option linter.unusedVariables false
/-! A map of one's own: made, looked up, written. -/
namespace Go.Sx
open Go.RowKit
section
variable {P : Program} {Q : Exit → Act → World → Prop} {N : Nat} {w0 : World} {ntm : Nat} {F : List Nat → World → Prop}

/-- Block m holds this map, and is no local block. -/
def MapF (m : Nat) (es : Array MapEntry) (clk : Nat) (ρ : List Nat) (w : World) : Prop := w.heap[m]? = some (.map es clk) ∧ m ∉ ρ
theorem MapF.stable {m : Nat} {es : Array MapEntry} {clk : Nat} : Stable (MapF m es clk) := fun ρ w ρ' w' hg hk h => by
  have hlt := (Array.getElem?_eq_some_iff.1 h.1).1
  refine ⟨(hk.block m hlt h.2).trans h.1, fun hm => ?_⟩
  rcases hg.of_mem hm with h1 | h1
  · exact h.2 h1
  · omega
theorem MapF.fewer {m : Nat} {es : Array MapEntry} {clk : Nat} {ρ : List Nat} {w : World} (k : Nat) (h : MapF m es clk ρ w) : MapF m es clk (ρ.take k) w := ⟨h.1, fun hm => h.2 (List.mem_of_mem_take hm)⟩

def mkQ (o : Oper) : Bool := match o.op with | .makeMap _ none => true | _ => false
def mkI (ntm : Nat) (s : S) : Bool := match s.head?, s.dstOk ntm, s.plain with
  | some o, true, true => mkQ o
  | _, _, _ => false
theorem run_mkQ {o : Oper} {a : Act} {w : World} (h : mkQ o = true) : (execOp a.eval o).run P w = .ok (.value (.map (some w.heap.size))) (w.alloc (.map #[] 0)) := by
  obtain ⟨dst, op, ty, pos, after, guard⟩ := o
  unfold mkQ at h
  simp only at h
  split at h
  · simp [execOp, run_makeMap_plain]
  · cases h
theorem Keep.alloc (ρ : List Nat) (w : World) (o : Obj) : Keep ρ w (w.alloc o) :=
  .of_below ((Below.refl _ _).alloc (Nat.le_refl _) o)
theorem WInv.more {ρ : List Nat} {loc : Loc} {w : World} (h : WInv N w0 ρ loc w) (o : Obj) : WInv N w0 ρ loc (w.alloc o) := by
  have hs : w.heap.size ≤ (w.alloc o).heap.size := (Keep.alloc ρ w o).size
  refine ⟨h.below.alloc h.hN o, Nat.le_trans h.hN hs, h.len, h.nodup, fun b hb => ⟨(h.ge b hb).1, Nat.lt_of_lt_of_le (h.ge b hb).2 hs⟩, fun i c t hi => ?_⟩
  have hold := h.cells i c t hi
  rw [((Below.refl w.heap.size w).alloc (Nat.le_refl _) o).block _ (Array.getElem?_eq_some_iff.1 hold).1]
  exact hold
theorem At.mkMap {s : S} (hq : mkI ntm s = true) (hF : Stable F) (h : ∀ m, N ≤ m → At P Q N w0 ntm (fun ρ w => F ρ w ∧ MapF m #[] 0 ρ w) (s.tail ntm (.v (.map (some m))))) : At P Q N w0 ntm F s := by
  unfold mkI at hq
  split at hq
  · rename_i o ho hd hp
    refine At.opx (X := { m : Nat // N ≤ m }) o (fun m => .v (.map (some m.1))) (fun m ρ w => F ρ w ∧ MapF m.1 #[] 0 ρ w) ho hd hp ?_ (fun m => h m.1 m.2)
    intro ρ a w hi hf
    refine ⟨⟨w.heap.size, hi.mem.hN⟩, w.alloc (.map #[] 0), run_mkQ hq, hi.mem.more _, hF ρ w ρ _ ⟨[], by simp, by simp⟩ (Keep.alloc ρ w _) hf, ?_, fun hm => ?_⟩
    · rw [show (w.alloc _).heap = w.heap.push _ from rfl]
      simp
    · have := (hi.mem.ge w.heap.size hm).2
      omega
  · cases hq

/-- A look into a map. -/
def lkQ (P : Program) (fr : Fr) (o : Oper) : Option (Nat × SV × Value) := match o.op with
  | .lookup t x k false => match evalS fr x, evalS fr k, P.underlying t with
    | some (.v (.map (some m))), some sk, some (.map kt et) => match P.underlying kt, (P.info? et).bind TypeInfo.zero with
       | some .string, some z => some (m, sk, z)
       | _, _ => none
    | _, _, _ => none
  | _ => none
theorem run_zeroInfo {et : TypeId} {z : Value} (h : (P.info? et).bind TypeInfo.zero = some z) (w : World) : (zeroValue et).run P w = .ok z w := by
  obtain ⟨i, h1, h2⟩ := Option.bind_eq_some_iff.1 h
  simp [zeroValue, typeInfo, h1, Result.andThen, h2]
theorem run_lkQ {ρ : List Nat} {fr : Fr} {a : Act} (ha : AInv ntm ρ fr a) {o : Oper} {m : Nat} {sk : SV} {z : Value} (hq : lkQ P fr o = some (m, sk, z)) {k : ByteArray} (hk : sk.den ρ = .string k) {w : World} {es : Array MapEntry} {clk : Nat} (hb : w.heap[m]? = some (.map es clk))
    {r : Option (Nat × Value)} (hr : Instr.findNow .string (.string k) es.toList 0 = some r) : (execOp a.eval o).run P w = .ok (.value ((r.map (·.2)).getD z)) w := by
  obtain ⟨dst, op, ty, pos, after, guard⟩ := o
  unfold lkQ at hq
  simp only at hq
  split at hq
  · split at hq
    · rename_i m' sk' kt et hx hsk hu
      split at hq
      · rename_i z' hkt hz
        simp only [Option.some.injEq, Prod.mk.injEq] at hq
        obtain ⟨rfl, rfl, rfl⟩ := hq
        have hc : ∀ b, (Instr.checkKey b 10000 kt (.string k)).run P w = .ok () w := fun b => MapKept.run_checkKey (k := .string k) hkt (by simp [MapKept.IsKey]) b 9999
        cases r with
        | none => simp [execOp, evalS_sound ha hx, evalS_sound ha hsk, hk, SV.den, Instr.lookup, run_underlying hu, MapKept.run_getObj_map hb, hc, MapKept.run_findKey hkt hr, run_zeroInfo hz, Result.andThen]
        | some iv => 
          obtain ⟨i, v⟩ := iv
          simp [execOp, evalS_sound ha hx, evalS_sound ha hsk, hk, SV.den, Instr.lookup, run_underlying hu, MapKept.run_getObj_map hb, hc, MapKept.run_findKey hkt hr, Result.andThen]
      · cases hq
    · cases hq
  · cases hq
def lkI (P : Program) (ntm : Nat) (s : S) : Option (Nat × SV × Value) := match s.head?, s.dstOk ntm with
  | some o, true => lkQ P s.fr o
  | _, _ => none
theorem At.lk {s : S} (m : Nat) (sk : SV) (z : Value) (k : ByteArray) (es : Array MapEntry) (clk : Nat) (r : Option (Nat × Value)) (x : SV) (hq : lkI P ntm s = some (m, sk, z)) (hk : ∀ ρ, sk.den ρ = .string k) (hr : Instr.findNow .string (.string k) es.toList 0 = some r) (hx : ∀ ρ, x.den ρ = (r.map (·.2)).getD z)
    (hF : Stable F) (hm : ∀ ρ w, F ρ w → MapF m es clk ρ w) (h : At P Q N w0 ntm F (s.tail ntm x)) : At P Q N w0 ntm F s := by
  unfold lkI at hq
  split at hq
  · rename_i o ho hd
    refine At.op hF o x ho hd ?_ h
    intro ρ a w hi hf
    rw [hx]
    exact run_lkQ hi.act hq (hk ρ) (hm ρ w hf).1 hr
  · cases hq

/-- A map written. -/
def muQ (P : Program) (fr : Fr) (o : Oper) : Option (Nat × SV × SV) := match o.dst, o.op with
  | none, .mapUpdate t x k v => match evalS fr x, evalS fr k, evalS fr v, P.underlying t with
    | some (.v (.map (some m))), some sk, some sv, some (.map kt et) => match P.underlying kt with
       | some .string => some (m, sk, sv)
       | _ => none
    | _, _, _, _ => none
  | _, _ => none
/-- The map behind the writing: a new key's, or the one key's. -/
def putM (k : ByteArray) (v : Value) (es : List MapEntry) (clk : Nat) : Option (Array MapEntry × Nat) := match es with
  | [] => some (#[{ key := .string k, val := v, born := clk }], clk + 1)
  | [⟨.string k', _, b⟩] => match k == k' with
    | true => some (#[{ key := .string k, val := v, born := b }], clk)
    | false => none
  | _ => none
theorem run_muQ {ρ : List Nat} {fr : Fr} {a : Act} (ha : AInv ntm ρ fr a) {o : Oper} {m : Nat} {sk sv : SV} (hq : muQ P fr o = some (m, sk, sv)) {k : ByteArray} (hk : sk.den ρ = .string k) {v : Value} (hv : sv.den ρ = v) {w : World} {es : List MapEntry} {clk : Nat} (hb : w.heap[m]? = some (.map es.toArray clk))
    {es' : Array MapEntry} {clk' : Nat} (hr : putM k v es clk = some (es', clk')) : o.dst = none ∧ (execOp a.eval o).run P w = .ok .skip { w with heap := w.heap.setIfInBounds m (.map es' clk') } := by
  obtain ⟨dst, op, ty, pos, after, guard⟩ := o
  unfold muQ at hq
  simp only at hq
  split at hq
  · rename_i t x k0 v0
    split at hq
    · rename_i m' sk' sv' kt et hx hsk hsv hu
      split at hq
      · rename_i hkt
        simp only [Option.some.injEq, Prod.mk.injEq] at hq
        obtain ⟨rfl, rfl, rfl⟩ := hq
        refine ⟨rfl, ?_⟩
        unfold putM at hr
        split at hr
        · simp only [Option.some.injEq, Prod.mk.injEq] at hr
          obtain ⟨rfl, rfl⟩ := hr
          simp only [execOp, evalS_sound ha hx, evalS_sound ha hsk, evalS_sound ha hsv, hk, hv, SV.den, Sem.run_bind, run_mapUpdate_first w _ _ _ _ _ _ _ hu hkt hb, Result.andThen_ok, Sem.run_pure]
        · rename_i k' v' b
          split at hr
          · rename_i hkk
            have hkk := (MapKept.bytes_beq _ _).1 hkk
            subst hkk
            simp only [Option.some.injEq, Prod.mk.injEq] at hr
            obtain ⟨rfl, rfl⟩ := hr
            have hf : Instr.findNow .string (.string k) [(⟨.string k, v', b⟩ : MapEntry)] 0 = some (some (0, v')) := by simp [Instr.findNow, Instr.sameNow, (MapKept.bytes_beq k k).2 rfl]
            have hc : (Instr.checkKey false 10000 kt (.string k)).run P w = .ok () w := MapKept.run_checkKey (k := .string k) hkt (by simp [MapKept.IsKey]) false 9999
            have hks : (Instr.keyThatStays (.string k) (.string k)).run P w = .ok (.string k) w := MapKept.run_keyThatStays (d := .string) (by simp [MapKept.IsKey])
            simp [execOp, evalS_sound ha hx, evalS_sound ha hsk, evalS_sound ha hsv, hk, hv, SV.den, Instr.mapUpdate, run_underlying hu, MapKept.run_getObj_map hb, hc, MapKept.run_findKey hkt hf, hks, MapKept.run_setObj_map _ hb, Result.andThen]
          · cases hr
        · cases hr
      · cases hq
    · cases hq
  · cases hq
theorem WInv.setMap {ρ : List Nat} {loc : Loc} {w : World} (h : WInv N w0 ρ loc w) {m : Nat} (hN : N ≤ m) (hm : m ∉ ρ) (o : Obj) : WInv N w0 ρ loc { w with heap := w.heap.setIfInBounds m o } := by
  have hne : ∀ g, g ≠ m → (w.heap.setIfInBounds m o)[g]? = w.heap[g]? := fun g hg => by simp [Ne.symm hg]
  refine ⟨h.below.trans ⟨rfl, rfl, rfl, by simp, fun k hk => hne k (by omega)⟩, by simpa using h.hN, h.len, h.nodup, fun b hb => ⟨(h.ge b hb).1, by simpa using (h.ge b hb).2⟩, fun i c t hi => ?_⟩
  have hold := h.cells i c t hi
  have hmm : nth ρ i ∈ ρ := by
    have : i < ρ.length := by rw [h.len]; exact (List.getElem?_eq_some_iff.1 hi).1
    simp [nth, List.getD, this]
  rw [show ({ w with heap := w.heap.setIfInBounds m o } : World).heap = w.heap.setIfInBounds m o from rfl, hne _ (fun e => hm (e ▸ hmm))]
  exact hold
def muI (P : Program) (s : S) : Option (Nat × SV × SV) := match s.head?, s.plain with
  | some o, true => muQ P s.fr o
  | _, _ => none
theorem At.mapPut {G : List Nat → World → Prop} {s : S} (m : Nat) (sk sv : SV) (k : ByteArray) (v : Value) (es : List MapEntry) (clk : Nat) (es' : Array MapEntry) (clk' : Nat) (hq : muI P s = some (m, sk, sv)) (hk : ∀ ρ, sk.den ρ = .string k) (hv : ∀ ρ, sv.den ρ = v)
    (hr : putM k v es clk = some (es', clk')) (hN : N ≤ m) (hm : ∀ ρ w, F ρ w → MapF m es.toArray clk ρ w) (hG : ∀ ρ w, F ρ w → G ρ { w with heap := w.heap.setIfInBounds m (.map es' clk') })
    (h : At P Q N w0 ntm G s.past) : At P Q N w0 ntm F s := by
  unfold muI at hq
  split at hq
  · rename_i o ho hpl
    obtain ⟨all, rest, h1, h2, h3⟩ := S.past_at ho hpl
    intro ρ act w hi hf
    obtain ⟨hb, hmr⟩ := hm ρ w hf
    obtain ⟨hd, hrun⟩ := run_muQ hi.act hq (hk ρ) (hv ρ) hb hr
    have hk' := h ρ act _ (by rw [h2]; exact ⟨hi.act, hi.mem.setMap hN hmr _⟩) (hG ρ w hf)
    rw [h2] at hk'
    rw [h1]
    show wpList P all _ (o :: rest) act w
    unfold wpList
    rw [if_pos (guardS_ok hi.act h3)]
    refine .inl ?_
    unfold Oper.wp
    rw [hrun, Oper.upon_skip, hd]
    exact hk'
  · cases hq
theorem MapF.set {m : Nat} {es : Array MapEntry} {clk : Nat} {ρ : List Nat} {w : World} (h : MapF m es clk ρ w) (es' : Array MapEntry) (clk' : Nat) : MapF m es' clk' ρ { w with heap := w.heap.setIfInBounds m (.map es' clk') } :=
  ⟨(MapKept.heap_set h.1).1, h.2⟩
/-- A row of one's own does not feel that a map is written. -/
theorem Row.setMap {base e size : Nat} {A : Option Addr} {n c : Nat} {xs : List Value} {ρ : List Nat} {w : World} (h : Row base e size A n c xs ρ w) {m : Nat} {es : Array MapEntry} {clk : Nat} (hm : w.heap[m]? = some (.map es clk)) (o : Obj) : Row base e size A n c xs ρ { w with heap := w.heap.setIfInBounds m o } := by
  refine ⟨⟨h.1.1, ?_⟩, h.2⟩
  rcases h.1.2 with h2 | ⟨g, cap, cur, hv, hb, hc, hr⟩
  · exact .inl h2
  · refine .inr ⟨g, cap, cur, hv, hb, ?_, hr⟩
    rw [← hc]
    exact (MapKept.heap_set hm).2 g fun e => by subst e; rw [hm] at hc; cases hc
theorem RowF.setMap {wb : World} {ok : Nat → Prop} {ρ0 : List Nat} {base e size : Nat} {A : Option Addr} {n c : Nat} {xs : List Value} {ρ : List Nat} {w : World} (h : RowF wb ok ρ0 base e size A n c xs ρ w) {m : Nat} {es : Array MapEntry} {clk : Nat} (hm : w.heap[m]? = some (.map es clk)) (hN : wb.heap.size ≤ m) (o : Obj) : RowF wb ok ρ0 base e size A n c xs ρ { w with heap := w.heap.setIfInBounds m o } :=
  ⟨⟨h.1.1.setMap hm o, by simpa using h.1.2⟩, h.2.1.chg (ok' := fun k => k = m) ⟨rfl, rfl, rfl, by simp, fun k _ hk => by simp [Ne.symm hk]⟩ (fun g _ hg => .inr (by omega)), h.2.2⟩
/-! ### whole elements stored into a row of one's own -/
def stnQ (P : Program) (fr : Fr) (o : Oper) : Option (Addr × List SV) :=
  match o.dst, o.op with
  | none, .store t x y => match evalS fr x, (evalS fr y).bind SV.cells?, sizeT P t with
    | some (.v (.pointer (some a))), some l, some n => match oneL l, Nat.beq l.length n with
      | true, true => some (a, l)
      | _, _ => none
    | _, _, _ => none
  | _, _ => none
theorem run_stnQ {ρ : List Nat} {fr : Fr} {a : Act} {w : World} (ha : AInv ntm ρ fr a) {o : Oper} {l : List SV} {b i : Nat} (h : stnQ P fr o = some (⟨b, i, none⟩, l)) (hc : ∀ j, j < l.length → (w.cell? ⟨b, i + j, none⟩).isSome = true) (hz : ∀ j, j < l.length → w.frozen? ⟨b, i + j, none⟩ = false) :
    o.dst = none ∧ (execOp a.eval o).run P w = .ok .skip (w.setCells b i (SV.denL ρ l)) := by
  obtain ⟨dst, op, ty, pos, after, guard⟩ := o
  unfold stnQ at h
  simp only at h
  split at h
  · rename_i t x y
    split at h
    · rename_i a' l' n' hx hy hn
      split at h
      · rename_i hone hlen
        simp only [Option.some.injEq, Prod.mk.injEq] at h
        obtain ⟨rfl, rfl⟩ := h
        refine ⟨rfl, ?_⟩
        obtain ⟨s, hs, hcs⟩ := Option.bind_eq_some_iff.1 hy
        have hcells := SV.cells?_den (ρ := ρ) hcs
        have hlen := Nat.eq_of_beq_eq_true hlen
        have hl2 : (SV.denL ρ l').length = l'.length := by simp [SV.denL_eq]
        have hst := run_storeCells_cells (P := P) b i (SV.denL ρ l') 0 w (fun j hj => by simpa using hc j (by omega)) (fun j hj => by simpa using hz j (by omega)) (oneL_den hone)
        rw [Nat.add_zero] at hst
        unfold execOp
        simp only [evalS_sound ha hx, evalS_sound ha hs, SV.den, Instr.storeAt, Instr.sureAddr, storeVar, Sem.run_bind, Sem.run_pure, Result.andThen_ok, run_sizeT hn, hcells, List.size_toArray, hl2, hlen, ne_eq, not_true_eq_false, if_false, hst]
      · cases h
    · cases h
  · cases h
theorem grown_trans {a b c : World} {row : Option Nat} (h : a.grownBy b row) (k : b.grownBy c row) : a.grownBy c row :=
  ⟨k.os.trans h.os, k.tape.trans h.tape, k.output.trans h.output, Nat.le_trans h.size k.size, fun i hi hn => (k.block i (Nat.lt_of_lt_of_le hi h.size) hn).trans (h.block i hi hn)⟩
theorem storedN {base e size n cap g : Nat} : ∀ (vs : List Value) (j : Nat) (w : World) (xs : List Value), w.ownsRow base e size (.slice (some ⟨g, 0, none⟩) n cap) n xs →
    ∃ xs', (w.setCells g j vs).ownsRow base e size (.slice (some ⟨g, 0, none⟩) n cap) n xs' ∧ w.grownBy (w.setCells g j vs) (some g)
  | [], j, w, xs, h => ⟨xs, h, rfl, rfl, rfl, Nat.le_refl _, fun _ _ _ => rfl⟩
  | v :: vs, j, w, xs, h => by
    obtain ⟨h1, h2⟩ := h.stored j v
    obtain ⟨xs', h3, h4⟩ := storedN vs (j + 1) _ _ h1
    exact ⟨xs', h3, grown_trans h2 h4⟩
def stnI (P : Program) (s : S) : Option (Addr × List SV) :=
  match s.head?, s.plain with
  | some o, true => stnQ P s.fr o
  | _, _ => none
/-- Whole elements stored into a row of one's own; what is stored is forgotten. -/
theorem At.stRowN {s : S} {wb : World} {ok : Nat → Prop} {ρ0 : List Nat} {base e size n c : Nat} {a : Addr} {xs : List Value} (j : Nat) (p : Addr) (l : List SV) (hq : stnI P s = some (p, l)) (hp : p = a.add j) (hj : j + l.length ≤ n * size) (hN : N ≤ base)
    (h : ∀ ys, At P Q N w0 ntm (RowF wb ok ρ0 base e size (some a) n c ys) s.past) : At P Q N w0 ntm (RowF wb ok ρ0 base e size (some a) n c xs) s := by
  unfold stnI at hq
  split at hq
  · rename_i o ho hpl
    obtain ⟨all, rest, h1, h2, h3⟩ := S.past_at ho hpl
    intro ρ act w hi hf
    obtain ⟨⟨hrow, hb⟩, hfr, hblk⟩ := hf
    have ha : a = ⟨a.block, 0, none⟩ := by
      rcases hrow.1.2 with ⟨h', _⟩ | ⟨g, cap, cur, hv, _⟩
      · cases h'
      · injection hv with hv _ _
        injection hv with hv
        rw [hv]
    generalize hg : a.block = g at ha
    subst ha
    have hlen : xs.length = n * size := hrow.1.1
    have hp' : p = ⟨g, j, none⟩ := by rw [hp, add_ok, Nat.zero_add]
    subst hp'
    obtain ⟨hd, hrun⟩ := run_stnQ hi.act hq (w := w) (fun k hk => by
      obtain ⟨g', hg', hcell⟩ := hrow.cell (j := j + k) (by omega)
      injection hg' with hg'
      injection hg' with hg' _ _
      subst hg'
      rw [hcell, List.getElem?_eq_getElem (by omega)]
      rfl) (fun k hk => hrow.1.frozenAt (j + k))
    obtain ⟨ys, hs1, hs2⟩ := storedN (SV.denL ρ l) j w xs hrow.1
    have hown : ∀ k, some g = some k → N ≤ k ∧ k ∉ ρ := fun k hk => by
      injection hk with hk
      subst hk
      exact ⟨Nat.le_trans hN (hrow.1.lt g rfl).1, hrow.2 g rfl⟩
    have hk := h ys ρ act _ (by rw [h2]; exact ⟨hi.act, hi.mem.grown hs2 hown⟩) ⟨⟨⟨hs1, hrow.2⟩, Nat.le_trans hb hs2.size⟩, hfr.grown hs2 fun k hk => hblk k (by injection hk with hk; subst hk; rfl), hblk⟩
    rw [h2] at hk
    rw [h1]
    show wpList P all _ (o :: rest) act w
    unfold wpList
    rw [if_pos (guardS_ok hi.act h3)]
    refine .inl ?_
    unfold Oper.wp
    rw [hrun, Oper.upon_skip, hd]
    exact hk
  · cases hq
end
end Go.Sx
