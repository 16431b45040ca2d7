/- Joined texts: SxJ. -/
import Derived.StillTail
import Derived.Deep.Quiet
import Derived.WalkKit
import Derived.Laws.CopyRow
import Derived.KernelRfl
import Derived.Lib.SliceRun
import Derived.WalkSpells
import Derived.Laws.Tables
import Derived.Laws.StructEq
import Derived.TacticsIn
import Derived.OrdersIn
import Derived.Scope
import Derived.LoopN
set_option linter.unusedSectionVars false
set_option linter.unusedSimpArgs false
set_option linter.unusedVariables false
section
/- A region that draws its order: quiet operations first, in any order, then a tail in one forced order. -/
namespace Go.Sx
section
variable {P : Program} {ops : Array Oper} {md : Region.Mode} {C : World → Prop}
def wpAnyP (P : Program) (md : Region.Mode) (ops : Array Oper) (C : World → Prop) (n : Nat) (L : Array Bool → Act → Prop) : Nat → Array Bool → Act → Prop
 | 0, listed, a => L listed a
 | f + 1, listed, a => Region.ready md ops listed ≠ [] ∧ ∀ i ∈ Region.ready md ops listed, i < n ∧ qOp P ops C i (wpAnyP P md ops C n L f (listed.setIfInBounds i true)) a
theorem wpAny_of_P {n g : Nat} {L : Array Bool → Act → Prop} {Q' : Exit → Act → World → Prop} (hL : ∀ listed a w, C w → L listed a → wpAny P md ops Q' g listed a w) :
  ∀ (f : Nat) (listed : Array Bool) (a : Act) (w : World), C w → wpAnyP P md ops C n L f listed a → wpAny P md ops Q' (f + g) listed a w
 | 0, listed, a, w, hw, h => by rw [Nat.zero_add]; exact hL _ _ _ hw h
 | f + 1, listed, a, w, hw, h => by
  rw [show f + 1 + g = (f + g) + 1 by omega]
  exact ⟨fun h0 => absurd h0 h.1, fun i hi => wpOp_of_qOp hw (fun a' w' hw' h' => wpAny_of_P hL f _ a' w' hw' h') (h.2 i hi).2⟩
theorem wpAnyP_first {n i : Nat} {oi : Oper} {v : Value} {L : Array Bool → Act → Prop} (hi : ops[i]? = some oi) (hsel : ∀ (j : Nat) (o : Oper) cs b, ops[j]? = some o → o.op ≠ .select cs b)
  (hs : Region.sinkB md ops n = true) (hc : Region.chainB md ops n = true) (hn : n < ops.size) (hin : i < n) (hdone : ∀ listed a, L listed a → ∀ j ∈ Region.ready md ops listed, n ≤ j) :
  ∀ (f : Nat) (listed : Array Bool) (a : Act), HeadInv md ops n listed →
   (∀ j oj, ops[j]? = some oj → j ≠ i → listed.getD j true = false → (∀ e ∈ oj.after, Region.binds md e = true → e.on ≠ i) → oi.apart ops oj = true) →
   i ∈ Region.ready md ops listed → YieldsIn P ops C oi v a →
   wpAnyP P md ops C n L f (listed.setIfInBounds i true) (a.put oi.dst v) → wpAnyP P md ops C n L (f + 1) listed a := by
 have first : ∀ (f : Nat) (listed : Array Bool) (a : Act), HeadInv md ops n listed → i ∈ Region.ready md ops listed → ∀ j ∈ Region.ready md ops listed, j < n := by
  intro f listed a inv hr j hj
  rcases Nat.lt_or_ge j n with h | h
  ·exact h
  ·exact absurd hj (tail_waits hs hc hn inv _ i rfl hin (mem_ready.1 hr).1 j h)
 intro f
 induction f with
 | zero =>
  intro listed a inv _ hr hy H
  refine ⟨fun h => (by rw [h] at hr; cases hr), fun j hj => ?_⟩
  have hjn := first 0 listed a inv hr j hj
  refine ⟨hjn, ?_⟩
  by_cases hji : j = i
  ·subst hji; exact hy.qOp hi H
  ·have := hdone _ _ H j (ready_mono hj hji)
   omega
 | succ f ih =>
  intro listed a inv hfree hr hy H
  refine ⟨fun h => (by rw [h] at hr; cases hr), fun j hj => ?_⟩
  have hjn := first 0 listed a inv hr j hj
  refine ⟨hjn, ?_⟩
  by_cases hji : j = i
  ·subst hji; exact hy.qOp hi H
  ·have h1 := (H.2 j (ready_mono hj hji)).2
   obtain ⟨hjun, oj, hoj, hall⟩ := mem_ready.1 hj
   have hnot : ∀ e ∈ oj.after, Region.binds md e = true → e.on ≠ i := fun e he hb heq => by
    have h1 := hall e he hb
    rw [heq, getD_both (mem_ready.1 hr).1] at h1
    cases h1
   have h2 := qOp_put hoj (hfree j oj hoj hji hjun hnot) (fun cs b => hsel i oi cs b hi) (fun cs b => hsel j oj cs b hoj) hy h1
   have hfree' : ∀ k ok, ops[k]? = some ok → k ≠ i → (listed.setIfInBounds j true).getD k true = false →
     (∀ e ∈ ok.after, Region.binds md e = true → e.on ≠ i) → oi.apart ops ok = true := fun k ok hk hki hun hno => by
    refine hfree k ok hk hki ?_ hno
    by_cases hjk : j = k
    ·subst hjk; exact hjun
    ·rw [getD_set_ne true hjk] at hun; exact hun
   refine qOp_mono (fun a' h3 => ih (listed.setIfInBounds j true) a' (inv.set hj hjn) hfree' (ready_mono hr (Ne.symm hji)) h3.1 ?_) h2
   rw [Array.setIfInBounds_comm _ _ hji]
   exact h3.2
theorem wpAnyP_lex {n g : Nat} {Lq : Act → Prop} (hsel : Region.noSelect ops = true) (hs : Region.sinkB md ops n = true) (hc : Region.chainB md ops n = true) (hn : n < ops.size) :
  ∀ (l : List Oper) (k : Nat) (listed : Array Bool) (a : Act), (∀ j, j < l.length → l[j]? = ops[k + j]?) → k + l.length = n → HeadInv md ops n listed →
  Region.lexHead md ops g l.length k listed = true → wpQuiet P ops C Lq l a →
  wpAnyP P md ops C n (fun listed' a' => Region.seqB md ops g n listed' = true ∧ Lq a') l.length listed a
 | [], k, listed, a, _, hk, _, hB, h => by
  have : k = n := by simpa using hk
  subst this
  exact ⟨by simpa [Region.lexHead] using hB, h⟩
 | o :: l, k, listed, a, hl, hk, inv, hB, h => by
  have h0 : ops[k]? = some o := by simpa using (hl 0 (by simp)).symm
  simp only [List.length_cons, Region.lexHead, Bool.and_eq_true] at hB
  obtain ⟨⟨hr, hf⟩, hB'⟩ := hB
  have hkn : k < n := by simp only [List.length_cons] at hk; omega
  have hr' : k ∈ Region.ready md ops listed := by simpa using hr
  have hst : qOp P ops C k (wpQuiet P ops C Lq l) a := by unfold qOp; simp only [h0]; exact h
  obtain ⟨v, hy, hK⟩ := yieldsIn_of_qOp h0 hst
  exact wpAnyP_first h0 (Region.noSelect_spec hsel) hs hc hn hkn (fun listed' a' hL => seqB_ready hL.1) l.length listed a inv (Region.free_spec h0 hf) hr' hy
   (wpAnyP_lex hsel hs hc hn l (k + 1) _ _ (fun j hj => by have := hl (j + 1) (by simp; omega); simpa [Nat.add_assoc, Nat.add_comm 1 j] using this) (by simp only [List.length_cons] at hk; omega) (inv.set hr' hkn) hB' hK)
theorem any_quiet_tail {Q : Exit → Act → World → Prop} {a : Act} {w : World} (n : Nat) (hB : Region.lexTailB .any ops n = true) (hC : C { w with drawn := w.drawn + 1 })
  (h : wpQuiet P ops C (fun a' => ∀ w', C w' → wpList P ops Q (ops.toList.drop n) a' w') (ops.toList.take n) a) : wpAny P .any ops Q ops.size (Array.replicate ops.size false) a { w with drawn := w.drawn + 1 } := by
 simp only [Region.lexTailB, Bool.and_eq_true, decide_eq_true_eq] at hB
 obtain ⟨⟨⟨⟨hsel, hn⟩, hs⟩, hc⟩, hlex⟩ := hB
 have hn' : n < ops.toList.length := by simpa using hn
 have htl : (ops.toList.take n).length = n := by simp; omega
 have hdl : (ops.toList.drop n).length = ops.size - n := by simp
 have inv0 : HeadInv .any ops n (Array.replicate ops.size false) :=
  ⟨by simp, fun j oj _ hl => (by rw [getD_replicate_false] at hl; cases hl), fun t _ ht => getD_in (by simpa using ht) (getD_replicate_false _ _)⟩
 have H := wpAnyP_lex (md := .any) (g := ops.size - n) hsel hs hc hn (ops.toList.take n) 0 _ a (fun j hj => by
  have hj' : j < n := by rw [htl] at hj; exact hj
  simp [hj']) (by simpa using htl) inv0 (by rw [htl]; exact hlex) h
 have := wpAny_of_P (Q' := Q) (g := ops.size - n) (fun listed a' w' hw' hL => by
  have := wpAny_of_seq (md := .any) (Q' := Q) (ops.toList.drop n) n listed a' w' (fun j => by simp [List.getElem?_drop]) (by rw [hdl]; exact hL.1) (hL.2 w' hw')
  rwa [hdl] at this) _ _ _ _ hC H
 rw [htl, show n + (ops.size - n) = ops.size by omega] at this
 exact this
end
end Go.Sx
namespace Go.Sx
open Go.RowKit
inductive SV where
 | v (x : Value)
 | bo (b : Bool)
 | io (k : IntKind) (n : Int)
 | so (s : ByteArray)
 | sl (a : Option Addr) (n c : Nat)
 | lp (i off : Nat)
 | ls (i off len cap : Nat)
 | agg (l : List SV)
 | tup (l : List SV)
 | fn (f : Fn) (caps : List SV)
 deriving Inhabited
def nth (ρ : List Nat) (i : Nat) : Nat := ρ.getD i 0
mutual
def SV.den (ρ : List Nat) : SV → Value
 | .v x => x
 | .bo b => .bool b
 | .io k n => .int k n
 | .so s => .string s
 | .sl a n c => .slice a n c
 | .lp i off => .pointer (some ⟨nth ρ i, off, none⟩)
 | .ls i off len cap => .slice (some ⟨nth ρ i, off, none⟩) len cap
 | .agg l => .agg (SV.denL ρ l).toArray
 | .tup l => .tuple (SV.denL ρ l).toArray
 | .fn f cs => .func f #[] (SV.denL ρ cs).toArray
def SV.denL (ρ : List Nat) : List SV → List Value
 | [] => []
 | s :: l => s.den ρ :: SV.denL ρ l
end
mutual
def SV.inBlk (n : Nat) : SV → Bool
 | .lp i _ => Nat.blt i n
 | .ls i _ _ _ => Nat.blt i n
 | .agg l => SV.scopedL n l
 | .tup l => SV.scopedL n l
 | .fn _ cs => SV.scopedL n cs
 | _ => true
def SV.scopedL (n : Nat) : List SV → Bool
 | [] => true
 | s :: l => s.inBlk n && SV.scopedL n l
end
theorem SV.denL_eq (ρ : List Nat) : ∀ l, SV.denL ρ l = l.map (SV.den ρ)
 | [] => rfl
 | s :: l => by simp [SV.denL, SV.denL_eq ρ l]
theorem SV.getD_append {ρ : List Nat} {b : Nat} {i : Nat} (h : i < ρ.length) : nth (ρ ++ [b]) i = nth ρ i := by
 simp [nth, List.getD, List.getElem?_append_left h]
mutual
theorem SV.den_append (ρ : List Nat) (b : Nat) : ∀ s : SV, s.inBlk ρ.length = true → s.den (ρ ++ [b]) = s.den ρ
 | .v _, _ => rfl
 | .bo _, _ => rfl
 | .io _ _, _ => rfl
 | .so _, _ => rfl
 | .sl _ _ _, _ => rfl
 | .lp i off, h => by
  have h' : i < ρ.length := by simpa [SV.inBlk] using h
  simp only [SV.den, SV.getD_append h']
 | .ls i off _ _, h => by
  have h' : i < ρ.length := by simpa [SV.inBlk] using h
  simp only [SV.den, SV.getD_append h']
 | .agg l, h => by simp only [SV.den, SV.denL_append ρ b l (by simpa [SV.inBlk] using h)]
 | .tup l, h => by simp only [SV.den, SV.denL_append ρ b l (by simpa [SV.inBlk] using h)]
 | .fn f cs, h => by simp only [SV.den, SV.denL_append ρ b cs (by simpa [SV.inBlk] using h)]
theorem SV.denL_append (ρ : List Nat) (b : Nat) : ∀ l : List SV, SV.scopedL ρ.length l = true → SV.denL (ρ ++ [b]) l = SV.denL ρ l
 | [], _ => rfl
 | s :: l, h => by
  simp only [SV.scopedL, Bool.and_eq_true] at h
  simp only [SV.denL, SV.den_append ρ b s h.1, SV.denL_append ρ b l h.2]
end
def ofC : Value → SV
 | .agg cs => .agg (cs.toList.map .v)
 | x => .v x
theorem ofC_den (ρ : List Nat) (x : Value) : (ofC x).den ρ = x := by
 cases x <;> simp [ofC, SV.den, SV.denL_eq, Function.comp_def]
def opened : Value → SV
 | .int k n => .io k n
 | .bool b => .bo b
 | .string s => .so s
 | x => ofC x
theorem opened_den (ρ : List Nat) (x : Value) : (opened x).den ρ = x := by
 cases x <;> simp [opened, ofC, SV.den, SV.denL_eq, Function.comp_def]
abbrev Fr := List (Nat × SV)
def look : Fr → Nat → Option SV
 | [], _ => none
 | (k, s) :: l, t => match Nat.beq k t with | true => some s | false => look l t
abbrev Loc := List (List SV × TypeId)
class Md where
 round : Option Nat
 dfs : List Deferred
instance (priority := low) Md.fn : Md := ⟨none, []⟩
variable [Md]
structure AInv (ntm : Nat) (ρ : List Nat) (fr : Fr) (a : Act) : Prop where
 defers : a.defers = Md.dfs
 size : a.tmps.size = ntm
 slot : ∀ t s, look fr t = some s → a.tmps[t]? = some (s.den ρ)
structure WInv (N : Nat) (w0 : World) (ρ : List Nat) (loc : Loc) (w : World) : Prop where
 below : Below N w0 w
 hN : N ≤ w.heap.size
 len : ρ.length = loc.length
 nodup : ρ.Nodup
 ge : ∀ b ∈ ρ, N ≤ b ∧ b < w.heap.size
 cells : ∀ i c t, loc[i]? = some (c, t) → w.heap[nth ρ i]? = some (.cells (SV.denL ρ c).toArray t (0, 0))
structure Keep (ρ : List Nat) (w w' : World) : Prop where
 os : w'.os = w.os
 tape : w'.tape = w.tape
 output : w'.output = w.output
 size : w.heap.size ≤ w'.heap.size
 block : ∀ k, k < w.heap.size → k ∉ ρ → w'.heap[k]? = w.heap[k]?
theorem Keep.refl (ρ : List Nat) (w : World) : Keep ρ w w := ⟨rfl, rfl, rfl, Nat.le_refl _, fun _ _ _ => rfl⟩
theorem Keep.trans {ρ ρ' : List Nat} {a b c : World} (h : Keep ρ a b) (k : Keep ρ' b c) (hs : ∀ x ∈ ρ', x ∈ ρ ∨ a.heap.size ≤ x) : Keep ρ a c :=
 ⟨k.os.trans h.os, k.tape.trans h.tape, k.output.trans h.output, Nat.le_trans h.size k.size, fun i hi hn =>
  (k.block i (Nat.lt_of_lt_of_le hi h.size) (fun hm => by rcases hs i hm with h1 | h1; exact hn h1; omega)).trans (h.block i hi hn)⟩
theorem Keep.of_below {ρ : List Nat} {w w' : World} (h : Below w.heap.size w w') : Keep ρ w w' :=
 ⟨h.os, h.tape, h.output, h.size, fun k hk _ => h.block k hk⟩
def evalS (fr : Fr) : Operand → Option SV
 | .tmp t => look fr t
 | .const x => some (ofC x)
 | .global g => some (.v (.pointer (some ⟨g, 0, none⟩)))
 | .func f => some (.fn (.func f) [])
theorem getD_of {a : Act} {t : Nat} {x : Value} (h : a.tmps[t]? = some x) : a.tmps.getD t undef = x := by
 simp [Array.getD_eq_getD_getElem?, h]
theorem evalS_sound {ntm : Nat} {ρ : List Nat} {fr : Fr} {a : Act} (h : AInv ntm ρ fr a) {o : Operand} {s : SV} (he : evalS fr o = some s) : a.eval o = s.den ρ := by
 cases o with
 | tmp t => exact getD_of (h.slot t s he)
 | const x => simp only [evalS, Option.some.injEq] at he; subst he; exact (ofC_den ρ x).symm
 | global g => simp only [evalS, Option.some.injEq] at he; subst he; rfl
 | func f => simp only [evalS, Option.some.injEq] at he; subst he; rfl
def SV.cells? : SV → Option (List SV)
 | .agg l => some l
 | .tup _ => none
 | .v (.agg _) => none
 | .v (.tuple _) => none
 | s => some [s]
def SV.one : SV → Bool
 | .agg _ => false
 | .tup _ => false
 | .v (.agg _) => false
 | .v (.tuple _) => false
 | _ => true
def oneL : List SV → Bool
 | [] => true
 | s :: l => s.one && oneL l
theorem SV.cells?_den {ρ : List Nat} {s : SV} {l : List SV} (h : s.cells? = some l) : (s.den ρ).cells = (SV.denL ρ l).toArray := by
 cases s with
 | agg l' => simp only [SV.cells?, Option.some.injEq] at h; subst h; rfl
 | tup l' => simp [SV.cells?] at h
 | v x => cases x <;> simp only [SV.cells?, Option.some.injEq, reduceCtorEq] at h <;> subst h <;> rfl
 | _ => simp only [SV.cells?, Option.some.injEq] at h; subst h; rfl
theorem SV.one_den {ρ : List Nat} {s : SV} (h : s.one = true) : (s.den ρ).oneCell' = true := by
 cases s with
 | v x => cases x <;> first | rfl | simp [SV.one] at h
 | agg l => simp [SV.one] at h
 | tup l => simp [SV.one] at h
 | _ => rfl
theorem oneL_den {ρ : List Nat} : ∀ {l : List SV}, oneL l = true → ∀ x ∈ SV.denL ρ l, x.oneCell' = true
 | [], _, x, hx => by simp [SV.denL] at hx
 | s :: l, h, x, hx => by
  simp only [oneL, Bool.and_eq_true] at h
  simp only [SV.denL, List.mem_cons] at hx
  rcases hx with rfl | hx
  ·exact SV.one_den h.1
  ·exact oneL_den h.2 x hx
end Go.Sx
namespace Go.Sx
open Go.RowKit
section
variable {P : Program}
variable [Md]
def sizeT (P : Program) (t : TypeId) : Option Nat := (P.info? t).map (·.size)
def isAggT (P : Program) (t : TypeId) : Option Bool :=
 match P.underlying t with
 | some (.struct _) => some true
 | some (.array _ _) => some true
 | some _ => some false
 | none => none
theorem run_sizeT {t : TypeId} {n : Nat} (h : sizeT P t = some n) (w : World) : (sizeOf t).run P w = .ok n w := by
 unfold sizeT at h
 cases hq : P.info? t with
 | none => simp [hq] at h
 | some i => simp [hq] at h; subst h; simp [sizeOf, typeInfo, hq]
theorem run_isAggT {t : TypeId} {b : Bool} (h : isAggT P t = some b) (w : World) : (isAgg t).run P w = .ok b w := by
 unfold isAggT at h
 cases hq : P.underlying t with
 | none => simp [hq] at h
 | some d => cases d <;> simp [hq] at h <;> subst h <;> simp [isAgg, run_underlying hq]
def partS (P : Program) (t : TypeId) (l : List SV) (off : Nat) : Option SV :=
 match isAggT P t with
 | some true => match sizeT P t with
  | some n => some (.agg ((l.drop off).take n))
  | none => none
 | some false => l[off]?
 | none => none
theorem run_partS {ρ : List Nat} {t : TypeId} {l : List SV} {off : Nat} {s : SV} (h : partS P t l off = some s) (w : World) : (part t (SV.denL ρ l).toArray off).run P w = .ok (s.den ρ) w := by
 unfold partS at h
 split at h
 ·rename_i hb
  split at h
  ·rename_i n hn
   simp only [Option.some.injEq] at h
   subst h
   simp [part, run_isAggT hb, run_sizeT hn, SV.den, SV.denL_eq, List.map_take, List.map_drop, List.extract_eq_take_drop]
  ·cases h
 ·rename_i hb
  simp [part, run_isAggT hb, SV.denL_eq, h]
 ·cases h
def loadS (P : Program) (loc : Loc) (t : TypeId) (i off : Nat) : Option SV :=
 match loc[i]? with
 | some (c, _) => match isAggT P t with
  | some true => match sizeT P t with
   | some n => match Nat.ble (off + n) c.length with
    | true => some (.agg ((c.drop off).take n))
    | false => none
   | none => none
  | some false => c[off]?
  | none => none
 | none => none
theorem add_ok (b o j : Nat) : (⟨b, o, none⟩ : Addr).add j = ⟨b, o + j, none⟩ := by unfold Addr.add; split <;> simp_all
theorem cell_of_loc {N : Nat} {w0 w : World} {ρ : List Nat} {loc : Loc} (hw : WInv N w0 ρ loc w) {i : Nat} {c : List SV} {t : TypeId} (hl : loc[i]? = some (c, t)) (o : Nat) :
  w.cell? ⟨nth ρ i, o, none⟩ = (c[o]?).map (SV.den ρ) := by
 simp [World.cell?, hw.cells i c t hl, SV.denL_eq]
theorem run_loadS {N : Nat} {w0 w : World} {ρ : List Nat} {loc : Loc} (hw : WInv N w0 ρ loc w) {t : TypeId} {i off : Nat} {s : SV} (h : loadS P loc t i off = some s) :
  (loadVar t ⟨nth ρ i, off, none⟩).run P w = .ok (s.den ρ) w := by
 unfold loadS at h
 split at h
 ·rename_i c ty hl
  split at h
  ·rename_i hb
   split at h
   ·rename_i n hn
    split at h
    ·rename_i hle
     have hle' : off + n ≤ c.length := by simpa using hle
     simp only [Option.some.injEq] at h
     subst h
     have hlen : ((SV.denL ρ ((c.drop off).take n))).length = n := by simp [SV.denL_eq]; omega
     have hr := run_loadCells_list (P := P) w ⟨nth ρ i, off, none⟩ (SV.denL ρ ((c.drop off).take n)) (fun j v hj => by
      rw [add_ok, cell_of_loc hw hl]
      have hjn : j < n := by
       have := (List.getElem?_eq_some_iff.1 hj).1
       omega
      simpa [SV.denL_eq, List.getElem?_take, hjn, List.getElem?_drop] using hj)
     rw [hlen] at hr
     simp [loadVar, run_isAggT hb, run_sizeT hn, hr, SV.den]
    ·cases h
   ·cases h
  ·rename_i hb
   have := cell_of_loc hw hl off
   rw [h] at this
   simp [loadVar, run_isAggT hb, this]
  ·cases h
 ·cases h
def binInt (op : BinOp) (k : IntKind) (a b : Int) : Option Value :=
 match op with
 | .add => some (.int k (k.wrap (a + b)))
 | .sub => some (.int k (k.wrap (a - b)))
 | .mul => some (.int k (k.wrap (a * b)))
 | .and => some (.int k (k.wrap (BitVec.ofInt k.bits a &&& BitVec.ofInt k.bits b).toNat))
 | .or => some (.int k (k.wrap (BitVec.ofInt k.bits a ||| BitVec.ofInt k.bits b).toNat))
 | .xor => some (.int k (k.wrap (BitVec.ofInt k.bits a ^^^ BitVec.ofInt k.bits b).toNat))
 | .andNot => some (.int k (k.wrap (BitVec.ofInt k.bits a &&& ~~~BitVec.ofInt k.bits b).toNat))
 | .eql => some (.bool (a == b))
 | .neq => some (.bool (a != b))
 | .lss => some (.bool (decide (a < b)))
 | .leq => some (.bool (decide (a ≤ b)))
 | .gtr => some (.bool (decide (a > b)))
 | .geq => some (.bool (decide (a ≥ b)))
 | _ => none
theorem run_binInt {op : BinOp} {k : IntKind} {a b : Int} {r : Value} (h : binInt op k a b = some r) (t : TypeId) (w : World) : (binOp op t (.int k a) (.int k b)).run P w = .ok r w := by
 cases op <;> simp only [binInt, Option.some.injEq, reduceCtorEq] at h <;> subst h <;> simp [binOp, Op.intArith, Op.intBits, Op.intCmp]
def binInt2 (op : BinOp) (k : IntKind) (a b : Int) : Option Value :=
 match op with
 | .quo => match decide (b = 0) with | false => some (.int k (k.wrap (a.tdiv b))) | true => none
 | .rem => match decide (b = 0) with | false => some (.int k (a.tmod b)) | true => none
 | _ => none
theorem run_binInt2 {op : BinOp} {k : IntKind} {a b : Int} {r : Value} (h : binInt2 op k a b = some r) (t : TypeId) (w : World) : (binOp op t (.int k a) (.int k b)).run P w = .ok r w := by
 cases op <;> simp only [binInt2, reduceCtorEq] at h <;> split at h <;> simp only [Option.some.injEq, reduceCtorEq] at h <;> subst h <;> rename_i hb <;> simp at hb <;> simp [binOp, Op.intDiv, hb]
def shiftS (op : BinOp) (k : IntKind) (a b : Int) : Option Value :=
 match op with
 | .shl => match decide (b < 0) with | false => some (.int k (k.wrap (a * 2 ^ (min b.toNat k.bits)))) | true => none
 | .shr => match decide (b < 0) with | false => some (.int k (a.fdiv (2 ^ (min b.toNat k.bits)))) | true => none
 | _ => none
theorem run_shiftS {op : BinOp} {k k' : IntKind} {a b : Int} {r : Value} (h : shiftS op k a b = some r) (t : TypeId) (w : World) : (binOp op t (.int k a) (.int k' b)).run P w = .ok r w := by
 cases op <;> simp only [shiftS, reduceCtorEq] at h <;> split at h <;> simp only [Option.some.injEq, reduceCtorEq] at h <;> subst h <;> rename_i hb <;> simp at hb <;>
  simp [binOp, Op.shift, Int.not_lt.2 hb]
def binStr (op : BinOp) (x y : ByteArray) : Option Value :=
 match op with
 | .eql => some (.bool (x.toList == y.toList))
 | .neq => some (.bool (!(x.toList == y.toList)))
 | .lss => some (.bool (Op.bytesLess x.toList y.toList))
 | .leq => some (.bool (Op.bytesLess x.toList y.toList || x.toList == y.toList))
 | .gtr => some (.bool (!(Op.bytesLess x.toList y.toList || x.toList == y.toList)))
 | .geq => some (.bool (!Op.bytesLess x.toList y.toList))
 | _ => none
theorem run_binStr {op : BinOp} {x y : ByteArray} {r : Value} (h : binStr op x y = some r) (t : TypeId) (w : World) : (binOp op t (.string x) (.string y)).run P w = .ok r w := by
 cases op <;> simp only [binStr, Option.some.injEq, reduceCtorEq] at h <;> subst h <;> simp [binOp, Op.stringOp]
end
end Go.Sx
namespace Go.Sx
open Go.RowKit
section
variable {P : Program}
variable [Md]
def fillS (place : Nat → Option (Nat × Nat)) (cells : List SV) : List (Nat × SV) → Option (List SV)
 | [] => some cells
 | (i, s) :: rest =>
  match place i with
  | none => none
  | some (off, size) => match s.cells? with
   | none => none
   | some l => match Nat.beq l.length size && Nat.ble (off + l.length) cells.length with
    | true => fillS place (l.zipIdx.foldl (fun cs (c, j) => cs.set (off + j) c) cells) rest
    | false => none
theorem foldl_set (ρ : List Nat) (off : Nat) : ∀ (l : List SV) (k : Nat) (cs : List SV),
  ((SV.denL ρ l).zipIdx k).foldl (fun (cs : Array Value) (x : Value × Nat) => cs.setIfInBounds (off + x.2) x.1) (SV.denL ρ cs).toArray =
   (SV.denL ρ ((l.zipIdx k).foldl (fun cs (x : SV × Nat) => cs.set (off + x.2) x.1) cs)).toArray
 | [], k, cs => by simp [SV.denL]
 | s :: l, k, cs => by
  simp only [SV.denL, List.zipIdx_cons, List.foldl_cons]
  rw [← foldl_set ρ off l (k + 1) (cs.set (off + k) s)]
  congr 1
  simp [SV.denL_eq]
theorem fillS_den {ρ : List Nat} {place : Nat → Option (Nat × Nat)} : ∀ {parts : List (Nat × SV)} {cells r : List SV}, fillS place cells parts = some r →
  Instr.fill place (SV.denL ρ cells).toArray (parts.map fun x => (x.1, x.2.den ρ)) = some (SV.denL ρ r).toArray
 | [], cells, r, h => by simp only [fillS, Option.some.injEq] at h; subst h; rfl
 | (i, s) :: rest, cells, r, h => by
  simp only [fillS] at h
  split at h
  ·cases h
  ·rename_i off size hp
   split at h
   ·cases h
   ·rename_i l hl
    split at h
    ·rename_i hb
     obtain ⟨hb1, hb2⟩ := (Bool.and_eq_true _ _).mp hb
     have hb1 := Nat.eq_of_beq_eq_true hb1
     have hb2 := Nat.le_of_ble_eq_true hb2
     have ih := fillS_den (ρ := ρ) h
     have hc := SV.cells?_den (ρ := ρ) hl
     simp only [List.map_cons, Instr.fill, hp, hc]
     have e := foldl_set ρ off l 0 cells
     rw [if_neg (by simp [SV.denL_eq]; omega)]
     rw [← ih]
     congr 1
     rw [← e, ← Array.foldl_toList]
     simp
    ·cases h
def builtS (P : Program) (t : TypeId) (parts : List (Nat × SV)) : Option (List SV) :=
 match P.info? t with
 | none => none
 | some it => match it.zero with
  | none => none
  | some z => match P.underlying t with
   | some (.array _ e) => match P.info? e with
    | some ie => fillS (fun i => some (i * ie.size, ie.size)) (z.cells.toList.map .v) parts
    | none => none
   | some (.struct fields) => match fields.toList.mapM (fun f => (P.info? f.type).map fun i => (f.offset, i.size)) with
    | some places => fillS (places.toArray[·]?) (z.cells.toList.map .v) parts
    | none => none
   | _ => none
theorem denL_v (ρ : List Nat) (l : List Value) : SV.denL ρ (l.map .v) = l := by simp [SV.denL_eq, Function.comp_def, SV.den]
theorem builtS_den {ρ : List Nat} {t : TypeId} {parts : List (Nat × SV)} {r : List SV} (h : builtS P t parts = some r) :
  P.built t (parts.map fun x => (x.1, x.2.den ρ)) = some (SV.denL ρ r).toArray := by
 unfold builtS at h
 unfold Program.built
 split at h
 ·cases h
 ·rename_i it hit
  split at h
  ·cases h
  ·rename_i z hz
   split at h
   ·rename_i n e hu
    split at h
    ·rename_i ie hie
     have := fillS_den (ρ := ρ) h
     simp only [denL_v] at this
     simpa [hit, hu, hz, hie] using this
    ·cases h
   ·rename_i fields hu
    split at h
    ·rename_i places hp
     have := fillS_den (ρ := ρ) h
     simp only [denL_v] at this
     simp only [hit, hu, hz]
     rw [hp]
     simpa using this
    ·cases h
   ·cases h
def litOf : SV → Option (Value × Bool)
 | .v x => some (x, true)
 | .io k n => some (.int k n, false)
 | .bo b => some (.bool b, false)
 | .so s => some (.string s, false)
 | _ => none
theorem litOf_den {ρ : List Nat} {s : SV} {x : Value} {f : Bool} (h : litOf s = some (x, f)) : s.den ρ = x := by
 cases s <;> simp only [litOf, Option.some.injEq, Prod.mk.injEq, reduceCtorEq] at h <;> (obtain ⟨rfl, _⟩ := h; rfl)
def mkR (lit : Bool) (r : Value) : SV := match lit with | true => ofC r | false => opened r
theorem mkR_den (ρ : List Nat) (lit : Bool) (r : Value) : (mkR lit r).den ρ = r := by cases lit; exact opened_den ρ r; exact ofC_den ρ r
def isPtr (P : Program) (t : TypeId) : Bool := match P.underlying t with | some (.pointer _) => true | _ => false
def isBoolT (P : Program) (t : TypeId) : Bool := match P.underlying t with | some .bool => true | _ => false
def isSl (P : Program) (t : TypeId) : Bool := match P.underlying t with | some (.slice _) => true | _ => false
def binS (P : Program) (op : BinOp) (t : TypeId) (sx sy : SV) : Option SV :=
 match litOf sx, litOf sy with
 | some (.int k a, la), some (.int k' b, lb) =>
  match op with
  | .shl | .shr => match lb with | true => (shiftS op k a b).map (mkR la) | false => none
  | .quo | .rem => match lb, decide (k = k') with | true, true => (binInt2 op k a b).map (mkR la) | _, _ => none
  | _ => match decide (k = k') with | true => (binInt op k a b).map (mkR (la && lb)) | false => none
 | some (.string x, la), some (.string y, lb) => (binStr op x y).map (mkR (la && lb))
 | some (.bool x, la), some (.bool y, lb) =>
  match op, isBoolT P t with
  | .eql, true => some (mkR (la && lb) (.bool (x == y)))
  | .neq, true => some (mkR (la && lb) (.bool (!(x == y))))
  | _, _ => none
 | some (.pointer none, _), some (.pointer none, _) =>
  match op, isPtr P t with
  | .eql, true => some (.v (.bool true))
  | .neq, true => some (.v (.bool false))
  | _, _ => none
 | none, some (.pointer none, _) =>
  match sx, op, isPtr P t with
  | .lp _ _, .eql, true => some (.v (.bool false))
  | .lp _ _, .neq, true => some (.v (.bool true))
  | _, _, _ => none
 | some (.slice a _ _, _), some (.slice none _ _, _) =>
  match op, isSl P t with
  | .eql, true => some (.bo a.isNone)
  | .neq, true => some (.bo (!a.isNone))
  | _, _ => none
 | none, some (.slice none _ _, _) =>
  match sx, op, isSl P t with
  | .sl a _ _, .eql, true => some (.bo a.isNone)
  | .sl a _ _, .neq, true => some (.bo (!a.isNone))
  | .ls _ _ _ _, .eql, true => some (.v (.bool false))
  | .ls _ _ _ _, .neq, true => some (.v (.bool true))
  | _, _, _ => none
 | _, _ => none
theorem isBoolT_ok {t : TypeId} (h : isBoolT P t = true) : P.underlying t = some .bool := by
 unfold isBoolT at h; split at h <;> first | assumption | cases h
theorem isPtr_ok {t : TypeId} (h : isPtr P t = true) : ∃ e, P.underlying t = some (.pointer e) := by
 unfold isPtr at h; split at h <;> first | exact ⟨_, by assumption⟩ | cases h
theorem isSl_ok {t : TypeId} (h : isSl P t = true) : ∃ e, P.underlying t = some (.slice e) := by
 unfold isSl at h; split at h <;> first | exact ⟨_, by assumption⟩ | cases h
theorem run_eqSl {t : TypeId} (h : isSl P t = true) (a : Option Addr) (n c n' c' : Nat) (w : World) : (binOp .eql t (.slice a n c) (.slice none n' c')).run P w = .ok (.bool a.isNone) w := by
 obtain ⟨e, he⟩ := isSl_ok h
 exact Lib.run_eql_slice_nil w t e a n c n' c' he
theorem run_neSl {t : TypeId} (h : isSl P t = true) (a : Option Addr) (n c n' c' : Nat) (w : World) : (binOp .neq t (.slice a n c) (.slice none n' c')).run P w = .ok (.bool (!a.isNone)) w := by
 obtain ⟨e, he⟩ := isSl_ok h
 exact run_neq_slice_nil_any w t e a n c n' c' he
theorem run_eqBool {t : TypeId} (h : isBoolT P t = true) (x y : Bool) (w : World) : (Op.equal t (.bool x) (.bool y)).run P w = .ok (x == y) w := by
 have h1 := run_equalIn_bool (P := P) w 9999 t x y (isBoolT_ok h)
 simp [Op.equal, Op.maxDepth, h1]
theorem run_eqNil {t : TypeId} (h : isPtr P t = true) (w : World) : (Op.equal t (.pointer none) (.pointer none)).run P w = .ok true w := by
 obtain ⟨e, he⟩ := isPtr_ok h
 have h1 : ∀ d, (Op.equalIn (d + 1) t (.pointer none) (.pointer none)).run P w = .ok true w := fun d => by simp [Op.equalIn, run_underlying he]
 simp [Op.equal, Op.maxDepth, h1 9999]
theorem run_eqNil' {t : TypeId} (h : isPtr P t = true) (a : Addr) (w : World) : (Op.equal t (.pointer (some a)) (.pointer none)).run P w = .ok false w := by
 obtain ⟨e, he⟩ := isPtr_ok h
 have h1 : ∀ d, (Op.equalIn (d + 1) t (.pointer (some a)) (.pointer none)).run P w = .ok false w := fun d => by simp [Op.equalIn, run_underlying he]
 simp [Op.equal, Op.maxDepth, h1 9999]
theorem run_binS {ρ : List Nat} {op : BinOp} {t : TypeId} {sx sy s : SV} (h : binS P op t sx sy = some s) (w : World) :
  (binOp op t (sx.den ρ) (sy.den ρ)).run P w = .ok (s.den ρ) w := by
 unfold binS at h
 split at h
 ·rename_i k a la k' b lb hx hy
  rw [litOf_den hx, litOf_den hy]
  have hsh : ∀ r, shiftS op k a b = some r → s = mkR la r → (binOp op t (.int k a) (.int k' b)).run P w = .ok (s.den ρ) w := by
   intro r hr hs; rw [hs, mkR_den]; exact run_shiftS hr t w
  split at h
  ·split at h
   ·obtain ⟨r, hr, hs⟩ := Option.map_eq_some_iff.1 h
    exact hsh r hr hs.symm
   ·cases h
  ·split at h
   ·obtain ⟨r, hr, hs⟩ := Option.map_eq_some_iff.1 h
    exact hsh r hr hs.symm
   ·cases h
  ·split at h
   ·rename_i hk
    obtain ⟨r, hr, hs⟩ := Option.map_eq_some_iff.1 h
    have : k = k' := by simpa using hk
    subst this; rw [← hs, mkR_den]; exact run_binInt2 hr t w
   ·cases h
  ·split at h
   ·rename_i hk
    obtain ⟨r, hr, hs⟩ := Option.map_eq_some_iff.1 h
    have : k = k' := by simpa using hk
    subst this; rw [← hs, mkR_den]; exact run_binInt2 hr t w
   ·cases h
  ·split at h
   ·rename_i hk
    obtain ⟨r, hr, hs⟩ := Option.map_eq_some_iff.1 h
    have : k = k' := by simpa using hk
    subst this; rw [← hs, mkR_den]; exact run_binInt hr t w
   ·cases h
 ·rename_i x la y lb hx hy
  obtain ⟨r, hr, hs⟩ := Option.map_eq_some_iff.1 h
  rw [litOf_den hx, litOf_den hy, ← hs, mkR_den]
  exact run_binStr hr t w
 ·rename_i x la y lb hx hy
  rw [litOf_den hx, litOf_den hy]
  split at h
  ·rename_i hb
   simp only [Option.some.injEq] at h
   rw [← h, mkR_den]
   simp [binOp, run_eqBool hb]
  ·rename_i hb
   simp only [Option.some.injEq] at h
   rw [← h, mkR_den]
   simp [binOp, run_eqBool hb]
  ·cases h
 ·rename_i hx hy
  rw [litOf_den hx, litOf_den hy]
  split at h
  ·rename_i hb
   simp only [Option.some.injEq] at h
   rw [← h]
   simp [binOp, run_eqNil hb, SV.den]
  ·rename_i hb
   simp only [Option.some.injEq] at h
   rw [← h]
   simp [binOp, run_eqNil hb, SV.den]
  ·cases h
 ·rename_i hx hy
  rw [litOf_den hy]
  split at h
  ·rename_i hb
   simp only [Option.some.injEq] at h
   rw [← h]
   simp [binOp, run_eqNil' hb, SV.den]
  ·rename_i hb
   simp only [Option.some.injEq] at h
   rw [← h]
   simp [binOp, run_eqNil' hb, SV.den]
  ·cases h
 ·rename_i hx hy
  rw [litOf_den hx, litOf_den hy]
  split at h
  ·rename_i hb
   simp only [Option.some.injEq] at h
   rw [← h]
   exact run_eqSl hb _ _ _ _ _ w
  ·rename_i hb
   simp only [Option.some.injEq] at h
   rw [← h]
   exact run_neSl hb _ _ _ _ _ w
  ·cases h
 ·rename_i hx hy
  rw [litOf_den hy]
  split at h
  ·rename_i hb
   simp only [Option.some.injEq] at h
   rw [← h]
   exact run_eqSl hb _ _ _ _ _ w
  ·rename_i hb
   simp only [Option.some.injEq] at h
   rw [← h]
   exact run_neSl hb _ _ _ _ _ w
  ·rename_i hb
   simp only [Option.some.injEq] at h
   rw [← h]
   exact run_eqSl hb _ _ _ _ _ w
  ·rename_i hb
   simp only [Option.some.injEq] at h
   rw [← h]
   exact run_neSl hb _ _ _ _ _ w
  ·cases h
 ·cases h
def SV.calm : SV → Bool
 | .v .nilIface => false
 | .v (.agg _) => false
 | .agg _ => false
 | _ => true
theorem run_eqGuard_calm {ρ : List Nat} {s : SV} (h : s.calm = true) (op : BinOp) (t : TypeId) (x y : Operand) (b : Value) (w : World) : (eqGuard op t x y (s.den ρ) b).run P w = .ok () w := by
 have hs : (∀ cs, s.den ρ ≠ .agg cs) ∧ s.den ρ ≠ .nilIface := by
  cases s with
  | v x => cases x <;> first | (simp [SV.calm] at h; done) | simp [SV.den]
  | agg l => simp [SV.calm] at h
  | _ => simp [SV.den]
 generalize s.den ρ = z at hs
 have h1 : eqGuard op t x y z b = pure () := by
  unfold eqGuard
  cases z <;> first | (exact absurd rfl hs.2) | (exact absurd rfl (hs.1 _)) | (cases op <;> rfl)
 rw [h1]; rfl
end
end Go.Sx
namespace Go.Sx
open Go.RowKit
section
variable {P : Program}
variable [Md]
/-! ### '==' on structs and arrays of scalars -/
def eqFs (g : TypeId → SV → SV → Option (Bool × Bool)) (xs ys : List SV) : List Field → Option (Bool × Bool)
 | [] => some (true, true)
 | f :: fs => match decide (f.name = "_") with
  | true => eqFs g xs ys fs
  | false => match partS P f.type xs f.offset, partS P f.type ys f.offset with
   | some a, some b => match g f.type a b, eqFs g xs ys fs with
    | some (r, l), some (r', l') => some (r && r', l && l')
    | _, _ => none
   | _, _ => none
def eqEs (g : TypeId → SV → SV → Option (Bool × Bool)) (e n : Nat) (xs ys : List SV) : List Nat → Option (Bool × Bool)
 | [] => some (true, true)
 | i :: is => match partS P e xs (i * n), partS P e ys (i * n) with
  | some a, some b => match g e a b, eqEs g e n xs ys is with
   | some (r, l), some (r', l') => some (r && r', l && l')
   | _, _ => none
  | _, _ => none
def eqS (P : Program) : Nat → TypeId → SV → SV → Option (Bool × Bool)
 | 0, _, _, _ => none
 | d + 1, t, x, y => match P.underlying t with
  | some .bool => match litOf x, litOf y with
   | some (.bool a, la), some (.bool b, lb) => some (a == b, la && lb)
   | _, _ => none
  | some (.int _) => match litOf x, litOf y with
   | some (.int k a, la), some (.int k' b, lb) => match decide (k = k') with
    | true => some (a == b, la && lb)
    | false => none
   | _, _ => none
  | some .string => match litOf x, litOf y with
   | some (.string a, la), some (.string b, lb) => some (a.toList == b.toList, la && lb)
   | _, _ => none
  | some (.struct fs) => match x, y, P.stoodInHeld t with
   | .agg xs, .agg ys, false => eqFs (P := P) (eqS P d) xs ys fs.toList
   | _, _, _ => none
  | some (.array len e) => match x, y, sizeT P e with
   | .agg xs, .agg ys, some n => eqEs (P := P) (eqS P d) e n xs ys (List.range len)
   | _, _, _ => none
  | _ => none
theorem run_eqFs {ρ : List Nat} {D : Nat} {g : TypeId → SV → SV → Option (Bool × Bool)} (w : World)
  (hg : ∀ t x y r l, g t x y = some (r, l) → (Op.equalIn D t (x.den ρ) (y.den ρ)).run P w = .ok r w) {xs ys : List SV} :
  ∀ {fs : List Field} {r l : Bool}, eqFs (P := P) g xs ys fs = some (r, l) → (Op.eqFields D (SV.denL ρ xs).toArray (SV.denL ρ ys).toArray fs).run P w = .ok r w
 | [], r, l, h => by simp only [eqFs, Option.some.injEq, Prod.mk.injEq] at h; obtain ⟨rfl, _⟩ := h; rfl
 | f :: fs, r, l, h => by
  simp only [eqFs] at h
  split at h
  ·rename_i hn
   have hn' : f.name = "_" := by simpa using hn
   simp only [Op.eqFields, hn', ne_eq, not_true_eq_false, if_false]
   exact run_eqFs w hg h
  ·rename_i hn
   have hn' : f.name ≠ "_" := by simpa using hn
   split at h
   ·rename_i a b ha hb
    split at h
    ·rename_i r1 l1 r2 l2 h1 h2
     simp only [Option.some.injEq, Prod.mk.injEq] at h
     obtain ⟨rfl, _⟩ := h
     have ih := run_eqFs w hg h2
     have h3 := hg _ _ _ _ _ h1
     simp only [Op.eqFields, if_pos hn', Sem.run_bind, run_partS ha w, run_partS hb w, Result.andThen_ok, h3]
     cases r1 <;> simp [ih]
    ·cases h
   ·cases h
theorem run_equalIn_array (d : Nat) (t : TypeId) {len e n : Nat} (xs ys : Array Value) (ht : P.underlying t = some (.array len e)) (hn : sizeT P e = some n) (w : World) (g : Nat → Option Bool)
  (hg : ∀ i r, g i = some r → ∃ a b, (part e xs (i * n)).run P w = .ok a w ∧ (part e ys (i * n)).run P w = .ok b w ∧ (Op.equalIn d e a b).run P w = .ok r w)
  (hall : ∀ i, i < len → (g i).isSome = true) :
  (Op.equalIn (d + 1) t (.agg xs) (.agg ys)).run P w = .ok ((List.range len).all fun i => (g i).getD true) w := by
 simp only [Op.equalIn, Sem.run_bind, run_underlying ht, Result.andThen_ok, run_sizeT hn]
 simp only [Std.Legacy.Range.forIn_eq_forIn_range', Std.Legacy.Range.size, Nat.sub_zero, Nat.add_sub_cancel, Nat.div_one]
 rw [List.range_eq_range']
 have hL : ∀ i ∈ List.range' 0 len, (g i).isSome = true := fun i hi => hall i (by simp [List.mem_range'] at hi; omega)
 generalize List.range' 0 len = L at hL
 induction L with
 | nil => simp
 | cons i L ih =>
  obtain ⟨r, hr⟩ := Option.isSome_iff_exists.1 (hL i (by simp))
  obtain ⟨a, b, h1, h2, h3⟩ := hg i r hr
  have ih' := ih (fun j hj => hL j (by simp [hj]))
  simp only [List.forIn_cons, Sem.run_bind, h1, h2, h3, Result.andThen_ok, List.all_cons, hr, Option.getD_some]
  cases r
  ·simp
  ·simpa using ih'
theorem eqEs_get {g : TypeId → SV → SV → Option (Bool × Bool)} {e n : Nat} {xs ys : List SV} : ∀ {is : List Nat} {r l : Bool}, eqEs (P := P) g e n xs ys is = some (r, l) →
  ∃ f : Nat → Option Bool, (∀ i ∈ is, ∃ a b q l', partS P e xs (i * n) = some a ∧ partS P e ys (i * n) = some b ∧ g e a b = some (q, l') ∧ f i = some q) ∧ r = is.all (fun i => (f i).getD true) ∧
   ∀ i, f i = match partS P e xs (i * n), partS P e ys (i * n) with | some a, some b => (g e a b).map (·.1) | _, _ => none
 | is, r, l, h => by
  refine ⟨fun i => match partS P e xs (i * n), partS P e ys (i * n) with | some a, some b => (g e a b).map (·.1) | _, _ => none, ?_, ?_, fun _ => rfl⟩
  ·induction is generalizing r l with
   | nil => simp
   | cons i is ih =>
    simp only [eqEs] at h
    split at h
    ·rename_i a b ha hb
     split at h
     ·rename_i r1 l1 r2 l2 h1 h2
      intro j hj
      rcases List.mem_cons.1 hj with rfl | hj
      ·exact ⟨a, b, r1, l1, ha, hb, h1, by simp [ha, hb, h1]⟩
      ·exact ih _ _ h2 j hj
     ·cases h
    ·cases h
  ·induction is generalizing r l with
   | nil => simp only [eqEs, Option.some.injEq, Prod.mk.injEq] at h; simp [← h.1]
   | cons i is ih =>
    simp only [eqEs] at h
    split at h
    ·rename_i a b ha hb
     split at h
     ·rename_i r1 l1 r2 l2 h1 h2
      simp only [Option.some.injEq, Prod.mk.injEq] at h
      have ih2 := ih _ _ h2
      simp only at ih2
      simp [← h.1, ha, hb, h1, ← ih2]
     ·cases h
    ·cases h
theorem run_eqS {ρ : List Nat} (w : World) : ∀ (d D : Nat) {t : TypeId} {x y : SV} {r l : Bool}, eqS P d t x y = some (r, l) → d ≤ D → (Op.equalIn D t (x.den ρ) (y.den ρ)).run P w = .ok r w
 | 0, _, _, _, _, _, _, h, _ => by simp [eqS] at h
 | d + 1, 0, _, _, _, _, _, _, hD => by omega
 | d + 1, D + 1, t, x, y, r, l, h, hD => by
  simp only [eqS] at h
  split at h
  ·rename_i hu
   split at h
   ·rename_i a la b lb hx hy
    simp only [Option.some.injEq, Prod.mk.injEq] at h
    rw [litOf_den hx, litOf_den hy, ← h.1]
    exact run_equalIn_bool w D t a b hu
   ·cases h
  ·rename_i k0 hu
   split at h
   ·rename_i k a la k' b lb hx hy
    split at h
    ·rename_i hk
     simp only [Option.some.injEq, Prod.mk.injEq] at h
     have : k = k' := by simpa using hk
     subst this
     rw [litOf_den hx, litOf_den hy, ← h.1]
     simp [Op.equalIn, run_underlying hu]
    ·cases h
   ·cases h
  ·rename_i hu
   split at h
   ·rename_i a la b lb hx hy
    simp only [Option.some.injEq, Prod.mk.injEq] at h
    rw [litOf_den hx, litOf_den hy, ← h.1]
    exact run_equalIn_string w D t a b hu
   ·cases h
  ·rename_i fs hu
   split at h
   ·rename_i xs ys hst
    have hf : P.fieldsOf t = fs := by simp [Program.fieldsOf, hu]
    have h1 := run_eqFs (ρ := ρ) (D := D) w (fun t' x' y' r' l' hh => run_eqS w d D hh (by omega)) h
    simp only [SV.den]
    rw [run_equalIn_struct w D t _ _ (by rw [hf]; exact hu) hst, hf]
    exact h1
   ·cases h
  ·rename_i len e hu
   split at h
   ·rename_i xs ys n hn
    obtain ⟨f, hf, hr, hfd⟩ := eqEs_get h
    simp only [SV.den]
    rw [hr]
    refine run_equalIn_array D t _ _ hu hn w f ?_ ?_
    ·intro i q hq
     rw [hfd] at hq
     split at hq
     ·rename_i a b ha hb
      obtain ⟨⟨q', l'⟩, hg, hq'⟩ := Option.map_eq_some_iff.1 hq
      simp only at hq'
      subst hq'
      exact ⟨_, _, run_partS ha w, run_partS hb w, run_eqS w d D hg (by omega)⟩
     ·cases hq
    ·intro i hi
     obtain ⟨a, b, q, l', _, _, _, hq⟩ := hf i (List.mem_range.2 hi)
     simp [hq]
   ·cases h
  ·cases h
end
end Go.Sx
namespace Go.Sx
open Go.RowKit
section
variable {P : Program}
variable [Md]
def evalL (fr : Fr) : List Operand → Option (List SV)
 | [] => some []
 | o :: l => match evalS fr o, evalL fr l with
  | some s, some r => some (s :: r)
  | _, _ => none
theorem evalL_sound {ntm : Nat} {ρ : List Nat} {fr : Fr} {a : Act} (h : AInv ntm ρ fr a) : ∀ {l : List Operand} {r : List SV}, evalL fr l = some r → l.map a.eval = SV.denL ρ r
 | [], r, he => by simp only [evalL, Option.some.injEq] at he; subst he; rfl
 | o :: l, r, he => by
  simp only [evalL] at he
  split at he
  ·rename_i s r' h1 h2
   simp only [Option.some.injEq] at he
   subst he
   simp [SV.denL, evalS_sound h h1, evalL_sound h h2]
  ·cases he
def evalP (fr : Fr) : List (Nat × Operand) → Option (List (Nat × SV))
 | [] => some []
 | (i, o) :: l => match evalS fr o, evalP fr l with
  | some s, some r => some ((i, s) :: r)
  | _, _ => none
theorem evalP_sound {ntm : Nat} {ρ : List Nat} {fr : Fr} {a : Act} (h : AInv ntm ρ fr a) : ∀ {l : List (Nat × Operand)} {r : List (Nat × SV)}, evalP fr l = some r →
  (l.map fun x => (x.1, a.eval x.2)) = r.map fun x => (x.1, x.2.den ρ)
 | [], r, he => by simp only [evalP, Option.some.injEq] at he; subst he; rfl
 | (i, o) :: l, r, he => by
  simp only [evalP] at he
  split at he
  ·rename_i s r' h1 h2
   simp only [Option.some.injEq] at he
   subst he
   simp [evalS_sound h h1, evalP_sound h h2]
  ·cases he
def indexS (P : Program) (t : TypeId) (sx si : SV) : Option SV :=
 match P.underlying t, sx, si with
 | some (.array len e), .agg l, .v (.int _ n) => match decide (0 ≤ n ∧ n < len), sizeT P e with
  | true, some k => partS P e l (n.toNat * k)
  | _, _ => none
 | _, _, _ => none
def indexAddrS (P : Program) (t : TypeId) (sx si : SV) : Option SV :=
 match P.underlying t, sx, si with
 | some (.array len e), .lp i off, .v (.int _ n) => match decide (0 ≤ n ∧ n < len), sizeT P e with
  | true, some k => some (.lp i (off + n.toNat * k))
  | _, _ => none
 | some (.slice e), .ls i off len _, .v (.int _ n) => match decide (0 ≤ n ∧ n < len), sizeT P e with
  | true, some k => some (.lp i (off + n.toNat * k))
  | _, _ => none
 | _, _, _ => none
def lenS (P : Program) (t : TypeId) (s : SV) : Option SV :=
 match P.underlying t, s with
 | some .string, .v (.string x) => some (.v (.int .i64 x.size))
 | some .string, .so x => some (.io .i64 x.size)
 | some (.array n _), _ => some (.v (.int .i64 n))
 | some (.slice _), .sl _ n _ => some (.io .i64 n)
 | some (.slice _), .v (.slice _ n _) => some (.v (.int .i64 n))
 | some (.slice _), .ls _ _ n _ => some (.v (.int .i64 n))
 | _, _ => none
def unS (op : UnOp) (s : SV) : Option SV :=
 match op, litOf s with
 | .not, some (.bool b, l) => some (mkR l (.bool (!b)))
 | .neg, some (.int k n, l) => some (mkR l (.int k (k.wrap (0 - n))))
 | _, _ => none
def eqAgg (P : Program) (t : TypeId) (neg : Bool) (l r : List SV) : Option SV :=
 match P.eqGuardType P.depth t, eqS P 20 t (.agg l) (.agg r) with
 | false, some (b, lit) => match neg with
  | true => some (mkR lit (.bool (!b)))
  | false => some (mkR lit (.bool b))
 | _, _ => none
def binOpS (P : Program) (op : BinOp) (t : TypeId) (sx sy : SV) : Option SV :=
 match op, sx, sy with
 | .eql, .agg l, .agg r => eqAgg P t false l r
 | .neq, .agg l, .agg r => eqAgg P t true l r
 | _, _, _ => match sx.calm with
  | true => binS P op t sx sy
  | false => none
def pureOp (P : Program) (loc : Loc) (fr : Fr) : Op → Option SV
 | .move x => evalS fr x
 | .assign x => evalS fr x
 | .pick c a b => match evalS fr c with
  | some (.v (.bool true)) => evalS fr a
  | some (.v (.bool false)) => evalS fr b
  | _ => none
 | .load t x => match evalS fr x with
  | some (.lp i off) => loadS P loc t i off
  | _ => none
 | .nilCheck x => match evalS fr x with
  | some (.lp i off) => some (.lp i off)
  | some (.fn (.func f) cs) => some (.fn (.func f) cs)
  | _ => none
 | .binOp op t x y _ => match evalS fr x, evalS fr y with
  | some sx, some sy => binOpS P op t sx sy
  | _, _ => none
 | .unOp op _ x => match evalS fr x with
  | some s => unS op s
  | _ => none
 | .convert src dst x => match P.underlying src, P.underlying dst, (evalS fr x).bind litOf with
  | some _, some (.int k), some (.int _ n, l) => some (mkR l (.int k (k.wrap n)))
  | _, _, _ => none
 | .fieldAddr s x f => match P.underlying s, evalS fr x with
  | some (.struct fs), some (.lp i off) => match fs[f]? with
   | some fd => match sizeT P fd.type with
    | some 0 => none
    | some (_ + 1) => some (.lp i (off + fd.offset))
    | none => none
   | none => none
  | _, _ => none
 | .field t x f => match P.underlying t, evalS fr x with
  | some (.struct fs), some (.agg l) => match fs[f]? with
   | some fd => partS P fd.type l fd.offset
   | none => none
  | _, _ => none
 | .indexAddr t x ix => match evalS fr x, evalS fr ix with
  | some sx, some si => indexAddrS P t sx si
  | _, _ => none
 | .index t x ix => match evalS fr x, evalS fr ix with
  | some sx, some si => indexS P t sx si
  | _, _ => none
 | .extract x k => match evalS fr x with
  | some (.tup l) => l[k]?
  | _ => none
 | .makeFunc f first caps => match first.size, evalL fr caps.toList with
  | 0, some cs => some (.fn f cs)
  | _, _ => none
 | .build t parts => match evalP fr parts.toList with
  | some ps => (builtS P t ps).map .agg
  | none => none
 | .call { callee := .builtin .len, args := ⟨[x]⟩, argTypes := ⟨[t]⟩ } => match evalS fr x with
  | some s => lenS P t s
  | none => none
 | _ => none
theorem run_unS {ρ : List Nat} {op : UnOp} {s r : SV} (h : unS op s = some r) (w : World) : (Op.unary op (s.den ρ)).run P w = .ok (r.den ρ) w := by
 unfold unS at h
 split at h
 ·rename_i b l hl
  simp only [Option.some.injEq] at h
  rw [litOf_den hl, ← h, mkR_den]; rfl
 ·rename_i k n l hl
  simp only [Option.some.injEq] at h
  rw [litOf_den hl, ← h, mkR_den]; rfl
 ·cases h
theorem run_binOpS {ρ : List Nat} {op : BinOp} {t : TypeId} {sx sy r : SV} (h : binOpS P op t sx sy = some r) (x y : Operand) (w : World) :
  ((do eqGuard op t x y (sx.den ρ) (sy.den ρ); binOp op t (sx.den ρ) (sy.den ρ)) : Sem Value).run P w = .ok (r.den ρ) w := by
 have hagg : ∀ (neg : Bool) (l l' : List SV), eqAgg P t neg l l' = some r →
   (eqGuard op t x y (SV.den ρ (.agg l)) (SV.den ρ (.agg l'))).run P w = .ok () w ∧ ∃ b, (Op.equalIn 10000 t (SV.den ρ (.agg l)) (SV.den ρ (.agg l'))).run P w = .ok b w ∧ r.den ρ = .bool (match neg with | true => !b | false => b) := by
  intro neg l l' hh
  unfold eqAgg at hh
  split at hh
  ·rename_i b lit hg he
   cases neg <;> (
    simp only [Option.some.injEq] at hh
    exact ⟨by simpa [SV.den] using run_eqGuard_agg (P := P) w op t x y _ _ hg, b, run_eqS w 20 10000 he (by omega), by rw [← hh, mkR_den]⟩)
  ·cases hh
 unfold binOpS at h
 split at h
 ·rename_i l l'
  obtain ⟨h1, b, h2, h3⟩ := hagg _ _ _ h
  simp only [Sem.run_bind, h1, Result.andThen_ok, h3]
  simp only [SV.den] at h2 ⊢
  rw [run_eql_struct, h2]; rfl
 ·rename_i l l'
  obtain ⟨h1, b, h2, h3⟩ := hagg _ _ _ h
  simp only [Sem.run_bind, h1, Result.andThen_ok, h3]
  simp only [SV.den] at h2 ⊢
  rw [run_neq_struct, h2]; rfl
 ·split at h
  ·rename_i hc
   simp only [Sem.run_bind, run_eqGuard_calm hc, Result.andThen_ok, run_binS h]
  ·cases h
theorem run_indexS {ρ : List Nat} {t : TypeId} {sx si r : SV} (h : indexS P t sx si = some r) (w : World) : (Instr.index t (sx.den ρ) (si.den ρ)).run P w = .ok (r.den ρ) w := by
 unfold indexS at h
 split at h
 ·rename_i len e l k n hu
  split at h
  ·rename_i m hd hs
   have hd' : 0 ≤ n ∧ n < (len : Int) := by simpa using hd
   simp only [SV.den, Instr.index, asIntOf, Sem.run_bind, Sem.run_pure, Result.andThen_ok, run_underlying hu, if_pos hd', run_sizeT hs, run_partS h]
  ·cases h
 ·cases h
theorem run_indexAddrS {ρ : List Nat} {t : TypeId} {sx si r : SV} (h : indexAddrS P t sx si = some r) (w : World) : (Instr.indexAt t (sx.den ρ) (si.den ρ)).run P w = .ok (r.den ρ) w := by
 unfold indexAddrS at h
 split at h
 ·rename_i len e i off k n hu
  split at h
  ·rename_i m hd hs
   have hd' : 0 ≤ n ∧ n < (len : Int) := by simpa using hd
   simp only [Option.some.injEq] at h
   simp [← h, SV.den, Instr.indexAt, asIntOf, run_underlying hu, hd', run_sizeT hs, Instr.sureAddr, add_ok]
  ·cases h
 ·rename_i e i off len c k n hu
  split at h
  ·rename_i m hd hs
   have hd' : 0 ≤ n ∧ n < (len : Int) := by simpa using hd
   simp only [Option.some.injEq] at h
   simp [← h, SV.den, Instr.indexAt, asIntOf, run_underlying hu, hd', run_sizeT hs, add_ok]
  ·cases h
 ·cases h
theorem run_lenS {ρ : List Nat} {t ty : TypeId} {s r : SV} (h : lenS P t s = some r) (w : World) : (Builtin.len_ #[t] ty #[s.den ρ]).run P w = .ok (r.den ρ) w := by
 unfold lenS at h
 split at h <;> first
  | cases h; done
  | (rename_i hu; simp only [Option.some.injEq] at h; subst h; simp [Builtin.len_, run_underlying hu, SV.den, goInt])
theorem run_pureOp {N ntm : Nat} {w0 w : World} {ρ : List Nat} {loc : Loc} {fr : Fr} {a : Act} (ha : AInv ntm ρ fr a) {o : Oper} (hw : (∃ t x, o.op = .load t x) → WInv N w0 ρ loc w) {s : SV}
  (h : pureOp P loc fr o.op = some s) : (execOp a.eval o).run P w = .ok (.value (s.den ρ)) w := by
 obtain ⟨dst, op, ty, pos, after, guard⟩ := o
 simp only at h
 unfold pureOp at h
 unfold execOp
 split at h
 ·simp [evalS_sound ha h]
 ·simp [evalS_sound ha h]
 ·split at h
  ·rename_i hc; simp [evalS_sound ha hc, evalS_sound ha h, SV.den, asBool]
  ·rename_i hc; simp [evalS_sound ha hc, evalS_sound ha h, SV.den, asBool]
  ·cases h
 ·split at h
  ·rename_i i off he
   simp [evalS_sound ha he, SV.den, Instr.loadAt, Instr.sureAddr, run_loadS (hw ⟨_, _, rfl⟩) h]
  ·cases h
 ·split at h
  ·rename_i i off he
   simp only [Option.some.injEq] at h
   simp [evalS_sound ha he, ← h, SV.den]
  ·rename_i f cs he
   simp only [Option.some.injEq] at h
   simp [evalS_sound ha he, ← h, SV.den]
  ·cases h
 ·split at h
  ·rename_i sx sy hx hy
   have := run_binOpS (ρ := ρ) h
   simp only [evalS_sound ha hx, evalS_sound ha hy, Sem.run_bind] at this ⊢
   simp [this]
  ·cases h
 ·split at h
  ·rename_i sx hx
   simp [evalS_sound ha hx, run_unS h]
  ·cases h
 ·split at h
  ·rename_i d0 k k' n l h1 h2 h3
   obtain ⟨sx, hx, hl⟩ := Option.bind_eq_some_iff.1 h3
   simp only [Option.some.injEq] at h
   rw [← h, mkR_den]
   simp [evalS_sound ha hx, litOf_den hl, convert, run_underlying h1, run_underlying h2, Conv.intToInt]
  ·cases h
 ·split at h
  ·rename_i fs i off hu hx
   split at h
   ·rename_i fd hf
    split at h
    ·cases h
    ·rename_i m hs
     simp only [Option.some.injEq] at h
     simp [evalS_sound ha hx, ← h, SV.den, Instr.fieldAt, run_underlying hu, hf, Instr.sureAddr, fieldPlace, run_sizeT hs, add_ok]
    ·cases h
   ·cases h
  ·cases h
 ·split at h
  ·rename_i fs l hu hx
   split at h
   ·rename_i fd hf
    simp [evalS_sound ha hx, SV.den, Instr.field, run_underlying hu, hf, asAgg, run_partS h]
   ·cases h
  ·cases h
 ·split at h
  ·rename_i sx si hx hi
   simp [evalS_sound ha hx, evalS_sound ha hi, run_indexAddrS h]
  ·cases h
 ·split at h
  ·rename_i sx si hx hi
   simp [evalS_sound ha hx, evalS_sound ha hi, run_indexS h]
  ·cases h
 ·split at h
  ·rename_i l hx
   simp [evalS_sound ha hx, SV.den, Instr.extract, SV.denL_eq, h]
  ·cases h
 ·rename_i f first caps
  split at h
  ·rename_i cs h1 h2
   simp only [Option.some.injEq] at h
   have e1 : first = #[] := Array.eq_empty_of_size_eq_zero h1
   have e2 := evalL_sound ha h2
   subst e1
   have e3 : caps.map a.eval = (SV.denL ρ cs).toArray := Array.ext' (by rw [← e2]; simp)
   simp [← h, SV.den, Instr.makeFunc, e3]
  ·cases h
 ·rename_i t parts
  split at h
  ·rename_i ps h1
   obtain ⟨l, hl, hs⟩ := Option.map_eq_some_iff.1 h
   have e := evalP_sound ha h1
   have hb := builtS_den (ρ := ρ) hl
   rw [← e] at hb
   have hr := run_build (P := P) w t (parts.map fun x => (x.1, a.eval x.2)) _ (by simpa using hb)
   simp [← hs, SV.den, hr]
  ·cases h
 ·split at h
  ·rename_i s0 hx
   simp [resolve, invoke, builtin, evalS_sound ha hx, run_lenS h]
  ·cases h
 ·cases h
end
end Go.Sx
/- The walk's word on code: in a function's frame as the kit's; in a round of a loop over a function (code without loops and scopes) inside the round's frame. -/
namespace Go.Sx
def noDefer (o : Oper) : Bool := match o.op with | .defer _ => false | _ => true
theorem noDefer_ne {o : Oper} (h : noDefer o = true) : ∀ c, o.op ≠ .defer c := by
 intro c hc
 unfold noDefer at h
 rw [hc] at h
 cases h
def flat : Code → Bool
 | .region _ ops _ => ops.toList.all noDefer
 | .seq a b => flat a && flat b
 | .cond _ a b => flat a && flat b
 | .block _ c => flat c
 | .loop _ => false
 | .scope _ => false
 | .rangeFunc _ _ _ _ => false
 | _ => true
section
variable {P : Program} {ops : Array Oper} {md : Region.Mode} {Q : Exit → Act → World → Prop}
theorem rowsIn_of_rows {n : Nat} {row : String} {args : Array Value} {w : World} {R : Value → World → Prop} (h : Rows P row args w R) : RowsIn Fence.wide n P row args w R :=
 fun c cs _ => let ⟨v, w', r, s⟩ := h c cs; ⟨v, w', r, stepsIn_wide.2 s⟩
theorem callsIn_round {l n : Nat} {f : FuncId} {args : Array Value} {w : World} {R : Ending → World → Prop} (h : Calls P f args w R) : CallsIn (Fence.wide.inRound l) n P f args w R :=
 (callsIn_wide (n := n)).2 h
theorem operIn {l : Nat} {o : Oper} (hd : noDefer o = true) {a : Act} {w : World} {K : Act → World → Prop} (h : o.wp P a w K Q) : o.wpIn (Fence.wide.inRound l) 0 P a w K Q := by
 refine ⟨fun _ _ => trivial, ?_⟩
 rw [Oper.semAt_eq _ _ _ (noDefer_ne hd)]
 unfold Oper.wp at h
 generalize (execOp a.eval o).run P w = r at *
 cases r with
 | ok n w' =>
  cases n <;> simp only [Oper.upon] at h <;> simp only [Oper.uponIn]
  case value => exact h
  case skip => exact h
  case defer => exact h
  case row => exact ⟨fun h0 => absurd h0 (by simp [Fence.wide]), rowsIn_of_rows h⟩
  case enter => exact ⟨fun h0 => absurd h0 (by simp [Fence.wide]), callsIn_round h⟩
 | halt x w' =>
  cases x <;> simp only [Oper.upon] at h <;> simp only [Oper.uponIn]
  exact h
theorem listIn {k : Nat} (hQ : ¬ LetsOut Q) : ∀ (l : List Oper) (a : Act) (w : World), l.all noDefer = true → wpList P ops Q l a w → wpListIn (Fence.wide.inRound k) 0 P ops Q l a w
 | [], _, _, _, h => h
 | o :: l, a, w, hd, h => by
  simp only [List.all_cons, Bool.and_eq_true] at hd
  unfold wpList at h
  unfold wpListIn
  split
  ·rename_i hw
   rw [if_pos hw] at h
   rcases h with h | ⟨_, h⟩
   ·exact Oper.wpIn_mono (fun a w hh => listIn hQ l a w hd.2 hh) (operIn hd.1 h)
   ·exact absurd h hQ
  ·rename_i hw
   rw [if_neg hw] at h
   exact ⟨fun _ _ => trivial, listIn hQ l _ w hd.2 h⟩
theorem opIn1 {k : Nat} (hQ : ¬ LetsOut Q) (hd : ops.toList.all noDefer = true) {i : Nat} {K : Act → World → Prop} {a : Act} {w : World} (h : wpOp P ops Q i K a w) : wpOpIn (Fence.wide.inRound k) 0 P ops Q i K a w := by
 unfold wpOp at h
 unfold wpOpIn
 cases ho : ops[i]? with
 | none => simp only [ho] at h; exact h
 | some o =>
  simp only [ho] at h
  have hmem : o ∈ ops.toList := by
   obtain ⟨hl, he⟩ := Array.getElem?_eq_some_iff.1 ho
   rw [← he]
   exact Array.getElem_mem_toList hl
  have hdo : noDefer o = true := List.all_eq_true.1 hd o hmem
  simp only
  split
  ·rename_i hw
   rw [if_pos hw] at h
   rcases h with h | ⟨_, h⟩
   ·exact operIn hdo h
   ·exact absurd h hQ
  ·rename_i hw
   rw [if_neg hw] at h
   exact ⟨fun _ _ => trivial, h⟩
theorem anyIn {k : Nat} (hQ : ¬ LetsOut Q) (hd : ops.toList.all noDefer = true) : ∀ (f : Nat) (listed : Array Bool) (a : Act) (w : World), wpAny P md ops Q f listed a w → wpAnyIn (Fence.wide.inRound k) 0 P md ops Q f listed a w
 | 0, _, _, _, h => h
 | f + 1, _, _, _, h => ⟨h.1, fun i hi => wpOpIn_mono (fun a w hh => anyIn hQ hd f _ a w hh) (opIn1 hQ hd (h.2 i hi))⟩
variable [Md]
def CW (P : Program) (c : Code) (Q : Exit → Act → World → Prop) (a : Act) (w : World) : Prop :=
 match Md.round with
 | none => c.wp P Q a w
 | some l => flat c = true → ¬ LetsOut Q → c.wpIn (Fence.wide.inRound l) 0 P Q a w
theorem CW_none (h : Md.round = none) {c : Code} {a : Act} {w : World} : CW P c Q a w ↔ c.wp P Q a w := by
 unfold CW; rw [h]
theorem CW_some {l : Nat} (h : Md.round = some l) {c : Code} {a : Act} {w : World} : CW P c Q a w ↔ (flat c = true → ¬ LetsOut Q → c.wpIn (Fence.wide.inRound l) 0 P Q a w) := by
 unfold CW; rw [h]
theorem CW_mk {c : Code} {a : Act} {w : World} (h1 : Md.round = none → c.wp P Q a w) (h2 : ∀ l, Md.round = some l → flat c = true → ¬ LetsOut Q → c.wpIn (Fence.wide.inRound l) 0 P Q a w) : CW P c Q a w := by
 cases hr : (Md.round : Option Nat) with
 | none => exact (CW_none hr).2 (h1 hr)
 | some l => exact (CW_some hr).2 (h2 l hr)
theorem CW_fn {c : Code} {a : Act} {w : World} (hf : flat c = false) (h : Md.round = none → c.wp P Q a w) : CW P c Q a w :=
 CW_mk h fun l _ h0 => by rw [hf] at h0; cases h0
theorem CW_skip {a : Act} {w : World} (h : Q .normal a w) : CW P .skip Q a w := CW_mk (fun _ => wp_skip h) fun _ _ _ _ => wpIn_skip h
theorem CW_label {l : Nat} {a : Act} {w : World} (h : Q .normal a w) : CW P (.label l) Q a w := CW_mk (fun _ => wp_label h) fun _ _ _ _ => wpIn_label h
theorem CW_goto {l : Nat} {a : Act} {w : World} (h : Q (.goto l) a w) : CW P (.goto l) Q a w := CW_mk (fun _ => wp_goto h) fun _ _ _ _ => wpIn_goto h
theorem CW_exit {id : Nat} {a : Act} {w : World} (h : Q (.exit id) a w) : CW P (.exit id) Q a w := CW_mk (fun _ => wp_exit h) fun _ _ _ _ => wpIn_exit h
theorem CW_ret {a : Act} {w : World} (h : Q .ret a w) : CW P .ret Q a w := CW_mk (fun _ => wp_ret h) fun _ _ _ _ => wpIn_ret h
theorem CW_seq {x y : Code} {a : Act} {w : World} (h : CW P x (Exit.then (CW P y Q) Q) a w) : CW P (.seq x y) Q a w := by
 refine CW_mk (fun h0 => wp_seq (wp_mono ((CW_none h0).1 h) ?_)) fun l hl hf hQ => ?_
 ·intro e a' w' hq
  cases e <;> first | exact (CW_none h0).1 hq | exact hq
 ·simp only [flat, Bool.and_eq_true] at hf
  refine wpIn_seq (wpIn_mono ((CW_some hl).1 h hf.1 hQ) ?_)
  intro e a' w' hq
  cases e <;> first | exact (CW_some hl).1 hq hf.2 hQ | exact hq
theorem CW_cond_true {c : Operand} {x y : Code} {a : Act} {w : World} (hc : a.eval c = .bool true) (h : CW P x Q a w) : CW P (.cond c x y) Q a w := by
 refine CW_mk (fun h0 => wp_cond_true hc ((CW_none h0).1 h)) fun l hl hf hQ => ?_
 simp only [flat, Bool.and_eq_true] at hf
 exact wpIn_cond_true hc ((CW_some hl).1 h hf.1 hQ)
theorem CW_cond_false {c : Operand} {x y : Code} {a : Act} {w : World} (hc : a.eval c = .bool false) (h : CW P y Q a w) : CW P (.cond c x y) Q a w := by
 refine CW_mk (fun h0 => wp_cond_false hc ((CW_none h0).1 h)) fun l hl hf hQ => ?_
 simp only [flat, Bool.and_eq_true] at hf
 exact wpIn_cond_false hc ((CW_some hl).1 h hf.2 hQ)
theorem CW_block {id : Nat} {c : Code} {a : Act} {w : World} (h : CW P c (Exit.inBlock id Q) a w) : CW P (.block id c) Q a w :=
 CW_mk (fun h0 => wp_block ((CW_none h0).1 h)) fun l hl hf hQ => wpIn_block ((CW_some hl).1 h hf hQ)
theorem CW_region_list {id : Nat} {a : Act} {w : World} (h : wpList P ops Q ops.toList a w) : CW P (.region id ops false) Q a w :=
 CW_mk (fun _ => wp_region_list h) fun _ _ hf hQ => wpIn_region_list (listIn hQ _ _ _ hf h)
theorem CW_region_any {id : Nat} {a : Act} {w : World} (hm : P.follows .mixedOrders = true) (h : wpAny P .any ops Q ops.size (Array.replicate ops.size false) a { w with drawn := w.drawn + 1 }) : CW P (.region id ops true) Q a w :=
 CW_mk (fun _ => wp_region_any hm h) fun _ _ hf hQ => wpIn_region_any hm (anyIn hQ hf _ _ _ _ h)
theorem CW_region_quiet {C : World → Prop} {id : Nat} {a : Act} {w : World} (hm : P.follows .mixedOrders = true) (hB : Region.lexB .any ops = true) (hC : C { w with drawn := w.drawn + 1 })
  (h : wpQuiet P ops C (fun a' => ∀ w', C w' → Q .normal a' w') ops.toList a) : CW P (.region id ops true) Q a w := by
 simp only [Region.lexB, Bool.and_eq_true] at hB
 refine CW_region_any hm (wpAny_of_quiet (Q := fun a' => ∀ w', C w' → Q .normal a' w') (fun _ w' hw' h => h w' hw') _ _ _ _ hC ?_)
 have := wpAnyQ_lex (C := C) (md := .any) hB.1 ops.toList 0 (Array.replicate ops.size false) a (by simp) (by simpa using hB.2) h
 simpa using this
theorem CW_region_quiet_tail {C : World → Prop} {id : Nat} {a : Act} {w : World} (n : Nat) (hm : P.follows .mixedOrders = true) (hB : Region.lexTailB .any ops n = true) (hC : C { w with drawn := w.drawn + 1 })
  (h : wpQuiet P ops C (fun a' => ∀ w', C w' → wpList P ops Q (ops.toList.drop n) a' w') (ops.toList.take n) a) : CW P (.region id ops true) Q a w :=
 CW_region_any hm (any_quiet_tail n hB hC h)
def roundsW (P : Program) (c : Code) (Q : Exit → Act → World → Prop) : Nat → Act → World → Prop
 | 0, _, _ => False
 | n + 1, a, w => CW P c (Exit.then (roundsW P c Q n) Q) a w
theorem roundsW_fn (h0 : Md.round = none) {c : Code} : ∀ (n : Nat) (a : Act) (w : World), roundsW P c Q n a w → Code.rounds P c Q n a w
 | 0, _, _, h => h
 | n + 1, a, w, h => by
  rw [rounds_succ]
  refine wp_mono ((CW_none h0).1 h) ?_
  intro e a' w' hq
  cases e <;> first | exact roundsW_fn h0 n _ _ hq | exact hq
theorem CW_loop_rounds {c : Code} (n : Nat) {a : Act} {w : World} (h : roundsW P c Q n a w) : CW P (.loop c) Q a w :=
 CW_fn rfl fun h0 => wp_loop_rounds n (roundsW_fn h0 n a w h)
theorem CW_scope_straight {c : Code} {a : Act} {w : World} (h : CW P c (Exit.noGoto Q) a w) : CW P (.scope c) Q a w :=
 CW_fn rfl fun h0 => wp_scope_straight ((CW_none h0).1 h)
end
end Go.Sx
namespace Go.Sx
open Go.RowKit
inductive PC where
 | code (c : Code)
 | ops (all : Array Oper) (rest : List Oper)
 | qops (all : Array Oper) (rest : List Oper)
 | exit (e : Exit)
 | any (all : Array Oper) (f : Nat) (dn : List Nat)
inductive K where
 | seq (c : Code)
 | block (id : Nat)
 | scope
 | next (f : Act → World → Prop)
 | rounds (c : Code) (n : Nat)
 | jump (J : Nat → Act → World → Prop)
 | tail (all : Array Oper) (l : List Oper)
 | any (all : Array Oper) (f : Nat) (dn : List Nat)
def listedOf (n : Nat) : List Nat → Array Bool
 | [] => Array.replicate n false
 | j :: l => (listedOf n l).setIfInBounds j true
def exJumps (J : Nat → Act → World → Prop) (Q : Exit → Act → World → Prop) : Exit → Act → World → Prop
 | .goto l, a, w => J l a w
 | e, a, w => Q e a w
structure S where
 pc : PC
 ks : List K
 fr : Fr
 loc : Loc
section
variable {P : Program}
variable [Md]
def postK (P : Program) : List K → (Exit → Act → World → Prop) → (Exit → Act → World → Prop)
 | [], Q => Q
 | .seq c :: ks, Q => Exit.then (CW P c (postK P ks Q)) (postK P ks Q)
 | .block id :: ks, Q => Exit.inBlock id (postK P ks Q)
 | .scope :: ks, Q => Exit.noGoto (postK P ks Q)
 | .next f :: ks, Q => Exit.then f (postK P ks Q)
 | .rounds c n :: ks, Q => Exit.then (roundsW P c (postK P ks Q) n) (postK P ks Q)
 | .jump J :: ks, Q => exJumps J (postK P ks Q)
 | .tail all l :: ks, Q => Exit.then (wpList P all (postK P ks Q) l) (postK P ks Q)
 | .any all f dn :: ks, Q => Exit.then (wpAny P .any all (postK P ks Q) f (listedOf all.size dn)) (postK P ks Q)
def Ok (P : Program) (Q : Exit → Act → World → Prop) (pc : PC) (ks : List K) (a : Act) (w : World) : Prop :=
 match pc with
 | .code c => CW P c (postK P ks Q) a w
 | .ops all rest => wpList P all (postK P ks Q) rest a w
 | .qops all rest => wpQuiet P all (fun w' => Below w.heap.size w w') (fun a' => ∀ w', Below w.heap.size w w' → postK P ks Q .normal a' w') rest a
 | .exit e => postK P ks Q e a w
 | .any all f dn => wpAny P .any all (postK P ks Q) f (listedOf all.size dn) a w
structure Inv (N : Nat) (w0 : World) (ntm : Nat) (ρ : List Nat) (fr : Fr) (loc : Loc) (a : Act) (w : World) : Prop where
 act : AInv ntm ρ fr a
 mem : WInv N w0 ρ loc w
def Grow (n : Nat) (ρ ρ' : List Nat) : Prop := ∃ ext, ρ' = ρ ++ ext ∧ ∀ x ∈ ext, n ≤ x
theorem Grow.refl (n : Nat) (ρ : List Nat) : Grow n ρ ρ := ⟨[], by simp, by simp⟩
theorem Grow.trans {n m : Nat} {a b c : List Nat} (h : Grow n a b) (k : Grow m b c) (hm : n ≤ m) : Grow n a c := by
 obtain ⟨e1, rfl, h1⟩ := h
 obtain ⟨e2, rfl, h2⟩ := k
 exact ⟨e1 ++ e2, by simp, fun x hx => by
  rcases List.mem_append.1 hx with hh | hh
  ·exact h1 x hh
  ·exact Nat.le_trans hm (h2 x hh)⟩
theorem Grow.of_mem {n : Nat} {a b : List Nat} (h : Grow n a b) {x : Nat} (hx : x ∈ b) : x ∈ a ∨ n ≤ x := by
 obtain ⟨e, rfl, h1⟩ := h
 rcases List.mem_append.1 hx with hh | hh
 ·exact .inl hh
 ·exact .inr (h1 x hh)
/-! ### the frame -/
theorem AInv.put {ntm : Nat} {ρ : List Nat} {fr : Fr} {a : Act} (h : AInv ntm ρ fr a) {d : Nat} (hd : d < ntm) (s : SV) : AInv ntm ρ ((d, s) :: fr) (a.put (some d) (s.den ρ)) := by
 refine ⟨by simpa [Act.put] using h.defers, by simpa [Act.put] using h.size, fun t s' hs => ?_⟩
 simp only [look] at hs
 simp only [Act.put]
 split at hs
 ·rename_i hk
  have hk := Nat.eq_of_beq_eq_true hk
  subst hk
  simp only [Option.some.injEq] at hs
  subst hs
  simp [h.size, hd]
 ·rename_i hk
  have hk : d ≠ t := fun e => by subst e; simp at hk
  rw [Array.getElem?_setIfInBounds_ne hk]
  exact h.slot t s' hs
def putS (ntm : Nat) (fr : Fr) (d : Option Nat) (s : SV) : Option Fr :=
 match d with
 | none => some fr
 | some d => match Nat.blt d ntm with
  | true => some ((d, s) :: fr)
  | false => none
theorem putS_ok {ntm : Nat} {ρ : List Nat} {fr fr' : Fr} {a : Act} (h : AInv ntm ρ fr a) {d : Option Nat} {s : SV} (hp : putS ntm fr d s = some fr') : AInv ntm ρ fr' (a.put d (s.den ρ)) := by
 cases d with
 | none => simp only [putS, Option.some.injEq] at hp; subst hp; exact h
 | some d =>
  simp only [putS] at hp
  split at hp
  ·rename_i hb
   simp only [Option.some.injEq] at hp
   subst hp
   exact h.put (by simpa using hb) s
  ·cases hp
def guardS (all : Array Oper) (fr : Fr) (o : Oper) : Option Bool :=
 match o.guard with
 | none => some true
 | some (j, want) => match all[j]? with
  | some oj => match oj.dst with
   | some t => match look fr t with
    | some (.v (.bool true)) => some want
    | some (.v (.bool false)) => some (!want)
    | some (.v (.tuple _)) => some false
    | _ => none
   | none => none
  | none => none
theorem guardS_ok {ntm : Nat} {ρ : List Nat} {fr : Fr} {a : Act} (h : AInv ntm ρ fr a) {all : Array Oper} {o : Oper} {b : Bool} (hg : guardS all fr o = some b) : Region.wanted o (yielded all a.tmps) = b := by
 unfold guardS at hg
 unfold Region.wanted
 split at hg
 ·rename_i hn
  simp only [Option.some.injEq] at hg
  simp [hn, hg]
 ·rename_i j want hn
  split at hg
  ·rename_i oj hj
   split at hg
   ·rename_i t ht
    split at hg
    ·rename_i hl
     have := h.slot _ _ hl
     simp only [Option.some.injEq] at hg
     simp [hn, yielded, hj, ht, this, SV.den, ← hg]
    ·rename_i hl
     have := h.slot _ _ hl
     simp only [Option.some.injEq] at hg
     simp [hn, yielded, hj, ht, this, SV.den, ← hg]
    ·rename_i hl
     have := h.slot _ _ hl
     simp only [Option.some.injEq] at hg
     simp [hn, yielded, hj, ht, this, SV.den, ← hg]
    ·cases hg
   ·cases hg
  ·cases hg
/-! ### memory -/
def scopedFr (n : Nat) : Fr → Bool
 | [] => true
 | (_, s) :: l => s.inBlk n && scopedFr n l
def scopedLoc (n : Nat) : Loc → Bool
 | [] => true
 | (c, _) :: l => SV.scopedL n c && scopedLoc n l
theorem scopedFr_look {n : Nat} : ∀ {fr : Fr} {t : Nat} {s : SV}, scopedFr n fr = true → look fr t = some s → s.inBlk n = true
 | (k, s') :: l, t, s, h, hl => by
  simp only [scopedFr, Bool.and_eq_true] at h
  simp only [look] at hl
  split at hl
  ·simp only [Option.some.injEq] at hl; subst hl; exact h.1
  ·exact scopedFr_look h.2 hl
theorem scopedLoc_get {n : Nat} : ∀ {loc : Loc} {i : Nat} {c : List SV} {t : TypeId}, scopedLoc n loc = true → loc[i]? = some (c, t) → SV.scopedL n c = true
 | (c', t') :: l, 0, c, t, h, hl => by
  simp only [scopedLoc, Bool.and_eq_true] at h
  simp at hl
  obtain ⟨rfl, rfl⟩ := hl
  exact h.1
 | (c', t') :: l, i + 1, c, t, h, hl => by
  simp only [scopedLoc, Bool.and_eq_true] at h
  exact scopedLoc_get h.2 (by simpa using hl)
theorem WInv.alloc {N : Nat} {w0 w : World} {ρ : List Nat} {loc : Loc} (h : WInv N w0 ρ loc w) (c : List SV) (t : TypeId) (hs : scopedLoc loc.length loc = true) (hc : SV.scopedL loc.length c = true) :
  WInv N w0 (ρ ++ [w.heap.size]) (loc ++ [(c, t)]) (w.alloc (.cells (SV.denL ρ c).toArray t)) := by
 have hlen := h.len
 refine ⟨h.below.alloc h.hN _, by simp; have := h.hN; omega, by simp [hlen], ?_, ?_, ?_⟩
 ·rw [List.nodup_append]
  refine ⟨h.nodup, by simp, fun x hx y hy => ?_⟩
  simp at hy
  have := (h.ge x hx).2
  omega
 ·intro b hb
  simp only [List.mem_append, List.mem_singleton] at hb
  rcases hb with hb | rfl
  ·have := h.ge b hb; simp; omega
  ·have := h.hN; simp; omega
 ·intro i c' t' hi
  by_cases hlt : i < loc.length
  ·rw [List.getElem?_append_left hlt] at hi
   have hsc := scopedLoc_get hs hi
   have hn : nth (ρ ++ [w.heap.size]) i = nth ρ i := SV.getD_append (by omega)
   rw [hn, SV.denL_append ρ _ c' (by rw [hlen]; exact hsc)]
   have hold := h.cells i c' t' hi
   rw [Below.heap_alloc _ _ _ (Array.getElem?_eq_some_iff.1 hold).1]
   exact hold
  ·rw [List.getElem?_append_right (by omega)] at hi
   have he : i - loc.length = 0 := by
    rcases Nat.eq_zero_or_pos (i - loc.length) with h0 | h0
    ·exact h0
    ·rw [List.getElem?_eq_none (by simp; omega)] at hi; cases hi
   rw [he] at hi
   simp at hi
   obtain ⟨rfl, rfl⟩ := hi
   have hi' : i = ρ.length := by omega
   subst hi'
   have hn : nth (ρ ++ [w.heap.size]) ρ.length = w.heap.size := by simp [nth, List.getD]
   rw [hn, SV.denL_append ρ _ c (by rw [hlen]; exact hc)]
   exact heap_alloc_new w _
theorem AInv.grow {ntm : Nat} {ρ : List Nat} {fr : Fr} {a : Act} (h : AInv ntm ρ fr a) (b : Nat) (hs : scopedFr ρ.length fr = true) : AInv ntm (ρ ++ [b]) fr a :=
 ⟨h.defers, h.size, fun t s hl => by rw [SV.den_append ρ b s (scopedFr_look hs hl)]; exact h.slot t s hl⟩
theorem Keep.alloc_ (ρ : List Nat) (w : World) (o : Obj) : Keep ρ w (w.alloc o) :=
 ⟨rfl, rfl, rfl, by simp, fun k hk _ => Below.heap_alloc _ _ _ hk⟩
theorem WInv.store {N : Nat} {w0 w : World} {ρ : List Nat} {loc : Loc} (h : WInv N w0 ρ loc w) {i : Nat} {c : List SV} {t : TypeId} (hi : loc[i]? = some (c, t)) (c' : List SV) :
  WInv N w0 ρ (loc.set i (c', t)) (w.setRow (nth ρ i) (SV.denL ρ c').toArray) := by
 have hil : i < loc.length := (List.getElem?_eq_some_iff.1 hi).1
 have hmem : nth ρ i ∈ ρ := by
  have : i < ρ.length := by rw [h.len]; exact hil
  simp [nth, List.getD, this]
 have hge := h.ge _ hmem
 refine ⟨h.below.trans ⟨rfl, rfl, rfl, by simp, fun k hk => setRow_other w _ k _ (by omega)⟩, by simpa using h.hN, by simp [h.len], h.nodup, by simpa using h.ge, ?_⟩
 intro j d u hj
 by_cases hij : i = j
 ·subst hij
  rw [List.getElem?_set_self hil] at hj
  simp only [Option.some.injEq, Prod.mk.injEq] at hj
  obtain ⟨rfl, rfl⟩ := hj
  exact setRow_heap w _ _ _ _ _ (h.cells i c t hi)
 ·rw [List.getElem?_set_ne hij] at hj
  have hjl : j < loc.length := (List.getElem?_eq_some_iff.1 hj).1
  have hne : nth ρ j ≠ nth ρ i := by
   intro e
   have h1 : i < ρ.length := by rw [h.len]; exact hil
   have h2 : j < ρ.length := by rw [h.len]; exact hjl
   have e' : ρ[j] = ρ[i] := by simpa [nth, List.getD, h1, h2] using e
   exact hij ((List.getElem_inj h.nodup).1 e').symm
  rw [setRow_other w _ _ _ hne]
  exact h.cells j d u hj
theorem Keep.setRow_ {ρ : List Nat} {w : World} {g : Nat} (hg : g ∈ ρ) (cs : Array Value) : Keep ρ w (w.setRow g cs) :=
 ⟨rfl, rfl, rfl, by simp, fun k _ hn => setRow_other w g k cs (fun e => hn (e ▸ hg))⟩
theorem WInv.after {N : Nat} {w0 w w' : World} {ρ : List Nat} {loc : Loc} (h : WInv N w0 ρ loc w) (hb : Below w.heap.size w w') : WInv N w0 ρ loc w' :=
 ⟨h.below.trans (hb.mono h.hN), Nat.le_trans h.hN hb.size, h.len, h.nodup, fun b hm => ⟨(h.ge b hm).1, Nat.lt_of_lt_of_le (h.ge b hm).2 hb.size⟩, fun i c t hi => by
  have hold := h.cells i c t hi
  rw [hb.block _ (Array.getElem?_eq_some_iff.1 hold).1]
  exact hold⟩
end
end Go.Sx
namespace Go.Sx
open Go.RowKit
section
variable {P : Program}
variable [Md]
def initS (n : Nat) (z : Array Value) : List SV := (List.range n).map fun j => .v (z[j % z.size]!)
theorem initS_den (ρ : List Nat) (n : Nat) (z : Array Value) : (SV.denL ρ (initS n z)).toArray = (Array.range n).map (z[· % z.size]!) := by
 apply Array.ext'
 simp [initS, SV.denL_eq, Function.comp_def, SV.den]
def newB (fr : Fr) (loc : Loc) (c : List SV) (t : TypeId) : Option Loc :=
 match scopedFr loc.length fr && scopedLoc loc.length loc && SV.scopedL loc.length c with
 | true => some (loc ++ [(c, t)])
 | false => none
def memOp (P : Program) (fr : Fr) (loc : Loc) : Op → Option (Option SV × Loc)
 | .box t x => match (evalS fr x).bind SV.cells? with
  | some c => (newB fr loc c t).map fun l => (some (.lp loc.length 0), l)
  | none => none
 | .alloc t => match P.info? t with
  | some i => match i.zero with
   | some z => (newB fr loc (z.cells.toList.map .v) t).map fun l => (some (.lp loc.length 0), l)
   | none => none
  | none => none
 | .buildSlice t n parts => match P.underlying t, evalP fr parts.toList with
  | some (.slice e), some ps => match P.info? e with
   | some i => match i.zero, Nat.ble (n * i.size) (2 ^ 24) with
    | some z, true => match fillS (fun j => some (j * i.size, i.size)) (initS (n * i.size) z.cells) ps with
     | some c => (newB fr loc c e).map fun l => (some (.ls loc.length 0 n n), l)
     | none => none
    | _, _ => none
   | none => none
  | _, _ => none
 | .store t x y => match evalS fr x, (evalS fr y).bind SV.cells?, sizeT P t with
  | some (.lp i off), some l, some n => match loc[i]?, Nat.beq l.length n && oneL l with
   | some (c, ty), true => match Nat.ble (off + l.length) c.length with
    | true => some (none, loc.set i (c.take off ++ l ++ c.drop (off + l.length), ty))
    | false => none
   | _, _ => none
  | _, _, _ => none
 | _ => none
theorem run_newB {N ntm : Nat} {w0 w : World} {ρ : List Nat} {loc loc' : Loc} {fr : Fr} {a : Act} (ha : AInv ntm ρ fr a) (hw : WInv N w0 ρ loc w) {c : List SV} {t : TypeId}
  (h : newB fr loc c t = some loc') :
  AInv ntm (ρ ++ [w.heap.size]) fr a ∧ WInv N w0 (ρ ++ [w.heap.size]) loc' (w.alloc (.cells (SV.denL ρ c).toArray t)) ∧ nth (ρ ++ [w.heap.size]) loc.length = w.heap.size := by
 unfold newB at h
 split at h
 ·rename_i hs
  simp only [Bool.and_eq_true] at hs
  simp only [Option.some.injEq] at h
  subst h
  refine ⟨ha.grow _ (by rw [hw.len]; exact hs.1.1), hw.alloc c t hs.1.2 hs.2, ?_⟩
  have := hw.len
  simp [nth, List.getD, ← this]
 ·cases h
theorem run_memOp {N ntm : Nat} {w0 w : World} {ρ : List Nat} {loc loc' : Loc} {fr : Fr} {a : Act} (ha : AInv ntm ρ fr a) (hw : WInv N w0 ρ loc w) {o : Oper} {r : Option SV}
  (h : memOp P fr loc o.op = some (r, loc')) :
  ∃ ρ' w', Grow w.heap.size ρ ρ' ∧ AInv ntm ρ' fr a ∧ WInv N w0 ρ' loc' w' ∧ Keep ρ w w' ∧
   (execOp a.eval o).run P w = .ok (match r with | some s => .value (s.den ρ') | none => .skip) w' := by
 obtain ⟨dst, op, ty, pos, after, guard⟩ := o
 unfold execOp
 have hgrow : Grow w.heap.size ρ (ρ ++ [w.heap.size]) := ⟨[w.heap.size], rfl, by simp⟩
 cases op <;> try (simp [memOp] at h; done)
 case box t x =>
  simp only [memOp] at h
  split at h
  ·rename_i c hc
   obtain ⟨s, hs, hcs⟩ := Option.bind_eq_some_iff.1 hc
   obtain ⟨l', hl, he⟩ := Option.map_eq_some_iff.1 h
   simp only [Prod.mk.injEq] at he
   obtain ⟨rfl, rfl⟩ := he
   obtain ⟨h1, h2, h3⟩ := run_newB ha hw hl
   refine ⟨_, _, hgrow, h1, h2, Keep.alloc_ _ _ _, ?_⟩
   simp only [evalS_sound ha hs, Instr.box, newVar, newRow, SV.cells?_den hcs, SV.den, h3, Sem.run_bind, Sem.run_pure, Result.andThen_ok, run_newObj, World.alloc]
  ·cases h
 case alloc t =>
  simp only [memOp] at h
  split at h
  ·rename_i i hi
   split at h
   ·rename_i z hz
    obtain ⟨l', hl, he⟩ := Option.map_eq_some_iff.1 h
    simp only [Prod.mk.injEq] at he
    obtain ⟨rfl, rfl⟩ := he
    obtain ⟨h1, h2, h3⟩ := run_newB ha hw hl
    refine ⟨_, _, hgrow, h1, h2, Keep.alloc_ _ _ _, ?_⟩
    simp only [Instr.alloc, zeroValue, typeInfo, run_program, hi, hz, newVar, newRow, SV.den, h3, Sem.run_bind, Sem.run_pure, Result.andThen_ok, run_newObj, World.alloc, denL_v]
   ·cases h
  ·cases h
 case buildSlice t n parts =>
  simp only [memOp] at h
  split at h
  ·rename_i e ps hu hp
   split at h
   ·rename_i i hi
    split at h
    ·rename_i z hz hb
     have hb' := Nat.le_of_ble_eq_true hb
     split at h
     ·rename_i c hc
      obtain ⟨l', hl, he⟩ := Option.map_eq_some_iff.1 h
      simp only [Prod.mk.injEq] at he
      obtain ⟨rfl, rfl⟩ := he
      obtain ⟨h1, h2, h3⟩ := run_newB ha hw hl
      refine ⟨_, _, hgrow, h1, h2, Keep.alloc_ _ _ _, ?_⟩
      have hf := fillS_den (ρ := ρ) hc
      rw [← evalP_sound ha hp, initS_den] at hf
      have hsz : sizeT P e = some i.size := by simp [sizeT, hi]
      have hz0 : ∀ zz : Array Value, n * i.size = 0 → (Array.range (n * i.size)).map (fun j => zz[j % zz.size]!) = (Array.range (n * i.size)).map (fun j => z.cells[j % z.cells.size]!) := by
       intro zz h0; simp [h0]
      by_cases h0 : n * i.size = 0
      ·simp only [Instr.buildSlice, Sem.run_bind, run_underlying hu, Result.andThen_ok, run_sizeT hsz, if_neg (Nat.not_lt.2 hb'), if_pos h0, Sem.run_pure, hz0 #[] h0]
       simp [hf, newRow, SV.den, h3]
      ·simp only [Instr.buildSlice, Sem.run_bind, run_underlying hu, Result.andThen_ok, run_sizeT hsz, if_neg (Nat.not_lt.2 hb'), if_neg h0, Sem.run_pure, zeroValue, typeInfo, run_program, hi, hz]
       simp [hf, newRow, SV.den, h3]
     ·cases h
    ·cases h
   ·cases h
  ·cases h
 case store t x y =>
  simp only [memOp] at h
  split at h
  ·rename_i i off l n hx hy hn
   split at h
   ·rename_i c cty hl hb
    simp only [Bool.and_eq_true] at hb
    have hln := Nat.eq_of_beq_eq_true hb.1
    split at h
    ·rename_i hle
     have hle' := Nat.le_of_ble_eq_true hle
     obtain ⟨s, hs, hcs⟩ := Option.bind_eq_some_iff.1 hy
     simp only [Option.some.injEq, Prod.mk.injEq] at h
     obtain ⟨rfl, rfl⟩ := h
     have hil : i < ρ.length := by rw [hw.len]; exact (List.getElem?_eq_some_iff.1 hl).1
     have hm : nth ρ i ∈ ρ := by simp [nth, List.getD, hil]
     refine ⟨ρ, _, Grow.refl _ _, ha, hw.store hl _, Keep.setRow_ hm _, ?_⟩
     have hst := run_storeCells_at (P := P) (nth ρ i) off cty (SV.denL ρ l) 0 (SV.denL ρ c).toArray w (hw.cells i c cty hl) (by simp [SV.denL_eq]; omega) (oneL_den hb.2)
     have hcells := SV.cells?_den (ρ := ρ) hcs
     have hsize : (SV.denL ρ l).length = n := by simp [SV.denL_eq, hln]
     simp only [evalS_sound ha hx, evalS_sound ha hs, SV.den, Instr.storeAt, Instr.sureAddr, storeVar, Sem.run_bind, Sem.run_pure, Result.andThen_ok, run_sizeT hn, hcells, List.size_toArray, hsize, ne_eq, not_true_eq_false, if_false]
     simp only [hst]
     simp [SV.denL_eq]
    ·cases h
   ·cases h
  ·cases h
end
end Go.Sx
namespace Go.Sx
open Go.RowKit
section
variable {P : Program}
variable [Md]
def hasGoto : Code → Bool
 | .goto _ => true
 | .seq a b => hasGoto a || hasGoto b
 | .cond _ x y => hasGoto x || hasGoto y
 | .block _ c => hasGoto c
 | .loop c => hasGoto c
 | .scope c => hasGoto c
 | _ => false
def isMem : Op → Bool
 | .box .. => true
 | .alloc .. => true
 | .buildSlice .. => true
 | .store .. => true
 | .mapUpdate .. => true
 | .call c => match c.callee with | .builtin .append => true | _ => false
 | _ => false
def tailAt : List Oper → Nat
 | [] => 0
 | o :: l => match isMem o.op with | true => 0 | false => tailAt l + 1
def freshO (P : Program) (o : Oper) : Bool :=
 match o.op with
 | .call c => match c.callee with
  | .value _ => match P.underlying o.type with
   | some (.slice _) => true
   | some (.pointer _) => true
   | _ => false
  | _ => false
 | _ => false
def freshL (P : Program) : List Oper → Bool
 | [] => false
 | o :: l => freshO P o || freshL P l
def anyR (P : Program) (ops : Array Oper) (s : S) : Option S :=
 match P.follows .mixedOrders with
 | true => some { s with pc := .any ops ops.size [] }
 | false => none
def step1 (P : Program) (ntm u : Nat) (s : S) : Option S :=
 match s.pc with
 | .code .skip => some { s with pc := .exit .normal }
 | .code (.label _) => some { s with pc := .exit .normal }
 | .code (.seq a b) => some { s with pc := .code a, ks := .seq b :: s.ks }
 | .code (.block id c) => some { s with pc := .code c, ks := .block id :: s.ks }
 | .code (.scope c) => match hasGoto c with
  | false => some { s with pc := .code c, ks := .scope :: s.ks }
  | true => none
 | .code (.goto l) => some { s with pc := .exit (.goto l) }
 | .code (.exit id) => some { s with pc := .exit (.exit id) }
 | .code .ret => some { s with pc := .exit .ret }
 | .code (.loop c) => match u with
  | 0 => none
  | m + 1 => some { s with pc := .code c, ks := .rounds c m :: s.ks }
 | .code (.cond c x y) => match evalS s.fr c with
  | some (.v (.bool true)) => some { s with pc := .code x }
  | some (.v (.bool false)) => some { s with pc := .code y }
  | _ => none
 | .code (.region _ ops false) => some { s with pc := .ops ops ops.toList }
 | .code (.region _ ops true) => match freshL P ops.toList with
  | true => anyR P ops s
  | false => match Nat.beq (tailAt ops.toList) ops.size with
   | true => match P.follows .mixedOrders && Region.lexB .any ops with
    | true => some { s with pc := .qops ops ops.toList }
    | false => anyR P ops s
   | false => match P.follows .mixedOrders && Region.lexTailB .any ops (tailAt ops.toList) with
    | true => some { s with pc := .qops ops (ops.toList.take (tailAt ops.toList)), ks := .tail ops (ops.toList.drop (tailAt ops.toList)) :: s.ks }
    | false => anyR P ops s
 | .any all f dn => match Region.ready .any all (listedOf all.size dn) with
  | [] => some { s with pc := .exit .normal }
  | [j] => match f with
   | 0 => none
   | f + 1 => some { s with pc := .ops all ((all.toList.drop j).take 1), ks := .any all f (j :: dn) :: s.ks }
  | _ => none
 | .ops _ [] => some { s with pc := .exit .normal }
 | .ops all (o :: rest) => match guardS all s.fr o with
  | some false => (putS ntm s.fr o.dst (.v undef)).map fun fr => { s with pc := .ops all rest, fr }
  | some true => match pureOp P s.loc s.fr o.op with
   | some r => (putS ntm s.fr o.dst r).map fun fr => { s with pc := .ops all rest, fr }
   | none => match memOp P s.fr s.loc o.op with
    | some (r, loc) => (putS ntm s.fr o.dst (r.getD (.v undef))).map fun fr => { s with pc := .ops all rest, fr, loc }
    | none => none
  | none => none
 | .qops _ [] => some { s with pc := .exit .normal }
 | .qops all (o :: rest) => match guardS all s.fr o with
  | some false => (putS ntm s.fr o.dst (.v undef)).map fun fr => { s with pc := .qops all rest, fr }
  | some true => match pureOp P s.loc s.fr o.op with
   | some r => (putS ntm s.fr o.dst r).map fun fr => { s with pc := .qops all rest, fr }
   | none => none
  | none => none
 | .exit .normal => match s.ks with
  | .seq c :: ks => some { s with pc := .code c, ks }
  | .block _ :: ks => some { s with ks }
  | .scope :: ks => some { s with ks }
  | .jump _ :: ks => some { s with ks }
  | .tail all l :: ks => some { s with pc := .ops all l, ks }
  | .any all f dn :: ks => some { s with pc := .any all f dn, ks }
  | .rounds c (n + 1) :: ks => some { s with pc := .code c, ks := .rounds c n :: ks }
  | _ => none
 | .exit (.exit id) => match s.ks with
  | .seq _ :: ks => some { s with ks }
  | .next _ :: ks => some { s with ks }
  | .rounds _ _ :: ks => some { s with ks }
  | .scope :: ks => some { s with ks }
  | .jump _ :: ks => some { s with ks }
  | .block id' :: ks => match Nat.beq id id' with
   | true => some { s with pc := .exit .normal, ks }
   | false => some { s with ks }
  | .tail _ _ :: _ => none
  | .any _ _ _ :: _ => none
  | [] => none
 | .exit .ret => match s.ks with
  | .seq _ :: ks => some { s with ks }
  | .next _ :: ks => some { s with ks }
  | .rounds _ _ :: ks => some { s with ks }
  | .scope :: ks => some { s with ks }
  | .jump _ :: ks => some { s with ks }
  | .block _ :: ks => some { s with ks }
  | .tail _ _ :: _ => none
  | .any _ _ _ :: _ => none
  | [] => none
 | .exit (.goto _) => match s.ks with
  | .seq _ :: ks => some { s with ks }
  | .next _ :: ks => some { s with ks }
  | .rounds _ _ :: ks => some { s with ks }
  | .block _ :: ks => some { s with ks }
  | _ => none
 | _ => none
def Onto (P : Program) (Q : Exit → Act → World → Prop) (N : Nat) (w0 : World) (ntm : Nat) (ρ : List Nat) (w : World) (s : S) : Prop :=
 ∀ ρ' a' w', Grow w.heap.size ρ ρ' → Inv N w0 ntm ρ' s.fr s.loc a' w' → Keep ρ w w' → Ok P Q s.pc s.ks a' w'
theorem Onto.stay {Q : Exit → Act → World → Prop} {N : Nat} {w0 : World} {ntm : Nat} {ρ : List Nat} {w : World} {s : S} (h : Onto P Q N w0 ntm ρ w s) {a : Act} (hi : Inv N w0 ntm ρ s.fr s.loc a w) : Ok P Q s.pc s.ks a w :=
 h ρ a w (Grow.refl _ _) hi (Keep.refl _ _)
theorem quiet_put {ops : Array Oper} {C : World → Prop} {Q : Act → Prop} {a : Act} {o : Oper} {rest : List Oper} {v : Value} (hw : Region.wanted o (yielded ops a.tmps) = true)
  (hr : ∀ w, C w → (execOp a.eval o).run P w = .ok (.value v) w) (h : wpQuiet P ops C Q rest (a.put o.dst v)) : wpQuiet P ops C Q (o :: rest) a := by
 unfold wpQuiet
 rw [if_pos hw]
 exact ⟨v, fun w hC => by unfold Oper.quietAt; rw [hr w hC]; exact ⟨rfl, rfl⟩, h⟩
theorem wp_then {o : Oper} {a : Act} {w : World} {next K f : Act → World → Prop} {Q : Exit → Act → World → Prop} (hn : ∀ a w, next a w → K a w) (h : o.wp P a w next (Exit.then f Q)) : o.wp P a w K Q := by
 unfold Oper.wp at *
 generalize (execOp a.eval o).run P w = r at *
 cases r with
 | ok n w' =>
  cases n <;> simp only [Oper.upon] at h ⊢
  case value => exact hn _ _ h
  case skip => exact hn _ _ h
  case defer => exact hn _ _ h
  case row => exact h.mono fun _ _ hh => hn _ _ hh
  case enter =>
   refine h.mono fun e w'' hh => ?_
   cases e with
   | returned v => exact hn _ _ hh
   | panicked c => exact hh
   | outgrown => exact hh
 | halt x w' =>
  cases x <;> simp only [Oper.upon] at h ⊢
  exact h
theorem wpOp_of_list {all : Array Oper} {Q : Exit → Act → World → Prop} {K : Act → World → Prop} {j : Nat} {a : Act} {w : World} (h : wpList P all (Exit.then K Q) ((all.toList.drop j).take 1) a w) : wpOp P all Q j K a w := by
 unfold wpOp
 cases hj : all[j]? with
 | none =>
  have h0 : all.toList.drop j = [] := by
   rw [List.drop_eq_nil_iff]
   have := Array.getElem?_eq_none_iff.1 hj
   simpa using this
  rw [h0] at h
  exact h
 | some o =>
  have h0 : (all.toList.drop j).take 1 = [o] := by
   obtain ⟨hl, he⟩ := Array.getElem?_eq_some_iff.1 hj
   have hl' : j < all.toList.length := by simpa using hl
   rw [List.drop_eq_getElem_cons hl', List.take_succ_cons, List.take_zero]
   simp [he]
  rw [h0] at h
  unfold wpList at h
  simp only
  split
  ·rename_i hw
   rw [if_pos hw] at h
   rcases h with h | ⟨h1, a', w', h2⟩
   ·exact .inl (wp_then (fun _ _ hh => hh) h)
   ·exact .inr ⟨h1, a', w', h2⟩
  ·rename_i hw
   rw [if_neg hw] at h
   exact h
theorem anyR_sound {Q : Exit → Act → World → Prop} {N : Nat} {w0 : World} {ntm : Nat} {ρ : List Nat} {a : Act} {w : World} {s s' : S} {ops : Array Oper} {id : Nat} (hs : anyR P ops s = some s')
  (hi : Inv N w0 ntm ρ s.fr s.loc a w) (h : Onto P Q N w0 ntm ρ w s') : CW P (.region id ops true) (postK P s.ks Q) a w := by
 have hbel : Below w.heap.size w { w with drawn := w.drawn + 1 } := ⟨rfl, rfl, rfl, Nat.le_refl _, fun _ _ => rfl⟩
 unfold anyR at hs
 split at hs
 ·rename_i hm
  simp only [Option.some.injEq] at hs; subst hs
  exact CW_region_any hm (h ρ a { w with drawn := w.drawn + 1 } (Grow.refl _ _) ⟨hi.act, hi.mem.after hbel⟩ (Keep.of_below hbel))
 ·cases hs
theorem step1_sound {Q : Exit → Act → World → Prop} {N : Nat} {w0 : World} {ntm : Nat} {ρ : List Nat} {a : Act} {w : World} {s s' : S} {u : Nat} (hs : step1 P ntm u s = some s')
  (hi : Inv N w0 ntm ρ s.fr s.loc a w) (h : Onto P Q N w0 ntm ρ w s') : Ok P Q s.pc s.ks a w := by
 obtain ⟨pc, ks, fr, loc⟩ := s
 simp only at hi
 unfold step1 at hs
 simp only at hs
 split at hs
 ·simp only [Option.some.injEq] at hs; subst hs; exact CW_skip (h.stay hi)
 ·simp only [Option.some.injEq] at hs; subst hs; exact CW_label (h.stay hi)
 ·simp only [Option.some.injEq] at hs; subst hs; exact CW_seq (h.stay hi)
 ·simp only [Option.some.injEq] at hs; subst hs; exact CW_block (h.stay hi)
 ·split at hs
  ·simp only [Option.some.injEq] at hs; subst hs; exact CW_scope_straight (h.stay hi)
  ·cases hs
 ·simp only [Option.some.injEq] at hs; subst hs; exact CW_goto (h.stay hi)
 ·simp only [Option.some.injEq] at hs; subst hs; exact CW_exit (h.stay hi)
 ·simp only [Option.some.injEq] at hs; subst hs; exact CW_ret (h.stay hi)
 ·split at hs
  ·cases hs
  ·rename_i m
   simp only [Option.some.injEq] at hs; subst hs
   exact CW_loop_rounds (m + 1) (h.stay hi)
 ·split at hs
  ·rename_i hc
   simp only [Option.some.injEq] at hs; subst hs
   exact CW_cond_true (evalS_sound hi.act hc) (h.stay hi)
  ·rename_i hc
   simp only [Option.some.injEq] at hs; subst hs
   exact CW_cond_false (evalS_sound hi.act hc) (h.stay hi)
  ·cases hs
 ·simp only [Option.some.injEq] at hs; subst hs; exact CW_region_list (h.stay hi)
 ·have hbel : Below w.heap.size w { w with drawn := w.drawn + 1 } := ⟨rfl, rfl, rfl, Nat.le_refl _, fun _ _ => rfl⟩
  split at hs
  ·exact anyR_sound hs hi h
  split at hs
  ·split at hs
   ·rename_i hb
    simp only [Bool.and_eq_true] at hb
    simp only [Option.some.injEq] at hs; subst hs
    have hk := h ρ a { w with drawn := w.drawn + 1 } (Grow.refl _ _) ⟨hi.act, hi.mem.after hbel⟩ (Keep.of_below hbel)
    exact CW_region_quiet hb.1 hb.2 (Below.refl _ _) hk
   ·exact anyR_sound hs hi h
  ·split at hs
   ·rename_i hb
    simp only [Bool.and_eq_true] at hb
    simp only [Option.some.injEq] at hs; subst hs
    have hk := h ρ a { w with drawn := w.drawn + 1 } (Grow.refl _ _) ⟨hi.act, hi.mem.after hbel⟩ (Keep.of_below hbel)
    exact CW_region_quiet_tail _ hb.1 hb.2 (Below.refl _ _) hk
   ·exact anyR_sound hs hi h
 ·rename_i all f dn
  split at hs
  ·rename_i hr
   simp only [Option.some.injEq] at hs; subst hs
   have hk := h.stay hi
   show wpAny P .any all _ f _ a w
   cases f with
   | zero => exact ⟨hr, hk⟩
   | succ f => exact ⟨fun _ => hk, fun i hi' => by rw [hr] at hi'; cases hi'⟩
  ·rename_i j hr
   split at hs
   ·cases hs
   ·rename_i f
    simp only [Option.some.injEq] at hs; subst hs
    have hk := h.stay hi
    refine ⟨fun h0 => (by rw [hr] at h0; cases h0), fun i hi' => ?_⟩
    rw [hr] at hi'
    have : i = j := by simpa using hi'
    subst this
    exact wpOp_of_list hk
  ·cases hs
 ·rename_i all
  simp only [Option.some.injEq] at hs; subst hs
  show wpList P all _ [] a w
  exact wpList_nil (h.stay hi)
 ·rename_i all o rest
  split at hs
  ·rename_i hg
   obtain ⟨fr', hp, he⟩ := Option.map_eq_some_iff.1 hs
   subst he
   have hw := guardS_ok hi.act hg
   show wpList P all _ (o :: rest) a w
   unfold wpList
   rw [if_neg (by rw [hw]; simp)]
   exact h ρ _ w (Grow.refl _ _) ⟨putS_ok hi.act hp, hi.mem⟩ (Keep.refl _ _)
  ·rename_i hg
   have hw := guardS_ok hi.act hg
   split at hs
   ·rename_i r hr
    obtain ⟨fr', hp, he⟩ := Option.map_eq_some_iff.1 hs
    subst he
    show wpList P all _ (o :: rest) a w
    unfold wpList
    rw [if_pos hw]
    refine .inl ?_
    unfold Oper.wp
    rw [run_pureOp hi.act (fun _ => hi.mem) hr]
    exact h ρ _ w (Grow.refl _ _) ⟨putS_ok hi.act hp, hi.mem⟩ (Keep.refl _ _)
   ·split at hs
    ·rename_i r loc' hr
     obtain ⟨fr', hp, he⟩ := Option.map_eq_some_iff.1 hs
     subst he
     obtain ⟨ρ', w', h1, h3, h4, h5, h7⟩ := run_memOp hi.act hi.mem hr
     show wpList P all _ (o :: rest) a w
     unfold wpList
     rw [if_pos hw]
     refine .inl ?_
     unfold Oper.wp
     rw [h7]
     cases r with
     | some s0 => exact h ρ' _ w' h1 ⟨putS_ok h3 hp, h4⟩ h5
     | none => exact h ρ' _ w' h1 ⟨putS_ok h3 hp, h4⟩ h5
    ·cases hs
  ·cases hs
 ·simp only [Option.some.injEq] at hs; subst hs
  simp only [Ok, wpQuiet]
  intro w' hb
  exact h ρ a w' (Grow.refl _ _) ⟨hi.act, hi.mem.after hb⟩ (Keep.of_below hb)
 ·rename_i all o rest
  split at hs
  ·rename_i hg
   obtain ⟨fr', hp, he⟩ := Option.map_eq_some_iff.1 hs
   subst he
   have hw := guardS_ok hi.act hg
   show wpQuiet P all _ _ (o :: rest) a
   unfold wpQuiet
   rw [if_neg (by rw [hw]; simp)]
   exact h ρ _ w (Grow.refl _ _) ⟨putS_ok hi.act hp, hi.mem⟩ (Keep.refl _ _)
  ·rename_i hg
   have hw := guardS_ok hi.act hg
   split at hs
   ·rename_i r hr
    obtain ⟨fr', hp, he⟩ := Option.map_eq_some_iff.1 hs
    subst he
    refine quiet_put hw (fun w' hb => run_pureOp hi.act (fun _ => hi.mem.after hb) hr) ?_
    exact h ρ _ w (Grow.refl _ _) ⟨putS_ok hi.act hp, hi.mem⟩ (Keep.refl _ _)
   ·cases hs
  ·cases hs
 ·split at hs <;> simp only [Option.some.injEq, reduceCtorEq] at hs <;> subst hs <;> exact h.stay hi
 ·split at hs
  ·simp only [Option.some.injEq] at hs; subst hs; exact h.stay hi
  ·simp only [Option.some.injEq] at hs; subst hs; exact h.stay hi
  ·simp only [Option.some.injEq] at hs; subst hs; exact h.stay hi
  ·simp only [Option.some.injEq] at hs; subst hs; exact h.stay hi
  ·simp only [Option.some.injEq] at hs; subst hs; exact h.stay hi
  ·split at hs
   ·rename_i hb
    simp only [Option.some.injEq] at hs; subst hs
    have := Nat.eq_of_beq_eq_true hb
    subst this
    simp only [Ok, postK, Exit.inBlock, if_true]
    exact h.stay hi
   ·rename_i hb
    simp only [Option.some.injEq] at hs; subst hs
    simp only [Ok, postK, Exit.inBlock]
    rw [if_neg (fun e => by subst e; simp at hb)]
    exact h.stay hi
  ·cases hs
  ·cases hs
  ·cases hs
 ·split at hs <;> simp only [Option.some.injEq, reduceCtorEq] at hs <;> subst hs <;> exact h.stay hi
 ·split at hs <;> simp only [Option.some.injEq, reduceCtorEq] at hs <;> subst hs <;> exact h.stay hi
 ·cases hs
def srun (P : Program) (ntm u : Nat) : Nat → S → S
 | 0, s => s
 | n + 1, s => match step1 P ntm u s with
  | some s' => srun P ntm u n s'
  | none => s
theorem srun_sound {Q : Exit → Act → World → Prop} {N : Nat} {w0 : World} {ntm u : Nat} : ∀ (n : Nat) {s : S} {ρ : List Nat} {a : Act} {w : World},
  Inv N w0 ntm ρ s.fr s.loc a w → Onto P Q N w0 ntm ρ w (srun P ntm u n s) → Ok P Q s.pc s.ks a w
 | 0, s, ρ, a, w, hi, h => h.stay hi
 | n + 1, s, ρ, a, w, hi, h => by
  simp only [srun] at h
  split at h
  ·rename_i s' hs
   exact step1_sound hs hi fun ρ' a' w' h1 h4 h5 => srun_sound n h4 fun ρ'' a'' w'' k1 k4 k5 => h ρ'' a'' w'' (h1.trans k1 h5.size) k4 (h5.trans k5 fun x hx => h1.of_mem hx)
  ·exact h.stay hi
end
end Go.Sx
namespace Go.Sx
open Go.RowKit
section
variable {P : Program}
variable [Md]
def Stable (F : List Nat → World → Prop) : Prop := ∀ ρ w ρ' w', Grow w.heap.size ρ ρ' → Keep ρ w w' → F ρ w → F ρ' w'
def noF : List Nat → World → Prop := fun _ _ => True
theorem noF_stable : Stable noF := fun _ _ _ _ _ _ _ => trivial
def At (P : Program) (Q : Exit → Act → World → Prop) (N : Nat) (w0 : World) (ntm : Nat) (F : List Nat → World → Prop) (s : S) : Prop :=
 ∀ ρ a w, Inv N w0 ntm ρ s.fr s.loc a w → F ρ w → Ok P Q s.pc s.ks a w
variable {Q : Exit → Act → World → Prop} {N : Nat} {w0 : World} {ntm : Nat} {F : List Nat → World → Prop}
theorem At.run (hF : Stable F) (u n : Nat) {s : S} (h : At P Q N w0 ntm F (srun P ntm u n s)) : At P Q N w0 ntm F s :=
 fun _ _ _ hi hf => srun_sound n hi fun ρ' a' w' hg hi' hk => h ρ' a' w' hi' (hF _ _ _ _ hg hk hf)
def S.res (s : S) (t : Nat) (d : Bool) : S := { s with fr := (t, .v (.bool d)) :: s.fr }
theorem look_res {fr : Fr} {t : Nat} {b d : Bool} (hl : look fr t = some (.bo b)) (hb : b = d) {ρ : List Nat} {ntm : Nat} {a : Act} (h : AInv ntm ρ fr a) : AInv ntm ρ ((t, .v (.bool d)) :: fr) a := by
 refine ⟨h.defers, h.size, fun t' s' hs => ?_⟩
 simp only [look] at hs
 split at hs
 ·rename_i hk
  have hk := Nat.eq_of_beq_eq_true hk
  subst hk
  simp only [Option.some.injEq] at hs
  subst hs
  rw [h.slot _ _ hl, ← hb]
  rfl
 ·exact h.slot t' s' hs
theorem At.res {s : S} (t : Nat) (b d : Bool) (hl : look s.fr t = some (.bo b)) (hb : b = d) (h : At P Q N w0 ntm F (s.res t d)) : At P Q N w0 ntm F s :=
 fun ρ a w hi hf => h ρ a w ⟨look_res hl hb hi.act, hi.mem⟩ hf
/-! ### an operation that wants help -/
def S.head? (s : S) : Option Oper :=
 match s.pc with
 | .ops all (o :: _) => match guardS all s.fr o with | some true => some o | _ => none
 | .qops all (o :: _) => match guardS all s.fr o with | some true => some o | _ => none
 | _ => none
def S.tail (ntm : Nat) (s : S) (r : SV) : S :=
 match s.pc with
 | .ops all (o :: rest) => match putS ntm s.fr o.dst r with | some fr => { s with pc := .ops all rest, fr } | none => s
 | .qops all (o :: rest) => match putS ntm s.fr o.dst r with | some fr => { s with pc := .qops all rest, fr } | none => s
 | _ => s
def S.dstOk (ntm : Nat) (s : S) : Bool :=
 match s.pc with
 | .ops _ (o :: _) => match o.dst with | some d => Nat.blt d ntm | none => true
 | .qops _ (o :: _) => match o.dst with | some d => Nat.blt d ntm | none => true
 | _ => false
theorem putS_some {fr : Fr} {d : Option Nat} (h : (match d with | some d => Nat.blt d ntm | none => true) = true) (r : SV) : ∃ fr', putS ntm fr d r = some fr' := by
 cases d with
 | none => exact ⟨fr, rfl⟩
 | some d =>
  have h' : Nat.blt d ntm = true := h
  simp only [putS, h']
  exact ⟨_, rfl⟩
theorem At.op (hF : Stable F) {s : S} (o : Oper) (r : SV) (ho : s.head? = some o) (hd : s.dstOk ntm = true)
  (hr : ∀ ρ a w, Inv N w0 ntm ρ s.fr s.loc a w → F ρ w → (execOp a.eval o).run P w = .ok (.value (r.den ρ)) w) (h : At P Q N w0 ntm F (s.tail ntm r)) : At P Q N w0 ntm F s := by
 intro ρ a w hi hf
 obtain ⟨pc, ks, fr, loc⟩ := s
 cases pc with
 | ops all rest =>
  cases rest with
  | nil => simp [S.head?] at ho
  | cons o' rest =>
   simp only [S.head?] at ho
   split at ho
   ·rename_i hg
    simp only [Option.some.injEq] at ho
    subst ho
    obtain ⟨fr', hp⟩ := putS_some (fr := fr) (ntm := ntm) hd r
    have hk := h ρ (a.put o'.dst (r.den ρ)) w (by simp only [S.tail, hp]; exact ⟨putS_ok hi.act hp, hi.mem⟩) hf
    simp only [S.tail, hp] at hk
    show wpList P all _ (o' :: rest) a w
    unfold wpList
    rw [if_pos (guardS_ok hi.act hg)]
    refine .inl ?_
    unfold Oper.wp
    rw [hr ρ a w hi hf]
    exact hk
   ·cases ho
 | qops all rest =>
  cases rest with
  | nil => simp [S.head?] at ho
  | cons o' rest =>
   simp only [S.head?] at ho
   split at ho
   ·rename_i hg
    simp only [Option.some.injEq] at ho
    subst ho
    obtain ⟨fr', hp⟩ := putS_some (fr := fr) (ntm := ntm) hd r
    have hk := h ρ (a.put o'.dst (r.den ρ)) w (by simp only [S.tail, hp]; exact ⟨putS_ok hi.act hp, hi.mem⟩) hf
    simp only [S.tail, hp] at hk
    exact quiet_put (guardS_ok hi.act hg) (fun w' hb => hr ρ a w' ⟨hi.act, hi.mem.after hb⟩ (hF _ _ _ _ (Grow.refl _ _) (Keep.of_below hb) hf)) hk
   ·cases ho
 | code c => simp [S.head?] at ho
 | any _ _ _ => simp [S.head?] at ho
 | exit e => simp [S.head?] at ho
/-! ### a call -/
def callS (fr : Fr) (o : Oper) : Option (FuncId × List SV) :=
 match o.op with
 | .call { callee := .value f, args, .. } => match evalS fr f, evalL fr args.toList with
  | some (.fn (.func g) caps), some vs => some (g, vs ++ caps)
  | _, _ => none
 | _ => none
def S.call? (s : S) : Option (FuncId × List SV) :=
 match s.head? with
 | some o => callS s.fr o
 | none => none
def bodied (P : Program) (g : FuncId) : Bool :=
 match P.funcs[g]? with
 | some fn => !(fn.name == "runtime.NumGoroutine") && fn.body.isSome
 | none => false
theorem run_callS {ρ : List Nat} {fr : Fr} {a : Act} (ha : AInv ntm ρ fr a) {o : Oper} {g : FuncId} {vs : List SV} (h : callS fr o = some (g, vs)) (hb : bodied P g = true) (w : World) :
  (execOp a.eval o).run P w = .ok (.enter g (SV.denL ρ vs).toArray) w := by
 obtain ⟨dst, op, ty, pos, after, guard⟩ := o
 unfold callS at h
 simp only at h
 split at h
 ·rename_i f args _
  split at h
  ·rename_i g' caps vs' hf hv
   simp only [Option.some.injEq, Prod.mk.injEq] at h
   obtain ⟨rfl, rfl⟩ := h
   have e2 := evalL_sound ha hv
   have e3 : args.map a.eval = (SV.denL ρ vs').toArray := Array.ext' (by rw [← e2]; simp)
   unfold bodied at hb
   split at hb
   ·rename_i fn hfn
    simp only [Bool.and_eq_true, Bool.not_eq_true'] at hb
    have hbody : fn.body.isNone = false := by cases hq : fn.body <;> simp_all
    have hcf : ∀ xs, (callFunc g' xs).run P w = .ok (.enter g' xs) w := by
     intro xs
     unfold callFunc
     simp only [Sem.run_bind, run_program, Result.andThen_ok, hfn, hb.1, hbody, Bool.false_eq_true, if_false, Sem.run_pure]
    simp only [execOp, resolve, Deferred.ofValue, evalS_sound ha hf, SV.den, invoke, Sem.run_bind, Sem.run_pure, Result.andThen_ok, hcf, e3]
    simp [SV.denL_eq]
   ·cases hb
  ·cases h
 ·cases h
theorem At.callx (hF : Stable F) {X : Type} {s : S} (g : FuncId) (vs : List SV) (r : X → SV) (G : X → List Nat → World → Prop) (hG : ∀ x, Stable (G x)) (hc : s.call? = some (g, vs)) (hb : bodied P g = true) (hd : s.dstOk ntm = true) (hq : (match s.pc with | .ops .. => true | _ => false) = true)
  (hr : ∀ ρ a w, Inv N w0 ntm ρ s.fr s.loc a w → F ρ w → Calls P g (SV.denL ρ vs).toArray w fun e w' => ∃ x, e = .returned ((r x).den ρ) ∧ Below w.heap.size w w' ∧ G x ρ w')
  (h : ∀ x, At P Q N w0 ntm (fun ρ w => F ρ w ∧ G x ρ w) (s.tail ntm (r x))) : At P Q N w0 ntm F s := by
 intro ρ a w hi hf
 have _ := hG
 obtain ⟨pc, ks, fr, loc⟩ := s
 unfold S.call? at hc
 split at hc
 ·rename_i o ho
  cases pc with
  | ops all rest =>
   cases rest with
   | nil => simp [S.head?] at ho
   | cons o' rest =>
    simp only [S.head?] at ho
    split at ho
    ·rename_i hg
     simp only [Option.some.injEq] at ho
     subst ho
     show wpList P all _ (o' :: rest) a w
     unfold wpList
     rw [if_pos (guardS_ok hi.act hg)]
     refine .inl ?_
     unfold Oper.wp
     rw [run_callS hi.act hc hb]
     refine (hr ρ a w hi hf).mono ?_
     rintro e w' ⟨x, rfl, hbel, hGx⟩
     obtain ⟨fr', hp⟩ := putS_some (fr := fr) (ntm := ntm) hd (r x)
     have hk := h x ρ (a.put o'.dst ((r x).den ρ)) w' (by simp only [S.tail, hp]; exact ⟨putS_ok hi.act hp, hi.mem.after hbel⟩) ⟨hF _ _ _ _ (Grow.refl _ _) (Keep.of_below hbel) hf, hGx⟩
     simp only [S.tail, hp] at hk
     exact hk
    ·cases ho
  | qops all rest => simp at hq
  | code c => simp [S.head?] at ho
  | any _ _ _ => simp [S.head?] at ho
  | exit e => simp [S.head?] at ho
 ·cases hc
theorem At.call (hF : Stable F) {s : S} (g : FuncId) (vs : List SV) (r : SV) (hc : s.call? = some (g, vs)) (hb : bodied P g = true) (hd : s.dstOk ntm = true)
  (hr : ∀ ρ a w, Inv N w0 ntm ρ s.fr s.loc a w → F ρ w → Calls P g (SV.denL ρ vs).toArray w fun e w' => e = .returned (r.den ρ) ∧ Below w.heap.size w w')
  (h : At P Q N w0 ntm F (s.tail ntm r)) : At P Q N w0 ntm F s := by
 intro ρ a w hi hf
 obtain ⟨pc, ks, fr, loc⟩ := s
 unfold S.call? at hc
 split at hc
 ·rename_i o ho
  cases pc with
  | ops all rest =>
   cases rest with
   | nil => simp [S.head?] at ho
   | cons o' rest =>
    simp only [S.head?] at ho
    split at ho
    ·rename_i hg
     simp only [Option.some.injEq] at ho
     subst ho
     obtain ⟨fr', hp⟩ := putS_some (fr := fr) (ntm := ntm) hd r
     show wpList P all _ (o' :: rest) a w
     unfold wpList
     rw [if_pos (guardS_ok hi.act hg)]
     refine .inl ?_
     unfold Oper.wp
     rw [run_callS hi.act hc hb]
     refine (hr ρ a w hi hf).mono ?_
     rintro e w' ⟨rfl, hbel⟩
     have hk := h ρ (a.put o'.dst (r.den ρ)) w' (by simp only [S.tail, hp]; exact ⟨putS_ok hi.act hp, hi.mem.after hbel⟩) (hF _ _ _ _ (Grow.refl _ _) (Keep.of_below hbel) hf)
     simp only [S.tail, hp] at hk
     exact hk
    ·cases ho
  | qops all rest =>
   cases rest with
   | nil => simp [S.head?] at ho
   | cons o' rest =>
    simp only [S.head?] at ho
    split at ho
    ·rename_i hg
     simp only [Option.some.injEq] at ho
     subst ho
     obtain ⟨fr', hp⟩ := putS_some (fr := fr) (ntm := ntm) hd r
     have hk := h ρ (a.put o'.dst (r.den ρ)) w (by simp only [S.tail, hp]; exact ⟨putS_ok hi.act hp, hi.mem⟩) hf
     simp only [S.tail, hp] at hk
     show wpQuiet P all _ _ (o' :: rest) a
     unfold wpQuiet
     rw [if_pos (guardS_ok hi.act hg)]
     refine ⟨r.den ρ, fun w' hb' => ?_, hk⟩
     unfold Oper.quietAt
     rw [run_callS hi.act hc hb]
     refine ⟨rfl, (hr ρ a w' ⟨hi.act, hi.mem.after hb'⟩ (hF _ _ _ _ (Grow.refl _ _) (Keep.of_below hb') hf)).mono ?_⟩
     rintro e w'' ⟨rfl, hbel⟩
     exact ⟨rfl, hb'.trans (hbel.mono hb'.size)⟩
    ·cases ho
  | code c => simp [S.head?] at ho
  | any _ _ _ => simp [S.head?] at ho
  | exit e => simp [S.head?] at ho
 ·cases hc
/-! ### the end -/
def resOne (P : Program) (s : S) : ResultVar → Option SV
 | .tmp t => look s.fr t
 | .cell t ty => match look s.fr t with
  | some (.lp i off) => loadS P s.loc ty i off
  | _ => none
def resL (P : Program) (s : S) : List ResultVar → Option (List SV)
 | [] => some []
 | r :: l => match resOne P s r, resL P s l with
  | some x, some y => some (x :: y)
  | _, _ => none
def resS (P : Program) (fn : Func) (s : S) : Option SV :=
 match resL P s fn.results.toList with
 | some [x] => some x
 | some l => some (.tup l)
 | none => none
theorem run_resL {ρ : List Nat} {s : S} {a : Act} {w : World} (hi : Inv N w0 ntm ρ s.fr s.loc a w) : ∀ {l : List ResultVar} {r : List SV}, resL P s l = some r →
  (l.mapM (m := Sem) fun | .tmp t => pure (a.tmps.getD t undef) | .cell x t => do loadVar t (← asAddr (a.tmps.getD x undef))).run P w = .ok (SV.denL ρ r) w
 | [], r, h => by simp only [resL, Option.some.injEq] at h; subst h; simp [SV.denL]
 | v :: l, r, h => by
  simp only [resL] at h
  split at h
  ·rename_i x y hx hy
   simp only [Option.some.injEq] at h
   subst h
   have ih := run_resL hi hy
   cases v with
   | tmp t =>
    simp only [resOne] at hx
    simp only [List.mapM_cons, Sem.run_bind, Sem.run_pure, Result.andThen_ok, ih, SV.denL, getD_of (hi.act.slot t x hx)]
   | cell c t =>
    simp only [resOne] at hx
    split at hx
    ·rename_i i off hl
     have h1 := getD_of (hi.act.slot c _ hl)
     have h2 : (asAddr (a.tmps.getD c undef)).run P w = .ok ⟨nth ρ i, off, none⟩ w := by rw [h1]; rfl
     simp only [List.mapM_cons, Sem.run_bind, Sem.run_pure, Result.andThen_ok, ih, SV.denL, h2, run_loadS hi.mem hx]
    ·cases hx
  ·cases h
theorem run_resS {ρ : List Nat} {s : S} {fn : Func} {a : Act} {w : World} (hi : Inv N w0 ntm ρ s.fr s.loc a w) {r : SV} (h : resS P fn s = some r) : (results fn a.tmps).run P w = .ok (r.den ρ) w := by
 unfold resS at h
 have key : ∀ l, resL P s fn.results.toList = some l → (results fn a.tmps).run P w = .ok (if hh : (SV.denL ρ l).toArray.size = 1 then (SV.denL ρ l).toArray[0] else .tuple (SV.denL ρ l).toArray) w := by
  intro l hl
  have := run_resL (P := P) hi hl
  unfold results
  rw [Array.mapM_eq_mapM_toList]
  simp only [Sem.run_bind, Sem.run_map, Sem.run_pure]
  exact congrArg (fun q : Result (List Value) => (q.andThen fun a w' => Result.ok a.toArray w').andThen fun a w' => Result.ok (if h : a.size = 1 then a[0] else Value.tuple a) w') this
 split at h
 ·rename_i x hx
  simp only [Option.some.injEq] at h
  subst h
  rw [key _ hx]
  simp [SV.denL]
 ·rename_i l hne hl
  simp only [Option.some.injEq] at h
  subst h
  rw [key _ hl, dif_neg]
  ·rfl
  ·intro hsz
   match l, hsz with
   | [x], _ => exact hne x rfl
   | [], hsz => simp [SV.denL] at hsz
   | _ :: _ :: _, hsz => simp [SV.denL] at hsz
 ·cases h
end
section
variable {P : Program} {Q : Exit → Act → World → Prop} {N : Nat} {w0 : World} {ntm : Nat} {F : List Nat → World → Prop}
def S.done (s : S) : Bool :=
 match s.pc, s.ks with
 | .exit .ret, [] => true
 | .exit .normal, [] => true
 | _, _ => false
theorem At.ret {fn : Func} {R : Ending → World → Prop} {s : S} (hd : s.done = true) (r : SV) (hr : resS P fn s = some r)
  (h : ∀ ρ w, WInv N w0 ρ s.loc w → F ρ w → R (.returned (r.den ρ)) w) : At P (bodyPost P fn R) N w0 ntm F s := by
 intro ρ a w hi hf
 have h1 := run_resS hi hr
 have h2 := h ρ w hi.mem hf
 obtain ⟨pc, ks, fr, loc⟩ := s
 unfold S.done at hd
 split at hd
 ·rename_i e1 e2
  simp only at e1 e2
  subst e1; subst e2
  exact ⟨hi.act.defers, _, h1, h2⟩
 ·rename_i e1 e2
  simp only at e1 e2
  subst e1; subst e2
  exact ⟨hi.act.defers, _, h1, h2⟩
 ·cases hd
/-! ### the beginning -/
def frOf : Nat → List SV → Fr
 | _, [] => []
 | k, s :: l => (k, s) :: frOf (k + 1) l
theorem look_frOf {ρ : List Nat} {rest : List Value} : ∀ {l : List SV} {k t : Nat} {s : SV} {pre : List Value}, pre.length = k → look (frOf k l) t = some s → (pre ++ SV.denL ρ l ++ rest)[t]? = some (s.den ρ)
 | [], k, t, s, pre, _, h => by simp [frOf, look] at h
 | x :: l, k, t, s, pre, hk, h => by
  simp only [frOf, look] at h
  split at h
  ·rename_i hb
   have hb := Nat.eq_of_beq_eq_true hb
   subst hb
   simp only [Option.some.injEq] at h
   subst h
   simp [SV.denL, ← hk]
  ·have := look_frOf (rest := rest) (ρ := ρ) (pre := pre ++ [x.den ρ]) (by simp [hk]) h
   simpa [SV.denL] using this
theorem enter {f : FuncId} {fn : Func} {c : Code} {R : Ending → World → Prop} (sargs : List SV) (hf : P.funcs[f]? = some fn) (hb : fn.body = some c) (hle : Nat.ble sargs.length fn.ntmps = true)
  (h : At P (bodyPost P fn R) w0.heap.size w0 fn.ntmps noF ⟨.code c, [], frOf 0 sargs, []⟩) : Calls P f (SV.denL [] sargs).toArray w0 R := by
 refine calls_of_wp hf hb (h [] _ w0 ⟨⟨rfl, ?_, ?_⟩, ?_⟩ trivial)
 ·have := Nat.le_of_ble_eq_true hle
  simp [SV.denL_eq]; omega
 ·intro t s hs
  have := look_frOf (ρ := []) (pre := []) (rest := List.replicate (fn.ntmps - sargs.length) undef) rfl hs
  rw [← Array.getElem?_toList]
  simpa [SV.denL_eq] using this
 ·exact ⟨Below.refl _ _, Nat.le_refl _, rfl, List.nodup_nil, by simp, by simp⟩
end
section
variable {P : Program} {Q : Exit → Act → World → Prop} {N : Nat} {w0 : World} {ntm : Nat} {F : List Nat → World → Prop}
variable [Md]
/-! ### a loop -/
theorem wp_loop_x {σ : Type} {c : Code} (I : σ → Act → World → Prop) (μ : σ → Nat)
    (round : ∀ x a w, I x a w → c.wp P (Exit.then (fun a' w' => ∃ x', I x' a' w' ∧ μ x' < μ x) Q) a w) {x : σ} {a : Act} {w : World} (h : I x a w) : (Code.loop c).wp P Q a w := by
  have hm : ∀ a w, (∃ x, I x a w) → ∃ x, I x a w ∧ ∀ y, I y a w → μ x ≤ μ y := by
    intro a w hx
    have key : ∀ n, ∀ y, I y a w → μ y = n → ∃ x, I x a w ∧ ∀ y, I y a w → μ x ≤ μ y := by
      intro n
      induction n using Nat.strongRecOn with
      | _ n ih =>
        intro y hy hn
        by_cases hmin : ∀ z, I z a w → μ y ≤ μ z
        · exact ⟨y, hy, hmin⟩
        · obtain ⟨z, hz⟩ := Classical.not_forall.1 hmin
          obtain ⟨hz1, hz2⟩ := Classical.not_imp.1 hz
          exact ih (μ z) (by omega) z hz1 rfl
    obtain ⟨y, hy⟩ := hx
    exact key _ y hy rfl
  let ν : Act → World → Nat := fun a w => @dite _ (∃ x, I x a w) (Classical.propDecidable _) (fun hx => μ (Classical.choose (hm a w hx))) (fun _ => 0)
  refine wp_loop (fun a w => ∃ x, I x a w) ν ⟨x, h⟩ fun a w hx => ?_
  obtain ⟨h1, _⟩ := Classical.choose_spec (hm a w hx)
  refine Code.wp_mono ?_ (round _ a w h1)
  intro e a' w' hq
  cases e <;> first
    | exact hq
    | (obtain ⟨x', hx', hlt⟩ := hq
       refine ⟨⟨x', hx'⟩, ?_⟩
       have hx2 : ∃ x, I x a' w' := ⟨x', hx'⟩
       have h2 := (Classical.choose_spec (hm a' w' hx2)).2 x' hx'
       simp only [ν, dif_pos hx, dif_pos hx2]
       omega)
def Next (N : Nat) (w0 : World) (ntm : Nat) {σ : Type} (fr : σ → Fr) (loc : σ → Loc) (G : σ → List Nat → World → Prop) (μ : σ → Nat) (x : σ) (a : Act) (w : World) : Prop :=
 ∃ x', (∃ ρ, Inv N w0 ntm ρ (fr x') (loc x') a w ∧ G x' ρ w) ∧ μ x' < μ x
def subFr (small big : Fr) : Prop := small.map (fun p => look big p.1) = small.map (fun p => some p.2)
theorem look_sub : ∀ {small big : Fr}, subFr small big → ∀ t s, look small t = some s → look big t = some s
 | [], _, _, t, s, h => by simp [look] at h
 | (k, x) :: l, big, hs, t, s, h => by
  simp only [subFr, List.map_cons, List.cons.injEq] at hs
  simp only [look] at h
  split at h
  ·rename_i hb
   have hb := Nat.eq_of_beq_eq_true hb
   subst hb
   rw [← h]; exact hs.1
  ·exact look_sub hs.2 t s h
theorem AInv.sub {ρ : List Nat} {small big : Fr} {a : Act} (h : AInv ntm ρ big a) (hs : subFr small big) : AInv ntm ρ small a :=
 ⟨h.defers, h.size, fun t s hl => h.slot t s (look_sub hs t s hl)⟩
theorem At.loop {σ : Type} {s : S} (c : Code) (fr : σ → Fr) (loc : σ → Loc) (G : σ → List Nat → World → Prop) (μ : σ → Nat) (x0 : σ) (hc : s.pc = .code (.loop c)) (hsub : subFr (fr x0) s.fr) (hloc : s.loc = loc x0)
  (hG : ∀ ρ a w, Inv N w0 ntm ρ s.fr s.loc a w → F ρ w → G x0 ρ w)
  (h : ∀ x, At P Q N w0 ntm (G x) ⟨.code c, .next (Next N w0 ntm fr loc G μ x) :: s.ks, fr x, loc x⟩) : At P Q N w0 ntm F s := by
 intro ρ a w hi hf
 rw [hc]
 refine CW_fn rfl fun hm => ?_
 refine wp_loop_x (fun x a w => ∃ ρ, Inv N w0 ntm ρ (fr x) (loc x) a w ∧ G x ρ w) μ (x := x0) ?_ ⟨ρ, ⟨hi.act.sub hsub, hloc ▸ hi.mem⟩, hG ρ a w hi hf⟩
 rintro x a w ⟨ρ, hi, hg⟩
 exact (CW_none hm).1 (h x ρ a w hi hg)
theorem At.next {σ : Type} {s : S} {fr : σ → Fr} {loc : σ → Loc} {G : σ → List Nat → World → Prop} {μ : σ → Nat} {x : σ} (x' : σ) {ks : List K} (hp : s.pc = .exit .normal) (hk : s.ks = .next (Next N w0 ntm fr loc G μ x) :: ks)
  (hsub : subFr (fr x') s.fr) (hloc : s.loc = loc x') (hG : ∀ ρ a w, Inv N w0 ntm ρ s.fr s.loc a w → F ρ w → G x' ρ w) (hμ : μ x' < μ x) : At P Q N w0 ntm F s := by
 intro ρ a w hi hf
 rw [hp, hk]
 exact ⟨x', ⟨ρ, ⟨hi.act.sub hsub, hloc ▸ hi.mem⟩, hG ρ a w hi hf⟩, hμ⟩
end
end Go.Sx
namespace Go.Sx
open Go.RowKit
def sub : Code → List Nat → Code
 | c, [] => c
 | .seq a b, n :: p => match n with | 0 => sub a p | _ => sub b p
 | .cond _ x y, n :: p => match n with | 2 => sub x p | _ => sub y p
 | .block _ c, _ :: p => sub c p
 | .loop c, _ :: p => sub c p
 | .scope c, _ :: p => sub c p
 | _, _ => .skip
def opsOf : Code → Array Oper
 | .region _ ops _ => ops
 | _ => #[]
def pops (c : Code) (p : List Nat) (k : Nat) : PC := .ops (opsOf (sub c p)) ((opsOf (sub c p)).toList.drop k)
def pqops (c : Code) (p : List Nat) (k : Nat) : PC := .qops (opsOf (sub c p)) ((opsOf (sub c p)).toList.drop k)
section
variable {P : Program} {Q : Exit → Act → World → Prop} {N : Nat} {w0 : World} {ntm : Nat} {F : List Nat → World → Prop}
variable [Md]
def keepFr (fr : Fr) : List Nat → Fr
 | [] => []
 | t :: l => match look fr t with
  | some s => (t, s) :: keepFr fr l
  | none => keepFr fr l
def S.keep (s : S) (ts : List Nat) (k : Nat) : S := { s with fr := keepFr s.fr ts, loc := s.loc.take k }
theorem look_keepFr {fr : Fr} : ∀ {ts : List Nat} {t : Nat} {s : SV}, look (keepFr fr ts) t = some s → look fr t = some s
 | [], t, s, h => by simp [keepFr, look] at h
 | t' :: l, t, s, h => by
  simp only [keepFr] at h
  split at h
  ·rename_i s' hs
   simp only [look] at h
   split at h
   ·rename_i hb
    have := Nat.eq_of_beq_eq_true hb
    subst this
    rw [hs, h]
   ·exact look_keepFr h
  ·exact look_keepFr h
mutual
theorem SV.den_take (ρ : List Nat) (k : Nat) : ∀ s : SV, s.inBlk k = true → s.den (ρ.take k) = s.den ρ
 | .v _, _ => rfl
 | .bo _, _ => rfl
 | .io _ _, _ => rfl
 | .so _, _ => rfl
 | .sl _ _ _, _ => rfl
 | .lp i off, h => by
  have h' : i < k := by simpa [SV.inBlk] using h
  simp [SV.den, nth, List.getD, h']
 | .ls i off _ _, h => by
  have h' : i < k := by simpa [SV.inBlk] using h
  simp [SV.den, nth, List.getD, h']
 | .agg l, h => by simp only [SV.den, SV.denL_take ρ k l (by simpa [SV.inBlk] using h)]
 | .tup l, h => by simp only [SV.den, SV.denL_take ρ k l (by simpa [SV.inBlk] using h)]
 | .fn f cs, h => by simp only [SV.den, SV.denL_take ρ k cs (by simpa [SV.inBlk] using h)]
theorem SV.denL_take (ρ : List Nat) (k : Nat) : ∀ l : List SV, SV.scopedL k l = true → SV.denL (ρ.take k) l = SV.denL ρ l
 | [], _ => rfl
 | s :: l, h => by
  simp only [SV.scopedL, Bool.and_eq_true] at h
  simp only [SV.denL, SV.den_take ρ k s h.1, SV.denL_take ρ k l h.2]
end
def Fewer (F : List Nat → World → Prop) : Prop := ∀ ρ w k, F ρ w → F (ρ.take k) w
theorem noF_fewer : Fewer noF := fun _ _ _ _ => trivial
theorem Inv.keep {ρ : List Nat} {s : S} {a : Act} {w : World} (h : Inv N w0 ntm ρ s.fr s.loc a w) (ts : List Nat) (k : Nat) (h1 : scopedFr k (s.keep ts k).fr = true) (h2 : scopedLoc k (s.keep ts k).loc = true) :
  Inv N w0 ntm (ρ.take k) (s.keep ts k).fr (s.keep ts k).loc a w := by
 refine ⟨⟨h.act.defers, h.act.size, fun t x hl => ?_⟩, ⟨h.mem.below, h.mem.hN, by simp [S.keep, h.mem.len], h.mem.nodup.sublist (List.take_sublist _ _), fun b hb => h.mem.ge b (List.mem_of_mem_take hb), fun i c t hi => ?_⟩⟩
 ·rw [SV.den_take ρ k x (scopedFr_look h1 hl)]
  exact h.act.slot t x (look_keepFr hl)
 ·have hs := scopedLoc_get h2 hi
  have hik : i < k := by
   have := (List.getElem?_eq_some_iff.1 hi).1
   simp [S.keep] at this
   omega
  have hi' : s.loc[i]? = some (c, t) := by
   simpa [S.keep, List.getElem?_take, hik] using hi
  rw [SV.denL_take ρ k c hs]
  have hn : nth (ρ.take k) i = nth ρ i := by simp [nth, List.getD, hik]
  rw [hn]
  exact h.mem.cells i c t hi'
theorem At.to (hF : Stable F) (hF' : Fewer F) (u n : Nat) (ts : List Nat) (k : Nat) {s : S} (s' : S) (hs : (srun P ntm u n s).keep ts k = s') (hsc : (scopedFr k s'.fr && scopedLoc k s'.loc) = true) (h : At P Q N w0 ntm F s') : At P Q N w0 ntm F s := by
 refine At.run hF u n ?_
 intro ρ a w hi hf
 simp only [Bool.and_eq_true] at hsc
 subst hs
 exact h _ a w (hi.keep ts k hsc.1 hsc.2) (hF' _ _ _ hf)
end
end Go.Sx
end
