import Derived.WalkKit
import Derived.Deep.Quiet
import Derived.Laws.CopyRow
import Derived.KernelRfl
set_option linter.unusedSimpArgs false
set_option linter.unusedVariables false
namespace Go.Sx
open Go.RowKit

/-- A symbolic value. 'v': a value whose constructor is written out and known; 'bo', 'io', 'so': a bool, an integer, a string that are open; 'sl': a slice that came in; 'lp', 'ls': a pointer to, a slice of, the local block number i. -/
inductive SV where
  | v (x : Value)
  | bo (b : Bool)
  | io (k : IntKind) (n : Int)
  | so (s : ByteArray)
  | sl (a : Option Addr) (n c : Nat)
  | lp (i off : Nat)
  | ls (i off len cap : Nat)
  | agg (l : List SV)
  | tup (l : List SV)
  | fn (f : Fn) (caps : List SV)
  deriving Inhabited

/-- The block that is the local block number i. -/
def nth (ρ : List Nat) (i : Nat) : Nat := ρ.getD i 0

mutual
def SV.den (ρ : List Nat) : SV → Value
  | .v x => x
  | .bo b => .bool b
  | .io k n => .int k n
  | .so s => .string s
  | .sl a n c => .slice a n c
  | .lp i off => .pointer (some ⟨nth ρ i, off, none⟩)
  | .ls i off len cap => .slice (some ⟨nth ρ i, off, none⟩) len cap
  | .agg l => .agg (SV.denL ρ l).toArray
  | .tup l => .tuple (SV.denL ρ l).toArray
  | .fn f cs => .func f #[] (SV.denL ρ cs).toArray
def SV.denL (ρ : List Nat) : List SV → List Value
  | [] => []
  | s :: l => s.den ρ :: SV.denL ρ l
end

mutual
def SV.inBlk (n : Nat) : SV → Bool
  | .lp i _ => Nat.blt i n
  | .ls i _ _ _ => Nat.blt i n
  | .agg l => SV.scopedL n l
  | .tup l => SV.scopedL n l
  | .fn _ cs => SV.scopedL n cs
  | _ => true
def SV.scopedL (n : Nat) : List SV → Bool
  | [] => true
  | s :: l => s.inBlk n && SV.scopedL n l
end

theorem SV.denL_eq (ρ : List Nat) : ∀ l, SV.denL ρ l = l.map (SV.den ρ)
  | [] => rfl
  | s :: l => by simp [SV.denL, SV.denL_eq ρ l]

theorem SV.getD_append {ρ : List Nat} {b : Nat} {i : Nat} (h : i < ρ.length) : nth (ρ ++ [b]) i = nth ρ i := by
  simp [nth, List.getD, List.getElem?_append_left h]

mutual
theorem SV.den_append (ρ : List Nat) (b : Nat) : ∀ s : SV, s.inBlk ρ.length = true → s.den (ρ ++ [b]) = s.den ρ
  | .v _, _ => rfl
  | .bo _, _ => rfl
  | .io _ _, _ => rfl
  | .so _, _ => rfl
  | .sl _ _ _, _ => rfl
  | .lp i off, h => by
    have h' : i < ρ.length := by simpa [SV.inBlk] using h
    simp only [SV.den, SV.getD_append h']
  | .ls i off _ _, h => by
    have h' : i < ρ.length := by simpa [SV.inBlk] using h
    simp only [SV.den, SV.getD_append h']
  | .agg l, h => by simp only [SV.den, SV.denL_append ρ b l (by simpa [SV.inBlk] using h)]
  | .tup l, h => by simp only [SV.den, SV.denL_append ρ b l (by simpa [SV.inBlk] using h)]
  | .fn f cs, h => by simp only [SV.den, SV.denL_append ρ b cs (by simpa [SV.inBlk] using h)]
theorem SV.denL_append (ρ : List Nat) (b : Nat) : ∀ l : List SV, SV.scopedL ρ.length l = true → SV.denL (ρ ++ [b]) l = SV.denL ρ l
  | [], _ => rfl
  | s :: l, h => by
    simp only [SV.scopedL, Bool.and_eq_true] at h
    simp only [SV.denL, SV.den_append ρ b s h.1, SV.denL_append ρ b l h.2]
end

/-- A constant of the text. -/
def ofC : Value → SV
  | .agg cs => .agg (cs.toList.map .v)
  | x => .v x
theorem ofC_den (ρ : List Nat) (x : Value) : (ofC x).den ρ = x := by
  cases x <;> simp [ofC, SV.den, SV.denL_eq, Function.comp_def]

/-- What was computed with something open. -/
def opened : Value → SV
  | .int k n => .io k n
  | .bool b => .bo b
  | .string s => .so s
  | x => ofC x
theorem opened_den (ρ : List Nat) (x : Value) : (opened x).den ρ = x := by
  cases x <;> simp [opened, ofC, SV.den, SV.denL_eq, Function.comp_def]

abbrev Fr := List (Nat × SV)
def look : Fr → Nat → Option SV
  | [], _ => none
  | (k, s) :: l, t => match Nat.beq k t with | true => some s | false => look l t

abbrev Loc := List (List SV × TypeId)

structure AInv (ntm : Nat) (ρ : List Nat) (fr : Fr) (a : Act) : Prop where
  defers : a.defers = []
  size : a.tmps.size = ntm
  slot : ∀ t s, look fr t = some s → a.tmps[t]? = some (s.den ρ)

structure WInv (N : Nat) (w0 : World) (ρ : List Nat) (loc : Loc) (w : World) : Prop where
  below : Below N w0 w
  hN : N ≤ w.heap.size
  len : ρ.length = loc.length
  nodup : ρ.Nodup
  ge : ∀ b ∈ ρ, N ≤ b ∧ b < w.heap.size
  cells : ∀ i c t, loc[i]? = some (c, t) → w.heap[nth ρ i]? = some (.cells (SV.denL ρ c).toArray t (0, 0))

/-- What a stretch of the walk leaves alone: all blocks but the local ones. -/
structure Keep (ρ : List Nat) (w w' : World) : Prop where
  os : w'.os = w.os
  tape : w'.tape = w.tape
  output : w'.output = w.output
  size : w.heap.size ≤ w'.heap.size
  block : ∀ k, k < w.heap.size → k ∉ ρ → w'.heap[k]? = w.heap[k]?

theorem Keep.refl (ρ : List Nat) (w : World) : Keep ρ w w := ⟨rfl, rfl, rfl, Nat.le_refl _, fun _ _ _ => rfl⟩
theorem Keep.trans {ρ ρ' : List Nat} {a b c : World} (h : Keep ρ a b) (k : Keep ρ' b c) (hs : ∀ x ∈ ρ', x ∈ ρ ∨ a.heap.size ≤ x) : Keep ρ a c :=
  ⟨k.os.trans h.os, k.tape.trans h.tape, k.output.trans h.output, Nat.le_trans h.size k.size, fun i hi hn =>
    (k.block i (Nat.lt_of_lt_of_le hi h.size) (fun hm => by rcases hs i hm with h1 | h1; exact hn h1; omega)).trans (h.block i hi hn)⟩
theorem Keep.of_below {ρ : List Nat} {w w' : World} (h : Below w.heap.size w w') : Keep ρ w w' :=
  ⟨h.os, h.tape, h.output, h.size, fun k hk _ => h.block k hk⟩
theorem Keep.below {w w' : World} (h : Keep [] w w') : Below w.heap.size w w' :=
  ⟨h.os, h.tape, h.output, h.size, fun k hk => h.block k hk (by simp)⟩
theorem Keep.cell {ρ : List Nat} {w w' : World} (h : Keep ρ w w') {p : Addr} (hp : p.block < w.heap.size) (hn : p.block ∉ ρ) : w'.cell? p = w.cell? p :=
  World.cell?_of_block (h.block _ hp hn)

def evalS (fr : Fr) : Operand → Option SV
  | .tmp t => look fr t
  | .const x => some (ofC x)
  | .global g => some (.v (.pointer (some ⟨g, 0, none⟩)))
  | .func f => some (.fn (.func f) [])

theorem getD_of {a : Act} {t : Nat} {x : Value} (h : a.tmps[t]? = some x) : a.tmps.getD t undef = x := by
  simp [Array.getD_eq_getD_getElem?, h]

theorem evalS_sound {ntm : Nat} {ρ : List Nat} {fr : Fr} {a : Act} (h : AInv ntm ρ fr a) {o : Operand} {s : SV} (he : evalS fr o = some s) : a.eval o = s.den ρ := by
  cases o with
  | tmp t => exact getD_of (h.slot t s he)
  | const x => simp only [evalS, Option.some.injEq] at he; subst he; exact (ofC_den ρ x).symm
  | global g => simp only [evalS, Option.some.injEq] at he; subst he; rfl
  | func f => simp only [evalS, Option.some.injEq] at he; subst he; rfl

/-- The cells of a value, where they are seen. -/
def SV.cells? : SV → Option (List SV)
  | .agg l => some l
  | .tup _ => none
  | .v (.agg _) => none
  | .v (.tuple _) => none
  | s => some [s]
def SV.one : SV → Bool
  | .agg _ => false
  | .tup _ => false
  | .v (.agg _) => false
  | .v (.tuple _) => false
  | _ => true
def oneL : List SV → Bool
  | [] => true
  | s :: l => s.one && oneL l
theorem SV.cells?_den {ρ : List Nat} {s : SV} {l : List SV} (h : s.cells? = some l) : (s.den ρ).cells = (SV.denL ρ l).toArray := by
  cases s with
  | agg l' => simp only [SV.cells?, Option.some.injEq] at h; subst h; rfl
  | tup l' => simp [SV.cells?] at h
  | v x => cases x <;> simp only [SV.cells?, Option.some.injEq, reduceCtorEq] at h <;> subst h <;> rfl
  | _ => simp only [SV.cells?, Option.some.injEq] at h; subst h; rfl
theorem SV.one_den {ρ : List Nat} {s : SV} (h : s.one = true) : (s.den ρ).oneCell' = true := by
  cases s with
  | v x => cases x <;> first | rfl | simp [SV.one] at h
  | agg l => simp [SV.one] at h
  | tup l => simp [SV.one] at h
  | _ => rfl
theorem oneL_den {ρ : List Nat} : ∀ {l : List SV}, oneL l = true → ∀ x ∈ SV.denL ρ l, x.oneCell' = true
  | [], _, x, hx => by simp [SV.denL] at hx
  | s :: l, h, x, hx => by
    simp only [oneL, Bool.and_eq_true] at h
    simp only [SV.denL, List.mem_cons] at hx
    rcases hx with rfl | hx
    · exact SV.one_den h.1
    · exact oneL_den h.2 x hx
end Go.Sx
