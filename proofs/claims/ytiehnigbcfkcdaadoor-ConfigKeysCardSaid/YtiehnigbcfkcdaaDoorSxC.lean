import Derived.Test.YtiehnigbcfkcdaaDoorSxB
import Derived.Lib.SliceRun
import Derived.WalkSpells
import Derived.Laws.Tables
import Derived.Laws.StructEq
set_option linter.unusedSimpArgs false
set_option linter.unusedVariables false
namespace Go.Sx
open Go.RowKit
section
variable {P : Program}

def fillS (place : Nat → Option (Nat × Nat)) (cells : List SV) : List (Nat × SV) → Option (List SV)
  | [] => some cells
  | (i, s) :: rest =>
    match place i with
    | none => none
    | some (off, size) => match s.cells? with
      | none => none
      | some l => match Nat.beq l.length size && Nat.ble (off + l.length) cells.length with
        | true => fillS place (l.zipIdx.foldl (fun cs (c, j) => cs.set (off + j) c) cells) rest
        | false => none
theorem foldl_set (ρ : List Nat) (off : Nat) : ∀ (l : List SV) (k : Nat) (cs : List SV),
    ((SV.denL ρ l).zipIdx k).foldl (fun (cs : Array Value) (x : Value × Nat) => cs.setIfInBounds (off + x.2) x.1) (SV.denL ρ cs).toArray =
      (SV.denL ρ ((l.zipIdx k).foldl (fun cs (x : SV × Nat) => cs.set (off + x.2) x.1) cs)).toArray
  | [], k, cs => by simp [SV.denL]
  | s :: l, k, cs => by
    simp only [SV.denL, List.zipIdx_cons, List.foldl_cons]
    rw [← foldl_set ρ off l (k + 1) (cs.set (off + k) s)]
    congr 1
    simp [SV.denL_eq]
theorem foldl_set_length (off : Nat) : ∀ (l : List (SV × Nat)) (cs : List SV), (l.foldl (fun cs (x : SV × Nat) => cs.set (off + x.2) x.1) cs).length = cs.length
  | [], cs => rfl
  | x :: l, cs => by simp [foldl_set_length off l]
theorem fillS_den {ρ : List Nat} {place : Nat → Option (Nat × Nat)} : ∀ {parts : List (Nat × SV)} {cells r : List SV}, fillS place cells parts = some r →
    Instr.fill place (SV.denL ρ cells).toArray (parts.map fun x => (x.1, x.2.den ρ)) = some (SV.denL ρ r).toArray
  | [], cells, r, h => by simp only [fillS, Option.some.injEq] at h; subst h; rfl
  | (i, s) :: rest, cells, r, h => by
    simp only [fillS] at h
    split at h
    · cases h
    · rename_i off size hp
      split at h
      · cases h
      · rename_i l hl
        split at h
        · rename_i hb
          obtain ⟨hb1, hb2⟩ := (Bool.and_eq_true _ _).mp hb
          have hb1 := Nat.eq_of_beq_eq_true hb1
          have hb2 := Nat.le_of_ble_eq_true hb2
          have ih := fillS_den (ρ := ρ) h
          have hc := SV.cells?_den (ρ := ρ) hl
          simp only [List.map_cons, Instr.fill, hp, hc]
          have e := foldl_set ρ off l 0 cells
          rw [if_neg (by simp [SV.denL_eq]; omega)]
          rw [← ih]
          congr 1
          rw [← e, ← Array.foldl_toList]
          simp
        · cases h

def builtS (P : Program) (t : TypeId) (parts : List (Nat × SV)) : Option (List SV) :=
  match P.info? t with
  | none => none
  | some it => match it.zero with
    | none => none
    | some z => match P.underlying t with
      | some (.array _ e) => match P.info? e with
        | some ie => fillS (fun i => some (i * ie.size, ie.size)) (z.cells.toList.map .v) parts
        | none => none
      | some (.struct fields) => match fields.toList.mapM (fun f => (P.info? f.type).map fun i => (f.offset, i.size)) with
        | some places => fillS (places.toArray[·]?) (z.cells.toList.map .v) parts
        | none => none
      | _ => none
theorem denL_v (ρ : List Nat) (l : List Value) : SV.denL ρ (l.map .v) = l := by simp [SV.denL_eq, Function.comp_def, SV.den]
theorem builtS_den {ρ : List Nat} {t : TypeId} {parts : List (Nat × SV)} {r : List SV} (h : builtS P t parts = some r) :
    P.built t (parts.map fun x => (x.1, x.2.den ρ)) = some (SV.denL ρ r).toArray := by
  unfold builtS at h
  unfold Program.built
  split at h
  · cases h
  · rename_i it hit
    split at h
    · cases h
    · rename_i z hz
      split at h
      · rename_i n e hu
        split at h
        · rename_i ie hie
          have := fillS_den (ρ := ρ) h
          simp only [denL_v] at this
          simpa [hit, hu, hz, hie] using this
        · cases h
      · rename_i fields hu
        split at h
        · rename_i places hp
          have := fillS_den (ρ := ρ) h
          simp only [denL_v] at this
          simp only [hit, hu, hz]
          rw [hp]
          simpa using this
        · cases h
      · cases h

/-- A scalar, and whether it is known. -/
def litOf : SV → Option (Value × Bool)
  | .v x => some (x, true)
  | .io k n => some (.int k n, false)
  | .bo b => some (.bool b, false)
  | .so s => some (.string s, false)
  | _ => none
theorem litOf_den {ρ : List Nat} {s : SV} {x : Value} {f : Bool} (h : litOf s = some (x, f)) : s.den ρ = x := by
  cases s <;> simp only [litOf, Option.some.injEq, Prod.mk.injEq, reduceCtorEq] at h <;> (obtain ⟨rfl, _⟩ := h; rfl)
def mkR (lit : Bool) (r : Value) : SV := match lit with | true => ofC r | false => opened r
theorem mkR_den (ρ : List Nat) (lit : Bool) (r : Value) : (mkR lit r).den ρ = r := by cases lit; exact opened_den ρ r; exact ofC_den ρ r

def isPtr (P : Program) (t : TypeId) : Bool := match P.underlying t with | some (.pointer _) => true | _ => false
def isBoolT (P : Program) (t : TypeId) : Bool := match P.underlying t with | some .bool => true | _ => false

def isSl (P : Program) (t : TypeId) : Bool := match P.underlying t with | some (.slice _) => true | _ => false
def binS (P : Program) (op : BinOp) (t : TypeId) (sx sy : SV) : Option SV :=
  match litOf sx, litOf sy with
  | some (.int k a, la), some (.int k' b, lb) =>
    match op with
    | .shl | .shr => match lb with | true => (shiftS op k a b).map (mkR la) | false => none
    | .quo | .rem => match lb, decide (k = k') with | true, true => (binInt2 op k a b).map (mkR la) | _, _ => none
    | _ => match decide (k = k') with | true => (binInt op k a b).map (mkR (la && lb)) | false => none
  | some (.string x, la), some (.string y, lb) => (binStr op x y).map (mkR (la && lb))
  | some (.bool x, la), some (.bool y, lb) =>
    match op, isBoolT P t with
    | .eql, true => some (mkR (la && lb) (.bool (x == y)))
    | .neq, true => some (mkR (la && lb) (.bool (!(x == y))))
    | _, _ => none
  | some (.pointer none, _), some (.pointer none, _) =>
    match op, isPtr P t with
    | .eql, true => some (.v (.bool true))
    | .neq, true => some (.v (.bool false))
    | _, _ => none
  | none, some (.pointer none, _) =>
    match sx, op, isPtr P t with
    | .lp _ _, .eql, true => some (.v (.bool false))
    | .lp _ _, .neq, true => some (.v (.bool true))
    | _, _, _ => none
  | some (.slice a _ _, _), some (.slice none _ _, _) =>
    match op, isSl P t with
    | .eql, true => some (.bo a.isNone)
    | .neq, true => some (.bo (!a.isNone))
    | _, _ => none
  | none, some (.slice none _ _, _) =>
    match sx, op, isSl P t with
    | .sl a _ _, .eql, true => some (.bo a.isNone)
    | .sl a _ _, .neq, true => some (.bo (!a.isNone))
    | .ls _ _ _ _, .eql, true => some (.v (.bool false))
    | .ls _ _ _ _, .neq, true => some (.v (.bool true))
    | _, _, _ => none
  | _, _ => none

theorem isBoolT_ok {t : TypeId} (h : isBoolT P t = true) : P.underlying t = some .bool := by
  unfold isBoolT at h; split at h <;> first | assumption | cases h
theorem isPtr_ok {t : TypeId} (h : isPtr P t = true) : ∃ e, P.underlying t = some (.pointer e) := by
  unfold isPtr at h; split at h <;> first | exact ⟨_, by assumption⟩ | cases h

theorem isSl_ok {t : TypeId} (h : isSl P t = true) : ∃ e, P.underlying t = some (.slice e) := by
  unfold isSl at h; split at h <;> first | exact ⟨_, by assumption⟩ | cases h
theorem run_eqSl {t : TypeId} (h : isSl P t = true) (a : Option Addr) (n c n' c' : Nat) (w : World) : (binOp .eql t (.slice a n c) (.slice none n' c')).run P w = .ok (.bool a.isNone) w := by
  obtain ⟨e, he⟩ := isSl_ok h
  exact Lib.run_eql_slice_nil w t e a n c n' c' he
theorem run_neSl {t : TypeId} (h : isSl P t = true) (a : Option Addr) (n c n' c' : Nat) (w : World) : (binOp .neq t (.slice a n c) (.slice none n' c')).run P w = .ok (.bool (!a.isNone)) w := by
  obtain ⟨e, he⟩ := isSl_ok h
  exact run_neq_slice_nil_any w t e a n c n' c' he
theorem run_eqBool {t : TypeId} (h : isBoolT P t = true) (x y : Bool) (w : World) : (Op.equal t (.bool x) (.bool y)).run P w = .ok (x == y) w := by
  have h1 := run_equalIn_bool (P := P) w 9999 t x y (isBoolT_ok h)
  simp [Op.equal, Op.maxDepth, h1]
theorem run_eqNil {t : TypeId} (h : isPtr P t = true) (w : World) : (Op.equal t (.pointer none) (.pointer none)).run P w = .ok true w := by
  obtain ⟨e, he⟩ := isPtr_ok h
  have h1 : ∀ d, (Op.equalIn (d + 1) t (.pointer none) (.pointer none)).run P w = .ok true w := fun d => by simp [Op.equalIn, run_underlying he]
  simp [Op.equal, Op.maxDepth, h1 9999]
theorem run_eqNil' {t : TypeId} (h : isPtr P t = true) (a : Addr) (w : World) : (Op.equal t (.pointer (some a)) (.pointer none)).run P w = .ok false w := by
  obtain ⟨e, he⟩ := isPtr_ok h
  have h1 : ∀ d, (Op.equalIn (d + 1) t (.pointer (some a)) (.pointer none)).run P w = .ok false w := fun d => by simp [Op.equalIn, run_underlying he]
  simp [Op.equal, Op.maxDepth, h1 9999]

theorem run_binS {ρ : List Nat} {op : BinOp} {t : TypeId} {sx sy s : SV} (h : binS P op t sx sy = some s) (w : World) :
    (binOp op t (sx.den ρ) (sy.den ρ)).run P w = .ok (s.den ρ) w := by
  unfold binS at h
  split at h
  · rename_i k a la k' b lb hx hy
    rw [litOf_den hx, litOf_den hy]
    have hsh : ∀ r, shiftS op k a b = some r → s = mkR la r → (binOp op t (.int k a) (.int k' b)).run P w = .ok (s.den ρ) w := by
      intro r hr hs; rw [hs, mkR_den]; exact run_shiftS hr t w
    split at h
    · split at h
      · obtain ⟨r, hr, hs⟩ := Option.map_eq_some_iff.1 h
        exact hsh r hr hs.symm
      · cases h
    · split at h
      · obtain ⟨r, hr, hs⟩ := Option.map_eq_some_iff.1 h
        exact hsh r hr hs.symm
      · cases h
    · split at h
      · rename_i hk
        obtain ⟨r, hr, hs⟩ := Option.map_eq_some_iff.1 h
        have : k = k' := by simpa using hk
        subst this; rw [← hs, mkR_den]; exact run_binInt2 hr t w
      · cases h
    · split at h
      · rename_i hk
        obtain ⟨r, hr, hs⟩ := Option.map_eq_some_iff.1 h
        have : k = k' := by simpa using hk
        subst this; rw [← hs, mkR_den]; exact run_binInt2 hr t w
      · cases h
    · split at h
      · rename_i hk
        obtain ⟨r, hr, hs⟩ := Option.map_eq_some_iff.1 h
        have : k = k' := by simpa using hk
        subst this; rw [← hs, mkR_den]; exact run_binInt hr t w
      · cases h
  · rename_i x la y lb hx hy
    obtain ⟨r, hr, hs⟩ := Option.map_eq_some_iff.1 h
    rw [litOf_den hx, litOf_den hy, ← hs, mkR_den]
    exact run_binStr hr t w
  · rename_i x la y lb hx hy
    rw [litOf_den hx, litOf_den hy]
    split at h
    · rename_i hb
      simp only [Option.some.injEq] at h
      rw [← h, mkR_den]
      simp [binOp, run_eqBool hb]
    · rename_i hb
      simp only [Option.some.injEq] at h
      rw [← h, mkR_den]
      simp [binOp, run_eqBool hb]
    · cases h
  · rename_i hx hy
    rw [litOf_den hx, litOf_den hy]
    split at h
    · rename_i hb
      simp only [Option.some.injEq] at h
      rw [← h]
      simp [binOp, run_eqNil hb, SV.den]
    · rename_i hb
      simp only [Option.some.injEq] at h
      rw [← h]
      simp [binOp, run_eqNil hb, SV.den]
    · cases h
  · rename_i hx hy
    rw [litOf_den hy]
    split at h
    · rename_i hb
      simp only [Option.some.injEq] at h
      rw [← h]
      simp [binOp, run_eqNil' hb, SV.den]
    · rename_i hb
      simp only [Option.some.injEq] at h
      rw [← h]
      simp [binOp, run_eqNil' hb, SV.den]
    · cases h
  · rename_i hx hy
    rw [litOf_den hx, litOf_den hy]
    split at h
    · rename_i hb
      simp only [Option.some.injEq] at h
      rw [← h]
      exact run_eqSl hb _ _ _ _ _ w
    · rename_i hb
      simp only [Option.some.injEq] at h
      rw [← h]
      exact run_neSl hb _ _ _ _ _ w
    · cases h
  · rename_i hx hy
    rw [litOf_den hy]
    split at h
    · rename_i hb
      simp only [Option.some.injEq] at h
      rw [← h]
      exact run_eqSl hb _ _ _ _ _ w
    · rename_i hb
      simp only [Option.some.injEq] at h
      rw [← h]
      exact run_neSl hb _ _ _ _ _ w
    · rename_i hb
      simp only [Option.some.injEq] at h
      rw [← h]
      exact run_eqSl hb _ _ _ _ _ w
    · rename_i hb
      simp only [Option.some.injEq] at h
      rw [← h]
      exact run_neSl hb _ _ _ _ _ w
    · cases h
  · cases h

/-- The guard ahead of '==' lets everything by that is no aggregate and no nil interface. -/
def SV.calm : SV → Bool
  | .v .nilIface => false
  | .v (.agg _) => false
  | .agg _ => false
  | _ => true
theorem run_eqGuard_calm {ρ : List Nat} {s : SV} (h : s.calm = true) (op : BinOp) (t : TypeId) (x y : Operand) (b : Value) (w : World) : (eqGuard op t x y (s.den ρ) b).run P w = .ok () w := by
  have hs : (∀ cs, s.den ρ ≠ .agg cs) ∧ s.den ρ ≠ .nilIface := by
    cases s with
    | v x => cases x <;> first | (simp [SV.calm] at h; done) | simp [SV.den]
    | agg l => simp [SV.calm] at h
    | _ => simp [SV.den]
  generalize s.den ρ = z at hs
  have h1 : eqGuard op t x y z b = pure () := by
    unfold eqGuard
    cases z <;> first | (exact absurd rfl hs.2) | (exact absurd rfl (hs.1 _)) | (cases op <;> rfl)
  rw [h1]; rfl
end
end Go.Sx
