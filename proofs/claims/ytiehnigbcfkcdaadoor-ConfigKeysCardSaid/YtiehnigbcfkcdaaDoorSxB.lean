import Derived.Test.YtiehnigbcfkcdaaDoorSxA
set_option linter.unusedSimpArgs false
set_option linter.unusedVariables false
namespace Go.Sx
open Go.RowKit

section
variable {P : Program}

def sizeT (P : Program) (t : TypeId) : Option Nat := (P.info? t).map (·.size)
def isAggT (P : Program) (t : TypeId) : Option Bool :=
  match P.underlying t with
  | some (.struct _) => some true
  | some (.array _ _) => some true
  | some _ => some false
  | none => none
theorem run_sizeT {t : TypeId} {n : Nat} (h : sizeT P t = some n) (w : World) : (sizeOf t).run P w = .ok n w := by
  unfold sizeT at h
  cases hq : P.info? t with
  | none => simp [hq] at h
  | some i => simp [hq] at h; subst h; simp [sizeOf, typeInfo, hq]
theorem run_isAggT {t : TypeId} {b : Bool} (h : isAggT P t = some b) (w : World) : (isAgg t).run P w = .ok b w := by
  unfold isAggT at h
  cases hq : P.underlying t with
  | none => simp [hq] at h
  | some d => cases d <;> simp [hq] at h <;> subst h <;> simp [isAgg, run_underlying hq]

def partS (P : Program) (t : TypeId) (l : List SV) (off : Nat) : Option SV :=
  match isAggT P t with
  | some true => match sizeT P t with
    | some n => some (.agg ((l.drop off).take n))
    | none => none
  | some false => l[off]?
  | none => none
theorem run_partS {ρ : List Nat} {t : TypeId} {l : List SV} {off : Nat} {s : SV} (h : partS P t l off = some s) (w : World) : (part t (SV.denL ρ l).toArray off).run P w = .ok (s.den ρ) w := by
  unfold partS at h
  split at h
  · rename_i hb
    split at h
    · rename_i n hn
      simp only [Option.some.injEq] at h
      subst h
      simp [part, run_isAggT hb, run_sizeT hn, SV.den, SV.denL_eq, List.map_take, List.map_drop, List.extract_eq_take_drop]
    · cases h
  · rename_i hb
    simp [part, run_isAggT hb, SV.denL_eq, h]
  · cases h

def loadS (P : Program) (loc : Loc) (t : TypeId) (i off : Nat) : Option SV :=
  match loc[i]? with
  | some (c, _) => match isAggT P t with
    | some true => match sizeT P t with
      | some n => match Nat.ble (off + n) c.length with
        | true => some (.agg ((c.drop off).take n))
        | false => none
      | none => none
    | some false => c[off]?
    | none => none
  | none => none
theorem add_ok (b o j : Nat) : (⟨b, o, none⟩ : Addr).add j = ⟨b, o + j, none⟩ := by unfold Addr.add; split <;> simp_all
theorem cell_of_loc {N : Nat} {w0 w : World} {ρ : List Nat} {loc : Loc} (hw : WInv N w0 ρ loc w) {i : Nat} {c : List SV} {t : TypeId} (hl : loc[i]? = some (c, t)) (o : Nat) :
    w.cell? ⟨nth ρ i, o, none⟩ = (c[o]?).map (SV.den ρ) := by
  simp [World.cell?, hw.cells i c t hl, SV.denL_eq]
theorem run_loadS {N : Nat} {w0 w : World} {ρ : List Nat} {loc : Loc} (hw : WInv N w0 ρ loc w) {t : TypeId} {i off : Nat} {s : SV} (h : loadS P loc t i off = some s) :
    (loadVar t ⟨nth ρ i, off, none⟩).run P w = .ok (s.den ρ) w := by
  unfold loadS at h
  split at h
  · rename_i c ty hl
    split at h
    · rename_i hb
      split at h
      · rename_i n hn
        split at h
        · rename_i hle
          have hle' : off + n ≤ c.length := by simpa using hle
          simp only [Option.some.injEq] at h
          subst h
          have hlen : ((SV.denL ρ ((c.drop off).take n))).length = n := by simp [SV.denL_eq]; omega
          have hr := run_loadCells_list (P := P) w ⟨nth ρ i, off, none⟩ (SV.denL ρ ((c.drop off).take n)) (fun j v hj => by
            rw [add_ok, cell_of_loc hw hl]
            have hjn : j < n := by
              have := (List.getElem?_eq_some_iff.1 hj).1
              omega
            simpa [SV.denL_eq, List.getElem?_take, hjn, List.getElem?_drop] using hj)
          rw [hlen] at hr
          simp [loadVar, run_isAggT hb, run_sizeT hn, hr, SV.den]
        · cases h
      · cases h
    · rename_i hb
      have := cell_of_loc hw hl off
      rw [h] at this
      simp [loadVar, run_isAggT hb, this]
    · cases h
  · cases h

/-- The total operators on two integers of one kind. -/
def binInt (op : BinOp) (k : IntKind) (a b : Int) : Option Value :=
  match op with
  | .add => some (.int k (k.wrap (a + b)))
  | .sub => some (.int k (k.wrap (a - b)))
  | .mul => some (.int k (k.wrap (a * b)))
  | .and => some (.int k (k.wrap (BitVec.ofInt k.bits a &&& BitVec.ofInt k.bits b).toNat))
  | .or => some (.int k (k.wrap (BitVec.ofInt k.bits a ||| BitVec.ofInt k.bits b).toNat))
  | .xor => some (.int k (k.wrap (BitVec.ofInt k.bits a ^^^ BitVec.ofInt k.bits b).toNat))
  | .andNot => some (.int k (k.wrap (BitVec.ofInt k.bits a &&& ~~~BitVec.ofInt k.bits b).toNat))
  | .eql => some (.bool (a == b))
  | .neq => some (.bool (a != b))
  | .lss => some (.bool (decide (a < b)))
  | .leq => some (.bool (decide (a ≤ b)))
  | .gtr => some (.bool (decide (a > b)))
  | .geq => some (.bool (decide (a ≥ b)))
  | _ => none
theorem run_binInt {op : BinOp} {k : IntKind} {a b : Int} {r : Value} (h : binInt op k a b = some r) (t : TypeId) (w : World) : (binOp op t (.int k a) (.int k b)).run P w = .ok r w := by
  cases op <;> simp only [binInt, Option.some.injEq, reduceCtorEq] at h <;> subst h <;> simp [binOp, Op.intArith, Op.intBits, Op.intCmp]
/-- / and %, the divisor known not to be 0; shifts, the count known not to be negative. -/
def binInt2 (op : BinOp) (k : IntKind) (a b : Int) : Option Value :=
  match op with
  | .quo => match decide (b = 0) with | false => some (.int k (k.wrap (a.tdiv b))) | true => none
  | .rem => match decide (b = 0) with | false => some (.int k (a.tmod b)) | true => none
  | _ => none
theorem run_binInt2 {op : BinOp} {k : IntKind} {a b : Int} {r : Value} (h : binInt2 op k a b = some r) (t : TypeId) (w : World) : (binOp op t (.int k a) (.int k b)).run P w = .ok r w := by
  cases op <;> simp only [binInt2, reduceCtorEq] at h <;> split at h <;> simp only [Option.some.injEq, reduceCtorEq] at h <;> subst h <;> rename_i hb <;> simp at hb <;> simp [binOp, Op.intDiv, hb]
def shiftS (op : BinOp) (k : IntKind) (a b : Int) : Option Value :=
  match op with
  | .shl => match decide (b < 0) with | false => some (.int k (k.wrap (a * 2 ^ (min b.toNat k.bits)))) | true => none
  | .shr => match decide (b < 0) with | false => some (.int k (a.fdiv (2 ^ (min b.toNat k.bits)))) | true => none
  | _ => none
theorem run_shiftS {op : BinOp} {k k' : IntKind} {a b : Int} {r : Value} (h : shiftS op k a b = some r) (t : TypeId) (w : World) : (binOp op t (.int k a) (.int k' b)).run P w = .ok r w := by
  cases op <;> simp only [shiftS, reduceCtorEq] at h <;> split at h <;> simp only [Option.some.injEq, reduceCtorEq] at h <;> subst h <;> rename_i hb <;> simp at hb <;>
    simp [binOp, Op.shift, Int.not_lt.2 hb]
def binStr (op : BinOp) (x y : ByteArray) : Option Value :=
  match op with
  | .eql => some (.bool (x.toList == y.toList))
  | .neq => some (.bool (!(x.toList == y.toList)))
  | .lss => some (.bool (Op.bytesLess x.toList y.toList))
  | .leq => some (.bool (Op.bytesLess x.toList y.toList || x.toList == y.toList))
  | .gtr => some (.bool (!(Op.bytesLess x.toList y.toList || x.toList == y.toList)))
  | .geq => some (.bool (!Op.bytesLess x.toList y.toList))
  | _ => none
theorem run_binStr {op : BinOp} {x y : ByteArray} {r : Value} (h : binStr op x y = some r) (t : TypeId) (w : World) : (binOp op t (.string x) (.string y)).run P w = .ok r w := by
  cases op <;> simp only [binStr, Option.some.injEq, reduceCtorEq] at h <;> subst h <;> simp [binOp, Op.stringOp]
end
end Go.Sx
