import Derived.Test.YtkjnbafdmjakgaaDoorSxAA
set_option linter.unusedSimpArgs false
set_option linter.unusedVariables false
namespace Go.Sx
open Go.RowKit
section
variable {P : Program} {Q : Exit → Act → World → Prop} {N : Nat} {w0 : World} {ntm : Nat} {F : List Nat → World → Prop}

/-! ### texts: a byte, a part, one behind the other -/
def sixQ (P : Program) (fr : Fr) (o : Oper) : Option (ByteArray × Int) :=
  match o.op with
  | .index t x ix => match P.underlying t, (evalS fr x).bind litOf, (evalS fr ix).bind litOf with
    | some .string, some (.string s, _), some (.int _ i, _) => some (s, i)
    | _, _, _ => none
  | _ => none
theorem run_sixQ {ρ : List Nat} {fr : Fr} {act : Act} (ha : AInv ntm ρ fr act) {o : Oper} {s : ByteArray} {i : Int} {b : UInt8} (hq : sixQ P fr o = some (s, i)) (h0 : 0 ≤ i) (hb : s.data.toList[i.toNat]? = some b) (w : World) :
    (execOp act.eval o).run P w = .ok (.value (.int .u8 (b.toNat : Int))) w := by
  obtain ⟨dst, op, ty, pos, after, guard⟩ := o
  unfold sixQ at hq
  simp only at hq
  split at hq
  · rename_i t x ix
    split at hq
    · rename_i s' l1 k i' l2 hu hx hi
      obtain ⟨sx, hsx, hlx⟩ := Option.bind_eq_some_iff.1 hx
      obtain ⟨si, hsi, hli⟩ := Option.bind_eq_some_iff.1 hi
      simp only [Option.some.injEq, Prod.mk.injEq] at hq
      obtain ⟨rfl, rfl⟩ := hq
      have hlt : i'.toNat < s'.data.toList.length := (List.getElem?_eq_some_iff.1 hb).1
      have hsz : s'.size = s'.data.toList.length := by rw [Array.length_toList]; rfl
      have hr := run_index_string (P := P) w t s' k i' hu
      rw [dif_pos ⟨h0, by omega⟩] at hr
      have hbe : s'[i'.toNat]'(by omega) = b := by
        have := (List.getElem?_eq_some_iff.1 hb).2
        rw [← this]
        rfl
      rw [hbe] at hr
      simp [execOp, evalS_sound ha hsx, evalS_sound ha hsi, litOf_den hlx, litOf_den hli, hr]
    · cases hq
  · cases hq
def sixI (P : Program) (ntm : Nat) (s : S) : Option (ByteArray × Int) :=
  match s.head?, s.dstOk ntm with
  | some o, true => sixQ P s.fr o
  | _, _ => none
theorem At.six {s : S} (x : ByteArray) (i : Int) (b : UInt8) (hq : sixI P ntm s = some (x, i)) (h0 : 0 ≤ i) (hb : x.data.toList[i.toNat]? = some b) (hF : Stable F) (h : At P Q N w0 ntm F (s.tail ntm (.io .u8 (b.toNat : Int)))) : At P Q N w0 ntm F s := by
  unfold sixI at hq
  split at hq
  · rename_i o ho hd
    exact At.op hF o (.io .u8 (b.toNat : Int)) ho hd (fun ρ act w hi _ => run_sixQ hi.act hq h0 hb w) h
  · cases hq
/-- A text behind another one. -/
def catQ (P : Program) (fr : Fr) (o : Oper) : Option (ByteArray × ByteArray) :=
  match o.op with
  | .binOp .add t x y _ => match (evalS fr x).bind litOf, (evalS fr y).bind litOf with
    | some (.string a, _), some (.string b, _) => some (a, b)
    | _, _ => none
  | _ => none
theorem run_catQ {ρ : List Nat} {fr : Fr} {act : Act} (ha : AInv ntm ρ fr act) {o : Oper} {a b : ByteArray} (hq : catQ P fr o = some (a, b)) (hs : a.size + b.size ≤ 9223372036854775807) (w : World) :
    (execOp act.eval o).run P w = .ok (.value (.string (a ++ b))) w := by
  obtain ⟨dst, op, ty, pos, after, guard⟩ := o
  unfold catQ at hq
  simp only at hq
  split at hq
  · rename_i t x y t2
    split at hq
    · rename_i a' l1 b' l2 hx hy
      obtain ⟨sx, hsx, hlx⟩ := Option.bind_eq_some_iff.1 hx
      obtain ⟨sy, hsy, hly⟩ := Option.bind_eq_some_iff.1 hy
      simp only [Option.some.injEq, Prod.mk.injEq] at hq
      obtain ⟨rfl, rfl⟩ := hq
      have hg : (eqGuard .add t x y (.string a') (.string b')).run P w = .ok () w := by simp [eqGuard]
      simp [execOp, evalS_sound ha hsx, evalS_sound ha hsy, litOf_den hlx, litOf_den hly, hg, binOp_string_add, Op.stringOp]
      omega
    · cases hq
  · cases hq
def catI (P : Program) (ntm : Nat) (s : S) : Option (ByteArray × ByteArray) :=
  match s.head?, s.dstOk ntm with
  | some o, true => catQ P s.fr o
  | _, _ => none
theorem At.cat {s : S} (a b : ByteArray) (hq : catI P ntm s = some (a, b)) (hs : a.size + b.size ≤ 9223372036854775807) (hF : Stable F) (h : At P Q N w0 ntm F (s.tail ntm (.so (a ++ b)))) : At P Q N w0 ntm F s := by
  unfold catI at hq
  split at hq
  · rename_i o ho hd
    exact At.op hF o (.so (a ++ b)) ho hd (fun ρ act w hi _ => run_catQ hi.act hq hs w) h
  · cases hq
/-- A part of a text. -/
def sslQ (P : Program) (fr : Fr) (o : Oper) : Option (ByteArray × Int × Option Int) :=
  match o.op with
  | .slice t x (some lo) hi none => match P.underlying t, (evalS fr x).bind litOf, (evalS fr lo).bind litOf with
    | some .string, some (.string s, _), some (.int _ l, _) => match hi with
      | none => some (s, l, none)
      | some h => match (evalS fr h).bind litOf with
        | some (.int _ r, _) => some (s, l, some r)
        | _ => none
    | _, _, _ => none
  | _ => none
theorem run_sslQ {ρ : List Nat} {fr : Fr} {act : Act} (ha : AInv ntm ρ fr act) {o : Oper} {s : ByteArray} {l : Int} {r : Option Int} (hq : sslQ P fr o = some (s, l, r)) (h0 : 0 ≤ l) (h1 : l ≤ r.getD s.size) (h2 : r.getD s.size ≤ s.size) (w : World) :
    (execOp act.eval o).run P w = .ok (.value (.string (s.extract l.toNat (r.getD s.size).toNat))) w := by
  obtain ⟨dst, op, ty, pos, after, guard⟩ := o
  unfold sslQ at hq
  simp only at hq
  split at hq
  · rename_i t x lo hi
    split at hq
    · rename_i s' l1 k l' l2 hu hx hlo
      obtain ⟨sx, hsx, hlx⟩ := Option.bind_eq_some_iff.1 hx
      obtain ⟨sl, hsl, hll⟩ := Option.bind_eq_some_iff.1 hlo
      split at hq
      · simp only [Option.some.injEq, Prod.mk.injEq] at hq
        obtain ⟨rfl, rfl, rfl⟩ := hq
        simp only [Option.getD_none] at h1 h2 ⊢
        have hr := run_slice_string_l (P := P) w t s' hu k l' h0 h1
        simp [execOp, evalS_sound ha hsx, evalS_sound ha hsl, litOf_den hlx, litOf_den hll, run_sliceAt_string w t _ _ _ _ hu, hr]
      · rename_i h
        split at hq
        · rename_i k2 r' l3 hh
          obtain ⟨sh, hsh, hlh⟩ := Option.bind_eq_some_iff.1 hh
          simp only [Option.some.injEq, Prod.mk.injEq] at hq
          obtain ⟨rfl, rfl, rfl⟩ := hq
          simp only [Option.getD_some] at h1 h2 ⊢
          have hr : (Instr.slice t (.string s') (some (.int k l')) (some (.int k2 r')) none).run P w = .ok (.string (s'.extract l'.toNat r'.toNat)) w := by
            have eh : (r'.toNat : Int) = r' := Int.toNat_of_nonneg (by omega)
            simp [Instr.slice, run_underlying hu, Instr.sliceBounds, run_sliceBound, sliced, h0, h2, (by omega : 0 ≤ r'), eh, h1]
          simp [execOp, evalS_sound ha hsx, evalS_sound ha hsl, evalS_sound ha hsh, litOf_den hlx, litOf_den hll, litOf_den hlh, run_sliceAt_string w t _ _ _ _ hu, hr]
        · cases hq
    · cases hq
  · cases hq
def sslI (P : Program) (ntm : Nat) (s : S) : Option (ByteArray × Int × Option Int) :=
  match s.head?, s.dstOk ntm with
  | some o, true => sslQ P s.fr o
  | _, _ => none
theorem At.ssl {s : S} (x : ByteArray) (l : Int) (r : Option Int) (hq : sslI P ntm s = some (x, l, r)) (h0 : 0 ≤ l) (h1 : l ≤ r.getD x.size) (h2 : r.getD x.size ≤ x.size) (hF : Stable F) (h : At P Q N w0 ntm F (s.tail ntm (.so (x.extract l.toNat (r.getD x.size).toNat)))) : At P Q N w0 ntm F s := by
  unfold sslI at hq
  split at hq
  · rename_i o ho hd
    exact At.op hF o (.so (x.extract l.toNat (r.getD x.size).toNat)) ho hd (fun ρ act w hi _ => run_sslQ hi.act hq h0 h1 h2 w) h
  · cases hq
end
end Go.Sx
