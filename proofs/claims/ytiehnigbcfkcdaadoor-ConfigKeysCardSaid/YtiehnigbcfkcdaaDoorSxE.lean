import Derived.Test.YtiehnigbcfkcdaaDoorSxD
set_option linter.unusedSimpArgs false
set_option linter.unusedVariables false
namespace Go.Sx
open Go.RowKit
section
variable {P : Program}

def evalL (fr : Fr) : List Operand → Option (List SV)
  | [] => some []
  | o :: l => match evalS fr o, evalL fr l with
    | some s, some r => some (s :: r)
    | _, _ => none
theorem evalL_sound {ntm : Nat} {ρ : List Nat} {fr : Fr} {a : Act} (h : AInv ntm ρ fr a) : ∀ {l : List Operand} {r : List SV}, evalL fr l = some r → l.map a.eval = SV.denL ρ r
  | [], r, he => by simp only [evalL, Option.some.injEq] at he; subst he; rfl
  | o :: l, r, he => by
    simp only [evalL] at he
    split at he
    · rename_i s r' h1 h2
      simp only [Option.some.injEq] at he
      subst he
      simp [SV.denL, evalS_sound h h1, evalL_sound h h2]
    · cases he
def evalP (fr : Fr) : List (Nat × Operand) → Option (List (Nat × SV))
  | [] => some []
  | (i, o) :: l => match evalS fr o, evalP fr l with
    | some s, some r => some ((i, s) :: r)
    | _, _ => none
theorem evalP_sound {ntm : Nat} {ρ : List Nat} {fr : Fr} {a : Act} (h : AInv ntm ρ fr a) : ∀ {l : List (Nat × Operand)} {r : List (Nat × SV)}, evalP fr l = some r →
    (l.map fun x => (x.1, a.eval x.2)) = r.map fun x => (x.1, x.2.den ρ)
  | [], r, he => by simp only [evalP, Option.some.injEq] at he; subst he; rfl
  | (i, o) :: l, r, he => by
    simp only [evalP] at he
    split at he
    · rename_i s r' h1 h2
      simp only [Option.some.injEq] at he
      subst he
      simp [evalS_sound h h1, evalP_sound h h2]
    · cases he

def indexS (P : Program) (t : TypeId) (sx si : SV) : Option SV :=
  match P.underlying t, sx, si with
  | some (.array len e), .agg l, .v (.int _ n) => match decide (0 ≤ n ∧ n < len), sizeT P e with
    | true, some k => partS P e l (n.toNat * k)
    | _, _ => none
  | _, _, _ => none
def indexAddrS (P : Program) (t : TypeId) (sx si : SV) : Option SV :=
  match P.underlying t, sx, si with
  | some (.array len e), .lp i off, .v (.int _ n) => match decide (0 ≤ n ∧ n < len), sizeT P e with
    | true, some k => some (.lp i (off + n.toNat * k))
    | _, _ => none
  | some (.slice e), .ls i off len _, .v (.int _ n) => match decide (0 ≤ n ∧ n < len), sizeT P e with
    | true, some k => some (.lp i (off + n.toNat * k))
    | _, _ => none
  | _, _, _ => none
def lenS (P : Program) (t : TypeId) (s : SV) : Option SV :=
  match P.underlying t, s with
  | some .string, .v (.string x) => some (.v (.int .i64 x.size))
  | some .string, .so x => some (.io .i64 x.size)
  | some (.array n _), _ => some (.v (.int .i64 n))
  | some (.slice _), .sl _ n _ => some (.io .i64 n)
  | some (.slice _), .v (.slice _ n _) => some (.v (.int .i64 n))
  | some (.slice _), .ls _ _ n _ => some (.v (.int .i64 n))
  | _, _ => none
def unS (op : UnOp) (s : SV) : Option SV :=
  match op, litOf s with
  | .not, some (.bool b, l) => some (mkR l (.bool (!b)))
  | .neg, some (.int k n, l) => some (mkR l (.int k (k.wrap (0 - n))))
  | _, _ => none
def eqAgg (P : Program) (t : TypeId) (neg : Bool) (l r : List SV) : Option SV :=
  match P.eqGuardType P.depth t, eqS P 20 t (.agg l) (.agg r) with
  | false, some (b, lit) => match neg with
    | true => some (mkR lit (.bool (!b)))
    | false => some (mkR lit (.bool b))
  | _, _ => none
def binOpS (P : Program) (op : BinOp) (t : TypeId) (sx sy : SV) : Option SV :=
  match op, sx, sy with
  | .eql, .agg l, .agg r => eqAgg P t false l r
  | .neq, .agg l, .agg r => eqAgg P t true l r
  | _, _, _ => match sx.calm with
    | true => binS P op t sx sy
    | false => none

/-- The operations that leave the world alone. -/
def pureOp (P : Program) (loc : Loc) (fr : Fr) : Op → Option SV
  | .move x => evalS fr x
  | .assign x => evalS fr x
  | .pick c a b => match evalS fr c with
    | some (.v (.bool true)) => evalS fr a
    | some (.v (.bool false)) => evalS fr b
    | _ => none
  | .load t x => match evalS fr x with
    | some (.lp i off) => loadS P loc t i off
    | _ => none
  | .nilCheck x => match evalS fr x with
    | some (.lp i off) => some (.lp i off)
    | some (.fn (.func f) cs) => some (.fn (.func f) cs)
    | _ => none
  | .binOp op t x y _ => match evalS fr x, evalS fr y with
    | some sx, some sy => binOpS P op t sx sy
    | _, _ => none
  | .unOp op _ x => match evalS fr x with
    | some s => unS op s
    | _ => none
  | .convert src dst x => match P.underlying src, P.underlying dst, (evalS fr x).bind litOf with
    | some _, some (.int k), some (.int _ n, l) => some (mkR l (.int k (k.wrap n)))
    | _, _, _ => none
  | .fieldAddr s x f => match P.underlying s, evalS fr x with
    | some (.struct fs), some (.lp i off) => match fs[f]? with
      | some fd => match sizeT P fd.type with
        | some 0 => none
        | some (_ + 1) => some (.lp i (off + fd.offset))
        | none => none
      | none => none
    | _, _ => none
  | .field t x f => match P.underlying t, evalS fr x with
    | some (.struct fs), some (.agg l) => match fs[f]? with
      | some fd => partS P fd.type l fd.offset
      | none => none
    | _, _ => none
  | .indexAddr t x ix => match evalS fr x, evalS fr ix with
    | some sx, some si => indexAddrS P t sx si
    | _, _ => none
  | .index t x ix => match evalS fr x, evalS fr ix with
    | some sx, some si => indexS P t sx si
    | _, _ => none
  | .extract x k => match evalS fr x with
    | some (.tup l) => l[k]?
    | _ => none
  | .makeFunc f first caps => match first.size, evalL fr caps.toList with
    | 0, some cs => some (.fn f cs)
    | _, _ => none
  | .build t parts => match evalP fr parts.toList with
    | some ps => (builtS P t ps).map .agg
    | none => none
  | .call { callee := .builtin .len, args := ⟨[x]⟩, argTypes := ⟨[t]⟩ } => match evalS fr x with
    | some s => lenS P t s
    | none => none
  | _ => none

theorem run_unS {ρ : List Nat} {op : UnOp} {s r : SV} (h : unS op s = some r) (w : World) : (Op.unary op (s.den ρ)).run P w = .ok (r.den ρ) w := by
  unfold unS at h
  split at h
  · rename_i b l hl
    simp only [Option.some.injEq] at h
    rw [litOf_den hl, ← h, mkR_den]; rfl
  · rename_i k n l hl
    simp only [Option.some.injEq] at h
    rw [litOf_den hl, ← h, mkR_den]; rfl
  · cases h
theorem run_binOpS {ρ : List Nat} {op : BinOp} {t : TypeId} {sx sy r : SV} (h : binOpS P op t sx sy = some r) (x y : Operand) (w : World) :
    ((do eqGuard op t x y (sx.den ρ) (sy.den ρ); binOp op t (sx.den ρ) (sy.den ρ)) : Sem Value).run P w = .ok (r.den ρ) w := by
  have hagg : ∀ (neg : Bool) (l l' : List SV), eqAgg P t neg l l' = some r →
      (eqGuard op t x y (SV.den ρ (.agg l)) (SV.den ρ (.agg l'))).run P w = .ok () w ∧ ∃ b, (Op.equalIn 10000 t (SV.den ρ (.agg l)) (SV.den ρ (.agg l'))).run P w = .ok b w ∧ r.den ρ = .bool (match neg with | true => !b | false => b) := by
    intro neg l l' hh
    unfold eqAgg at hh
    split at hh
    · rename_i b lit hg he
      cases neg <;> (
        simp only [Option.some.injEq] at hh
        exact ⟨by simpa [SV.den] using run_eqGuard_agg (P := P) w op t x y _ _ hg, b, run_eqS w 20 10000 he (by omega), by rw [← hh, mkR_den]⟩)
    · cases hh
  unfold binOpS at h
  split at h
  · rename_i l l'
    obtain ⟨h1, b, h2, h3⟩ := hagg _ _ _ h
    simp only [Sem.run_bind, h1, Result.andThen_ok, h3]
    simp only [SV.den] at h2 ⊢
    rw [run_eql_struct, h2]; rfl
  · rename_i l l'
    obtain ⟨h1, b, h2, h3⟩ := hagg _ _ _ h
    simp only [Sem.run_bind, h1, Result.andThen_ok, h3]
    simp only [SV.den] at h2 ⊢
    rw [run_neq_struct, h2]; rfl
  · split at h
    · rename_i hc
      simp only [Sem.run_bind, run_eqGuard_calm hc, Result.andThen_ok, run_binS h]
    · cases h
theorem run_indexS {ρ : List Nat} {t : TypeId} {sx si r : SV} (h : indexS P t sx si = some r) (w : World) : (Instr.index t (sx.den ρ) (si.den ρ)).run P w = .ok (r.den ρ) w := by
  unfold indexS at h
  split at h
  · rename_i len e l k n hu
    split at h
    · rename_i m hd hs
      have hd' : 0 ≤ n ∧ n < (len : Int) := by simpa using hd
      simp only [SV.den, Instr.index, asIntOf, Sem.run_bind, Sem.run_pure, Result.andThen_ok, run_underlying hu, if_pos hd', run_sizeT hs, run_partS h]
    · cases h
  · cases h
theorem run_indexAddrS {ρ : List Nat} {t : TypeId} {sx si r : SV} (h : indexAddrS P t sx si = some r) (w : World) : (Instr.indexAt t (sx.den ρ) (si.den ρ)).run P w = .ok (r.den ρ) w := by
  unfold indexAddrS at h
  split at h
  · rename_i len e i off k n hu
    split at h
    · rename_i m hd hs
      have hd' : 0 ≤ n ∧ n < (len : Int) := by simpa using hd
      simp only [Option.some.injEq] at h
      simp [← h, SV.den, Instr.indexAt, asIntOf, run_underlying hu, hd', run_sizeT hs, Instr.sureAddr, add_ok]
    · cases h
  · rename_i e i off len c k n hu
    split at h
    · rename_i m hd hs
      have hd' : 0 ≤ n ∧ n < (len : Int) := by simpa using hd
      simp only [Option.some.injEq] at h
      simp [← h, SV.den, Instr.indexAt, asIntOf, run_underlying hu, hd', run_sizeT hs, add_ok]
    · cases h
  · cases h
theorem run_lenS {ρ : List Nat} {t ty : TypeId} {s r : SV} (h : lenS P t s = some r) (w : World) : (Builtin.len_ #[t] ty #[s.den ρ]).run P w = .ok (r.den ρ) w := by
  unfold lenS at h
  split at h <;> first
    | cases h; done
    | (rename_i hu; simp only [Option.some.injEq] at h; subst h; simp [Builtin.len_, run_underlying hu, SV.den, goInt])

theorem run_pureOp {N ntm : Nat} {w0 w : World} {ρ : List Nat} {loc : Loc} {fr : Fr} {a : Act} (ha : AInv ntm ρ fr a) {o : Oper} (hw : (∃ t x, o.op = .load t x) → WInv N w0 ρ loc w) {s : SV}
    (h : pureOp P loc fr o.op = some s) : (execOp a.eval o).run P w = .ok (.value (s.den ρ)) w := by
  obtain ⟨dst, op, ty, pos, after, guard⟩ := o
  simp only at h
  unfold pureOp at h
  unfold execOp
  split at h
  · simp [evalS_sound ha h]
  · simp [evalS_sound ha h]
  · split at h
    · rename_i hc; simp [evalS_sound ha hc, evalS_sound ha h, SV.den, asBool]
    · rename_i hc; simp [evalS_sound ha hc, evalS_sound ha h, SV.den, asBool]
    · cases h
  · split at h
    · rename_i i off he
      simp [evalS_sound ha he, SV.den, Instr.loadAt, Instr.sureAddr, run_loadS (hw ⟨_, _, rfl⟩) h]
    · cases h
  · split at h
    · rename_i i off he
      simp only [Option.some.injEq] at h
      simp [evalS_sound ha he, ← h, SV.den]
    · rename_i f cs he
      simp only [Option.some.injEq] at h
      simp [evalS_sound ha he, ← h, SV.den]
    · cases h
  · split at h
    · rename_i sx sy hx hy
      have := run_binOpS (ρ := ρ) h
      simp only [evalS_sound ha hx, evalS_sound ha hy, Sem.run_bind] at this ⊢
      simp [this]
    · cases h
  · split at h
    · rename_i sx hx
      simp [evalS_sound ha hx, run_unS h]
    · cases h
  · split at h
    · rename_i d0 k k' n l h1 h2 h3
      obtain ⟨sx, hx, hl⟩ := Option.bind_eq_some_iff.1 h3
      simp only [Option.some.injEq] at h
      rw [← h, mkR_den]
      simp [evalS_sound ha hx, litOf_den hl, convert, run_underlying h1, run_underlying h2, Conv.intToInt]
    · cases h
  · split at h
    · rename_i fs i off hu hx
      split at h
      · rename_i fd hf
        split at h
        · cases h
        · rename_i m hs
          simp only [Option.some.injEq] at h
          simp [evalS_sound ha hx, ← h, SV.den, Instr.fieldAt, run_underlying hu, hf, Instr.sureAddr, fieldPlace, run_sizeT hs, add_ok]
        · cases h
      · cases h
    · cases h
  · split at h
    · rename_i fs l hu hx
      split at h
      · rename_i fd hf
        simp [evalS_sound ha hx, SV.den, Instr.field, run_underlying hu, hf, asAgg, run_partS h]
      · cases h
    · cases h
  · split at h
    · rename_i sx si hx hi
      simp [evalS_sound ha hx, evalS_sound ha hi, run_indexAddrS h]
    · cases h
  · split at h
    · rename_i sx si hx hi
      simp [evalS_sound ha hx, evalS_sound ha hi, run_indexS h]
    · cases h
  · split at h
    · rename_i l hx
      simp [evalS_sound ha hx, SV.den, Instr.extract, SV.denL_eq, h]
    · cases h
  · rename_i f first caps
    split at h
    · rename_i cs h1 h2
      simp only [Option.some.injEq] at h
      have e1 : first = #[] := Array.eq_empty_of_size_eq_zero h1
      have e2 := evalL_sound ha h2
      subst e1
      have e3 : caps.map a.eval = (SV.denL ρ cs).toArray := Array.ext' (by rw [← e2]; simp)
      simp [← h, SV.den, Instr.makeFunc, e3]
    · cases h
  · rename_i t parts
    split at h
    · rename_i ps h1
      obtain ⟨l, hl, hs⟩ := Option.map_eq_some_iff.1 h
      have e := evalP_sound ha h1
      have hb := builtS_den (ρ := ρ) hl
      rw [← e] at hb
      have hr := run_build (P := P) w t (parts.map fun x => (x.1, a.eval x.2)) _ (by simpa using hb)
      simp [← hs, SV.den, hr]
    · cases h
  · split at h
    · rename_i s0 hx
      simp [resolve, invoke, builtin, evalS_sound ha hx, run_lenS h]
    · cases h
  · cases h
end
end Go.Sx
