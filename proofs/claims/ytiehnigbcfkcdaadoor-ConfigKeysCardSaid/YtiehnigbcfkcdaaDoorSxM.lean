import Derived.Test.YtiehnigbcfkcdaaDoorSxL
set_option linter.unusedSimpArgs false
set_option linter.unusedVariables false
namespace Go.Sx
open Go.RowKit
section
variable {P : Program} {Q : Exit → Act → World → Prop} {N : Nat} {w0 : World} {ntm : Nat} {F : List Nat → World → Prop}

structure AppQ where
  t : TypeId
  e : TypeId
  size : Nat
  bytes : Nat
  A : Option Addr
  n : Nat
  c : Nat
  m : Nat
  nl : List SV
/-- What an append to a row of one's own, from a local row, is about. -/
def appQ (P : Program) (ntm : Nat) (s : S) : Option (Oper × AppQ × Nat × Nat × Nat × List SV × TypeId) :=
  match s.head? with
  | some o => match appS s.fr o with
    | some (t, .sl A n c, .ls i off m k) => match elemT P t, s.loc[i]? with
      | some (e, size, bytes), some (cells, ct) => match s.plain && (Nat.ble (off + m * size) cells.length && oneL ((cells.drop off).take (m * size))) && s.dstOk ntm with
        | true => some (o, ⟨t, e, size, bytes, A, n, c, m, (cells.drop off).take (m * size)⟩, i, off, k, cells, ct)
        | false => none
      | _, _ => none
    | _ => none
  | none => none
def appI (P : Program) (ntm : Nat) (s : S) : Option AppQ := (appQ P ntm s).map (·.2.1)
theorem At.appq {s : S} (q : AppQ) (ok : Nat → Prop) (ρ0 : List Nat) (base : Nat) (xs news : List Value) (hq : appI P ntm s = some q) (hnews : ∀ ρ, SV.denL ρ q.nl = news)
    (hbytes : (q.n + q.m) * q.bytes ≤ 140737488355328) (h63 : q.n + q.m ≤ maxLen) (hN : N ≤ base)
    (h : ∀ (A' : Option Addr) (c' : Nat), At P Q N w0 ntm (RowF w0 ok ρ0 base q.e q.size A' (q.n + q.m) c' (xs ++ news)) (s.tail ntm (.sl A' (q.n + q.m) c'))) : At P Q N w0 ntm (RowF w0 ok ρ0 base q.e q.size q.A q.n q.c xs) s := by
  unfold appI at hq
  obtain ⟨⟨o, q', i, off, k, cells, ct⟩, h1, h2⟩ := Option.map_eq_some_iff.1 hq
  simp only at h2
  subst h2
  unfold appQ at h1
  split at h1
  · rename_i o' ho
    split at h1
    · rename_i t A n c i' off' m k' ha
      split at h1
      · rename_i e size bytes cells' ct' ht hl
        split at h1
        · rename_i hb
          simp only [Option.some.injEq, Prod.mk.injEq] at h1
          obtain ⟨rfl, rfl, rfl, rfl, rfl, rfl, rfl⟩ := h1
          simp only [Bool.and_eq_true] at hb
          exact At.appendF ok ρ0 _ t e size bytes base A n c xs _ _ m _ _ _ news ho hb.2 hb.1.1 ha ht hl hb.1.2.1 hb.1.2.2 hnews hbytes h63 hN h
        · cases h1
      · cases h1
    · cases h1
  · cases h1
theorem At.app {s : S} (t e size bytes : Nat) (A : Option Addr) (n c m : Nat) (nl : List SV) (ok : Nat → Prop) (ρ0 : List Nat) (base : Nat) (xs news : List Value) (hq : appI P ntm s = some ⟨t, e, size, bytes, A, n, c, m, nl⟩) (hnews : ∀ ρ, SV.denL ρ nl = news)
    (hbytes : (n + m) * bytes ≤ 140737488355328) (h63 : n + m ≤ maxLen) (hN : N ≤ base)
    (h : ∀ (A' : Option Addr) (c' : Nat), At P Q N w0 ntm (RowF w0 ok ρ0 base e size A' (n + m) c' (xs ++ news)) (s.tail ntm (.sl A' (n + m) c'))) : At P Q N w0 ntm (RowF w0 ok ρ0 base e size A n c xs) s :=
  At.appq ⟨t, e, size, bytes, A, n, c, m, nl⟩ ok ρ0 base xs news hq hnews hbytes h63 hN h
end
end Go.Sx
