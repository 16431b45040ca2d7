import Derived.Test.YtkjnbafdmjakgaaDoorSxQ
import Derived.Laws.BytesString
set_option linter.unusedSimpArgs false
set_option linter.unusedVariables false
namespace Go.Sx
open Go.RowKit
section
variable {P : Program} {Q : Exit → Act → World → Prop} {N : Nat} {w0 : World} {ntm : Nat} {F : List Nat → World → Prop}

/-- A call that is handed some of the local blocks and changes nothing else. -/
theorem At.lend {s : S} (g : FuncId) (vs : List SV) (is : List Nat) (rv : SV) (cl : Loc) (hF : Stable F)
    (hc : s.call? = some (g, vs)) (hb : bodied P g = true) (hd : s.dstOk ntm = true) (hp : s.plain = true)
    (hsc : scopedFr s.loc.length s.fr = true) (his : is.all (fun i => Nat.blt i s.loc.length) = true) (hcl : is.length = cl.length ∧ scopedLoc 0 cl = true)
    (hr : ∀ ρ w, WInv N w0 ρ s.loc w → F ρ w → Calls P g (SV.denL ρ vs).toArray w fun e' w' => e' = .returned (rv.den ρ) ∧ (∃ M, WInv M w (is.map (nth ρ)) cl w') ∧ Chg (fun k => k ∈ is.map (nth ρ)) w w')
    (h : At P Q N w0 ntm F ((s.tail ntm rv).withLoc (setL s.loc is cl))) : At P Q N w0 ntm F s := by
  refine At.callg (X := Unit) g vs (fun _ => rv) (fun _ => setL s.loc is cl) (fun _ => F) hc hb hd hp hsc ?_ (fun _ => h)
  intro ρ w hm hf
  have hlt : ∀ i ∈ is, i < ρ.length := fun i hi => by
    have := List.all_eq_true.1 his i hi
    rw [hm.len]; simpa using this
  have hmem : ∀ b ∈ is.map (nth ρ), b ∈ ρ := fun b hb => by
    obtain ⟨i, hi, rfl⟩ := List.mem_map.1 hb
    exact nth_mem (hlt i hi)
  refine (hr ρ w hm hf).mono ?_
  rintro e' w' ⟨rfl, ⟨M, km⟩, k⟩
  refine ⟨(), ρ, rfl, Grow.refl _ _, hm.step k (fun g _ hg => (hm.ge g (hmem g hg)).1) (setL_length _ _ _) (fun i d t hi => ?_), hF ρ w ρ w' (Grow.refl _ _) ⟨k.os, k.tape, k.output, k.size, fun b hb hn => k.block b hb fun hg => hn (hmem b hg)⟩ hf⟩
  rcases setL_get s.loc is _ hcl.1 hi with ⟨h1, h2⟩ | ⟨j, h1, h2⟩
  · have hil : i < ρ.length := by rw [hm.len]; exact (List.getElem?_eq_some_iff.1 h1).1
    refine hm.kept k h1 ?_
    intro hg
    obtain ⟨i', hi', he⟩ := List.mem_map.1 hg
    have := nth_inj hm.nodup (hlt i' hi') hil he
    exact h2 (this ▸ hi')
  · have h3 := km.cells j d t h2
    have hn : nth (is.map (nth ρ)) j = nth ρ i := by simp [nth, List.getD, h1]
    rw [hn] at h3
    rw [h3, denL_closed (scopedLoc_get hcl.2 h2)]

/-- A call that makes blocks and a row beside them, and else changes nothing. -/
theorem At.newrow {s : S} {base e size : Nat} (g : FuncId) (vs : List SV) (v : SV) (locc : Option Addr → Nat → Nat → Loc) (ok : Nat → Prop) (ρ0 : List Nat) (xs : List Value)
    (hc : s.call? = some (g, vs)) (hb : bodied P g = true) (hd : s.dstOk ntm = true) (hp : s.plain = true)
    (hsc : scopedFr s.loc.length s.fr = true) (hl : scopedLoc s.loc.length s.loc = true) (hv : v.shiftOk = true) (hcl : ∀ A n c, scopedLoc 0 (locc A n c) = true)
    (hF : ∀ ρ w, F ρ w → FrameR w0 ok ρ0 ρ w) (hbase : base ≤ w0.heap.size)
    (hr : ∀ ρ w, WInv N w0 ρ s.loc w → F ρ w → Calls P g (SV.denL ρ vs).toArray w fun e' w' => ∃ A' n' c' ρc, e' = .returned (v.den ρc) ∧ WInv w.heap.size w ρc (locc A' n' c') w' ∧ RowF w (fun _ => False) [] w.heap.size e size A' n' c' xs ρc w')
    (h : ∀ A' n' c', At P Q N w0 ntm (RowF w0 ok ρ0 base e size A' n' c' xs) ((s.tail ntm (v.shift s.loc.length)).withLoc (s.loc ++ locc A' n' c'))) : At P Q N w0 ntm F s := by
  refine At.callg (X := Option Addr × Nat × Nat) g vs (fun _ => v.shift s.loc.length) (fun x => s.loc ++ locc x.1 x.2.1 x.2.2) (fun x => RowF w0 ok ρ0 base e size x.1 x.2.1 x.2.2 xs) hc hb hd hp hsc ?_ (fun x => h x.1 x.2.1 x.2.2)
  intro ρ w hm hf
  have hfr := hF ρ w hf
  refine (hr ρ w hm hf).mono ?_
  rintro e' w' ⟨A', n', c', ρc, rfl, km, k⟩
  have hsz := hfr.1.size
  have hblk : ∀ k, k < w.heap.size → w'.heap[k]? = w.heap[k]? := km.below.block
  have hgrow : Grow w.heap.size ρ (ρ ++ ρc) := ⟨ρc, rfl, fun x hx => (km.ge x hx).1⟩
  have hlen := hm.len
  refine ⟨(A', n', c'), ρ ++ ρc, by rw [SV.shift_den hm.len hv], hgrow, ⟨hm.below.trans (km.below.mono hm.hN), Nat.le_trans hm.hN km.below.size, by simp [hm.len, km.len], ?_, ?_, ?_⟩,
    ⟨⟨ownsRow_mono k.1.1.1 (by omega), fun g hg hm' => ?_⟩, by have := k.2.1.1.size; omega⟩,
    FrameR.stable ρ w (ρ ++ ρc) w' hgrow ⟨km.below.os, km.below.tape, km.below.output, km.below.size, fun k hk _ => hblk k hk⟩ hfr, fun g hg => ?_⟩
  · rw [List.nodup_append]
    refine ⟨hm.nodup, km.nodup, fun x hx y hy => ?_⟩
    have := (hm.ge x hx).2
    have := (km.ge y hy).1
    omega
  · intro b hb
    rcases List.mem_append.1 hb with hb | hb
    · exact ⟨(hm.ge b hb).1, Nat.lt_of_lt_of_le (hm.ge b hb).2 km.below.size⟩
    · exact ⟨Nat.le_trans hm.hN (km.ge b hb).1, (km.ge b hb).2⟩
  · intro i c t hi
    by_cases hlt : i < s.loc.length
    · rw [List.getElem?_append_left hlt] at hi
      have hold := hm.cells i c t hi
      have hs := scopedLoc_get hl hi
      have hn : nth (ρ ++ ρc) i = nth ρ i := by simp only [nth, List.getD]; rw [List.getElem?_append_left (by omega)]
      have hden : SV.denL (ρ ++ ρc) c = SV.denL ρ c := by
        rw [← SV.denL_take (ρ ++ ρc) s.loc.length c hs, ← hlen]
        simp
      rw [hn, hden, hblk _ (Array.getElem?_eq_some_iff.1 hold).1]
      exact hold
    · rw [List.getElem?_append_right (by omega)] at hi
      have hn : nth (ρ ++ ρc) i = nth ρc (i - s.loc.length) := by
        simp only [nth, List.getD]
        rw [List.getElem?_append_right (by omega), hlen]
      rw [hn, denL_closed (ρ' := ρc) (scopedLoc_get (hcl _ _ _) hi)]
      exact km.cells _ c t hi
  · rcases List.mem_append.1 hm' with hm' | hm'
    · have := (k.1.1.1.lt g hg).1
      have := (hm.ge g hm').2
      omega
    · exact k.1.1.2 g hg hm'
  · have := (k.1.1.1.lt g hg).1
    exact .inr (by omega)

/-! ### bytes as a string -/
/-- The string of bytes. -/
def strOf (bs : List Nat) : ByteArray := (bs.map fun b : Nat => ((b : Nat) : Int)).foldl (fun r n => r.push (UInt8.ofNat n.toNat)) ByteArray.empty
def cvQ (P : Program) (fr : Fr) (o : Oper) : Option (Option Addr × Nat × Nat) :=
  match o.op with
  | .convert src dst x => match P.underlying src, P.underlying dst, evalS fr x with
    | some (.slice e), some .string, some (.sl a n c) => match P.underlying e with
      | some (.int .u8) => some (a, n, c)
      | _ => none
    | _, _, _ => none
  | _ => none
theorem run_cvQ {ρ : List Nat} {fr : Fr} {act : Act} (ha : AInv ntm ρ fr act) {o : Oper} {A : Option Addr} {n c : Nat} {w : World} (bs : List Nat) (h : cvQ P fr o = some (A, n, c)) (hn : bs.length = n)
    (hc : ∀ a, A = some a → ∀ (j b : Nat), bs[j]? = some b → w.cell? (a.add j) = some (.int .u8 (b : Int))) (h0 : A = none → bs = []) :
    (execOp act.eval o).run P w = .ok (.value (.string (strOf bs))) w := by
  obtain ⟨dst, op, ty, pos, after, guard⟩ := o
  unfold cvQ at h
  simp only at h
  split at h
  · rename_i src dst x
    split at h
    · rename_i e a' n' c' hs hd hx
      split at h
      · rename_i he
        simp only [Option.some.injEq, Prod.mk.injEq] at h
        obtain ⟨rfl, rfl, rfl⟩ := h
        have hk := run_convert_bytes_string w src dst e a' n' c' hs he hd
        have hr : (convert src dst (.slice a' n' c')).run P w = .ok (.string (strOf bs)) w := by
          rw [hk]
          cases a' with
          | none =>
            rw [h0 rfl]
            rfl
          | some a =>
            subst hn
            exact run_bytesToString w a bs.length c' (bs.map fun b : Nat => ((b : Nat) : Int)) (by
              have := run_loadCells_list (P := P) w a (bs.map fun b : Nat => Value.int .u8 ((b : Nat) : Int)) (fun j v hj => by
                simp only [List.getElem?_map, Option.map_eq_some_iff] at hj
                obtain ⟨b, hb, rfl⟩ := hj
                exact hc a rfl j b hb)
              simp only [List.length_map] at this
              rw [this, List.map_map]
              rfl)
        simp [execOp, evalS_sound ha hx, SV.den, hr]
      · cases h
    · cases h
  · cases h
def cvI (P : Program) (ntm : Nat) (s : S) : Option (Option Addr × Nat × Nat) :=
  match s.head?, s.dstOk ntm with
  | some o, true => cvQ P s.fr o
  | _, _ => none
/-- The bytes of a row that lies outside, as a string. -/
theorem At.cvx {s : S} (A : Option Addr) (n c : Nat) (bs : List Nat) (r : SV) (hq : cvI P ntm s = some (A, n, c)) (hF : Stable F) (hn : bs.length = n) (hr : ∀ ρ, r.den ρ = .string (strOf bs)) (h0 : A = none → bs = [])
    (hc : ∀ ρ w, WInv N w0 ρ s.loc w → F ρ w → ∀ a, A = some a → ∀ (j b : Nat), bs[j]? = some b → w.cell? (a.add j) = some (.int .u8 (b : Int)))
    (h : At P Q N w0 ntm F (s.tail ntm r)) : At P Q N w0 ntm F s := by
  unfold cvI at hq
  split at hq
  · rename_i o ho hd
    exact At.op hF o r ho hd (fun ρ act w hi hf => by rw [hr]; exact run_cvQ hi.act bs hq hn (hc ρ w hi.mem hf) h0) h
  · cases hq
end
end Go.Sx
