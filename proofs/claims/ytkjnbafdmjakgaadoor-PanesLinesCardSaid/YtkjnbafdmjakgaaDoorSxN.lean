import Derived.Test.YtkjnbafdmjakgaaDoorSxM
set_option linter.unusedSimpArgs false
set_option linter.unusedVariables false
namespace Go.Sx
open Go.RowKit
section
variable {P : Program} {Q : Exit → Act → World → Prop} {N : Nat} {w0 : World} {ntm : Nat} {F : List Nat → World → Prop}

/-- The beginning, where some blocks came in that may be read and written. -/
theorem enterG {f : FuncId} {fn : Func} {c : Code} {R : Ending → World → Prop} (sargs : List SV) (ρ0 : List Nat) (loc0 : Loc) (hf : P.funcs[f]? = some fn) (hb : fn.body = some c) (hle : Nat.ble sargs.length fn.ntmps = true)
    (hm : WInv N w0 ρ0 loc0 w0) (hF : F ρ0 w0) (h : At P (bodyPost P fn R) N w0 fn.ntmps F ⟨.code c, [], frOf 0 sargs, loc0⟩) : Calls P f (SV.denL ρ0 sargs).toArray w0 R := by
  refine calls_of_wp hf hb (h ρ0 _ w0 ⟨⟨rfl, ?_, ?_⟩, hm⟩ hF)
  · have := Nat.le_of_ble_eq_true hle
    simp [SV.denL_eq]; omega
  · intro t s hs
    have := look_frOf (ρ := ρ0) (pre := []) (rest := List.replicate (fn.ntmps - sargs.length) undef) rfl hs
    rw [← Array.getElem?_toList]
    simpa [SV.denL_eq] using this

theorem WInv.start1 {p : Nat} {c : List SV} {t : TypeId} (hN : N ≤ p) (h : w0.heap[p]? = some (.cells (SV.denL [p] c).toArray t)) : WInv N w0 [p] [(c, t)] w0 := by
  have hp := (Array.getElem?_eq_some_iff.1 h).1
  refine ⟨Below.refl _ _, by omega, rfl, by simp, fun b hb => ?_, fun i c' t' hi => ?_⟩
  · simp at hb; subst hb; exact ⟨hN, hp⟩
  · cases i with
    | zero => simp at hi; obtain ⟨rfl, rfl⟩ := hi; simpa [nth] using h
    | succ i => simp at hi
theorem WInv.start2 {p q : Nat} {c d : List SV} {t u : TypeId} (hpq : p ≠ q) (hN : N ≤ p) (hN' : N ≤ q) (h : w0.heap[p]? = some (.cells (SV.denL [p, q] c).toArray t)) (h' : w0.heap[q]? = some (.cells (SV.denL [p, q] d).toArray u)) :
    WInv N w0 [p, q] [(c, t), (d, u)] w0 := by
  have hp := (Array.getElem?_eq_some_iff.1 h).1
  have hq := (Array.getElem?_eq_some_iff.1 h').1
  refine ⟨Below.refl _ _, by omega, rfl, by simpa using hpq, fun b hb => ?_, fun i c' t' hi => ?_⟩
  · simp at hb
    rcases hb with rfl | rfl
    · exact ⟨hN, hp⟩
    · exact ⟨hN', hq⟩
  · match i with
    | 0 => simp at hi; obtain ⟨rfl, rfl⟩ := hi; simpa [nth] using h
    | 1 => simp at hi; obtain ⟨rfl, rfl⟩ := hi; simpa [nth] using h'
    | i + 2 => simp at hi

theorem WInv.step {ok : Nat → Prop} {ρ : List Nat} {loc loc' : Loc} {w1 w2 : World} (h : WInv N w0 ρ loc w1) (hc : Chg ok w1 w2) (hok : ∀ g, g < w1.heap.size → ok g → N ≤ g) (hl : loc'.length = loc.length)
    (hcells : ∀ i c t, loc'[i]? = some (c, t) → w2.heap[nth ρ i]? = some (.cells (SV.denL ρ c).toArray t)) : WInv N w0 ρ loc' w2 :=
  ⟨h.below.trans (hc.below h.hN fun k hk ho => by have := hok k (Nat.lt_of_lt_of_le hk h.hN) ho; omega), Nat.le_trans h.hN hc.size, h.len.trans hl.symm, h.nodup, fun b hb => ⟨(h.ge b hb).1, Nat.lt_of_lt_of_le (h.ge b hb).2 hc.size⟩, hcells⟩
theorem nth_mem {ρ : List Nat} {i : Nat} (h : i < ρ.length) : nth ρ i ∈ ρ := by simp [nth, List.getD, h]
/-- A block that the change does not reach stays. -/
theorem WInv.kept {ok : Nat → Prop} {ρ : List Nat} {loc : Loc} {w1 w2 : World} (h : WInv N w0 ρ loc w1) (hc : Chg ok w1 w2) {i : Nat} {c : List SV} {t : TypeId} (hi : loc[i]? = some (c, t)) (hn : ¬ ok (nth ρ i)) : w2.heap[nth ρ i]? = some (.cells (SV.denL ρ c).toArray t) := by
  have hold := h.cells i c t hi
  rw [hc.block _ (Array.getElem?_eq_some_iff.1 hold).1 hn]
  exact hold

theorem RowF.step {ok okc : Nat → Prop} {ρ0 ρ ρc : List Nat} {base e size : Nat} {A A' : Option Addr} {n c n' c' : Nat} {xs ys : List Value} {loc : Loc} {w1 w2 : World} (hm : WInv N w0 ρ loc w1) (h : RowF w0 ok ρ0 base e size A n c xs ρ w1) (k : RowF w1 okc ρc base e size A' n' c' ys ρc w2)
    (hok : ∀ g, okc g → some g = (Value.slice A n c).ownBlock ∨ g ∈ ρc) (hρ : ∀ g ∈ ρc, ok g ∨ w0.heap.size ≤ g) : RowF w0 ok ρ0 base e size A' n' c' ys ρ w2 := by
  have hlift : ∀ g, okc g → ok g ∨ w0.heap.size ≤ g := fun g hg => (hok g hg).elim (fun e => h.2.2 g e.symm) (hρ g)
  refine ⟨⟨⟨k.1.1.1, fun g hg hm' => ?_⟩, k.1.2⟩, h.2.1.chg k.2.1.1 (fun g _ hg => hlift g hg), fun g hg => ?_⟩
  · rcases k.2.2 g hg with h1 | h1
    · rcases hok g h1 with h2 | h2
      · exact h.1.1.2 g h2.symm hm'
      · exact k.1.1.2 g hg h2
    · have := (hm.ge g hm').2; omega
  · rcases k.2.2 g hg with h1 | h1
    · exact hlift g h1
    · have := h.2.1.1.size; exact .inr (by omega)

theorem RowF.here {ok : Nat → Prop} {ρ0 ρ : List Nat} {base e size : Nat} {A : Option Addr} {n c : Nat} {xs : List Value} {loc : Loc} {w : World} (h : RowF w0 ok ρ0 base e size A n c xs ρ w) (hm : WInv N w0 ρ loc w) (hl : loc.length = ρ0.length) : ρ = ρ0 := by
  have h3 := h.2.1.2.2
  rw [← hl, ← hm.len, List.take_length] at h3
  exact h3
theorem tail_withLoc {s : S} {v : SV} : (s.tail ntm v).withLoc s.loc = s.tail ntm v := by
  obtain ⟨pc, ks, fr, loc⟩ := s
  unfold S.tail S.withLoc
  split <;> (try split) <;> rfl
/-- A call that makes of a row of one's own another one, and else changes nothing. -/
theorem At.rowcall {s : S} {ok : Nat → Prop} {ρ0 : List Nat} {base e size : Nat} {A : Option Addr} {n c : Nat} {xs : List Value} (g : FuncId) (vs : List SV) (ys : List Value) (hc : s.call? = some (g, vs)) (hb : bodied P g = true) (hd : s.dstOk ntm = true) (hp : s.plain = true)
    (hsc : scopedFr s.loc.length s.fr = true) (hN : N ≤ base)
    (hr : ∀ ρ w, WInv N w0 ρ s.loc w → RowF w0 ok ρ0 base e size A n c xs ρ w → Calls P g (SV.denL ρ vs).toArray w fun e' w' => ∃ A' n' c', e' = .returned (.slice A' n' c') ∧ RowF w (fun k => some k = (Value.slice A n c).ownBlock) [] base e size A' n' c' ys [] w')
    (h : ∀ A' n' c', At P Q N w0 ntm (RowF w0 ok ρ0 base e size A' n' c' ys) (s.tail ntm (.sl A' n' c'))) : At P Q N w0 ntm (RowF w0 ok ρ0 base e size A n c xs) s := by
  refine At.callg (X := Option Addr × Nat × Nat) g vs (fun x => .sl x.1 x.2.1 x.2.2) (fun _ => s.loc) (fun x => RowF w0 ok ρ0 base e size x.1 x.2.1 x.2.2 ys) hc hb hd hp hsc ?_ (fun x => ?_)
  · intro ρ w hm hf
    refine (hr ρ w hm hf).mono ?_
    rintro e' w' ⟨A', n', c', rfl, k⟩
    have hrow := hf.1.1
    refine ⟨(A', n', c'), ρ, rfl, Grow.refl _ _, hm.step k.2.1.1 (fun g _ hg => Nat.le_trans hN (hrow.1.lt g hg.symm).1) rfl (fun i c t hi => hm.kept k.2.1.1 hi fun hg => ?_), hf.step hm k (fun g hg => .inl hg) (by simp)⟩
    have : i < ρ.length := by rw [hm.len]; exact (List.getElem?_eq_some_iff.1 hi).1
    exact hrow.2 _ hg.symm (nth_mem this)
  · rw [tail_withLoc]
    exact h x.1 x.2.1 x.2.2

def setL (loc : Loc) : List Nat → Loc → Loc
  | i :: is, c :: cs => (setL loc is cs).set i c
  | _, _ => loc
theorem setL_length (loc : Loc) : ∀ (is : List Nat) (cl : Loc), (setL loc is cl).length = loc.length
  | [], _ => by simp [setL]
  | _ :: _, [] => by simp [setL]
  | i :: is, c :: cs => by simp [setL, setL_length loc is cs]
theorem setL_get (loc : Loc) {x : List SV × TypeId} {i : Nat} : ∀ (is : List Nat) (cl : Loc), is.length = cl.length → (setL loc is cl)[i]? = some x → (loc[i]? = some x ∧ ¬ i ∈ is) ∨ ∃ j : Nat, is[j]? = some i ∧ cl[j]? = some x
  | [], [], _, h => .inl ⟨by simpa [setL] using h, by simp⟩
  | [], _ :: _, h, _ => by simp at h
  | _ :: _, [], h, _ => by simp at h
  | i0 :: is, c :: cs, hl, h => by
    simp only [setL, List.getElem?_set] at h
    split at h
    · rename_i he
      split at h
      · exact .inr ⟨0, by simp [he], by simpa using h⟩
      · cases h
    · rename_i hne
      rcases setL_get loc is cs (by simpa using hl) h with ⟨h1, h2⟩ | ⟨j, h1, h2⟩
      · exact .inl ⟨h1, by simp; exact ⟨fun e => hne e.symm, h2⟩⟩
      · exact .inr ⟨j + 1, by simpa using h1, by simpa using h2⟩
theorem nth_inj {ρ : List Nat} (hn : ρ.Nodup) {i j : Nat} (hi : i < ρ.length) (hj : j < ρ.length) (h : nth ρ i = nth ρ j) : i = j := by
  simp only [nth, List.getD, List.getElem?_eq_getElem hi, List.getElem?_eq_getElem hj, Option.getD_some] at h
  exact (List.getElem_inj hn).1 h
theorem denL_closed {ρ ρ' : List Nat} {l : List SV} (h : SV.scopedL 0 l = true) : SV.denL ρ l = SV.denL ρ' l := by
  rw [← SV.denL_take ρ 0 l h, ← SV.denL_take ρ' 0 l h]
  simp
/-- A call that is handed some of the local blocks and a row of one's own. -/
theorem At.adcall {s : S} {ok : Nat → Prop} {ρ0 : List Nat} {base e size : Nat} {A : Option Addr} {n c : Nat} {xs : List Value} (g : FuncId) (vs : List SV) (is : List Nat) (ys : List Value) (rv : Option Addr → Nat → Nat → SV) (cl : Option Addr → Nat → Nat → Loc)
    (hc : s.call? = some (g, vs)) (hb : bodied P g = true) (hd : s.dstOk ntm = true) (hp : s.plain = true)
    (hsc : scopedFr s.loc.length s.fr = true) (hN : N ≤ base) (his : is.all (fun i => Nat.blt i s.loc.length) = true) (hcl : ∀ A n c, is.length = (cl A n c).length ∧ scopedLoc 0 (cl A n c) = true)
    (hr : ∀ ρ w, WInv N w0 ρ s.loc w → RowF w0 ok ρ0 base e size A n c xs ρ w → Calls P g (SV.denL ρ vs).toArray w fun e' w' => ∃ A' n' c', e' = .returned ((rv A' n' c').den ρ) ∧ WInv base w (is.map (nth ρ)) (cl A' n' c') w' ∧ RowF w (fun k => some k = (Value.slice A n c).ownBlock ∨ k ∈ is.map (nth ρ)) (is.map (nth ρ)) base e size A' n' c' ys (is.map (nth ρ)) w')
    (h : ∀ A' n' c', At P Q N w0 ntm (RowF w0 ok ρ0 base e size A' n' c' ys) ((s.tail ntm (rv A' n' c')).withLoc (setL s.loc is (cl A' n' c')))) : At P Q N w0 ntm (RowF w0 ok ρ0 base e size A n c xs) s := by
  refine At.callg (X := Option Addr × Nat × Nat) g vs (fun x => rv x.1 x.2.1 x.2.2) (fun x => setL s.loc is (cl x.1 x.2.1 x.2.2)) (fun x => RowF w0 ok ρ0 base e size x.1 x.2.1 x.2.2 ys) hc hb hd hp hsc ?_ (fun x => h x.1 x.2.1 x.2.2)
  intro ρ w hm hf
  have hlt : ∀ i ∈ is, i < ρ.length := fun i hi => by
    have := List.all_eq_true.1 his i hi
    rw [hm.len]; simpa using this
  have hmem : ∀ b ∈ is.map (nth ρ), b ∈ ρ := fun b hb => by
    obtain ⟨i, hi, rfl⟩ := List.mem_map.1 hb
    exact nth_mem (hlt i hi)
  refine (hr ρ w hm hf).mono ?_
  rintro e' w' ⟨A', n', c', rfl, km, k⟩
  have hrow := hf.1.1
  refine ⟨(A', n', c'), ρ, rfl, Grow.refl _ _, hm.step k.2.1.1 (fun g _ hg => ?_) (setL_length _ _ _) (fun i d t hi => ?_), hf.step hm k (fun g hg => hg) (fun g hg => hf.2.1.2.1 g (hmem g hg))⟩
  · rcases hg with hg | hg
    · exact Nat.le_trans hN (hrow.1.lt g hg.symm).1
    · exact (hm.ge g (hmem g hg)).1
  · rcases setL_get s.loc is _ (hcl _ _ _).1 hi with ⟨h1, h2⟩ | ⟨j, h1, h2⟩
    · have hil : i < ρ.length := by rw [hm.len]; exact (List.getElem?_eq_some_iff.1 h1).1
      refine hm.kept k.2.1.1 h1 ?_
      rintro (hg | hg)
      · exact hrow.2 _ hg.symm (nth_mem hil)
      · obtain ⟨i', hi', he⟩ := List.mem_map.1 hg
        have := nth_inj hm.nodup (hlt i' hi') hil he
        exact h2 (this ▸ hi')
    · have h3 := km.cells j d t h2
      have hn : nth (is.map (nth ρ)) j = nth ρ i := by simp [nth, List.getD, h1]
      rw [hn] at h3
      rw [h3, denL_closed (scopedLoc_get (hcl _ _ _).2 h2)]
end
end Go.Sx
