import Derived.Test.YtiehnigbcfkcdaaDoorSxK
set_option linter.unusedSimpArgs false
set_option linter.unusedVariables false
namespace Go.Sx
open Go.RowKit
section
variable {P : Program} {Q : Exit → Act → World → Prop} {N : Nat} {w0 : World} {ntm : Nat} {F : List Nat → World → Prop}

theorem At.mono {F' : List Nat → World → Prop} {s : S} (hF : ∀ ρ w, F ρ w → F' ρ w) (h : At P Q N w0 ntm F' s) : At P Q N w0 ntm F s := fun ρ a w hi hf => h ρ a w hi (hF ρ w hf)
theorem At.pure {F' : List Nat → World → Prop} {p : Prop} {s : S} (h : p → At P Q N w0 ntm F' s) : At P Q N w0 ntm (fun ρ w => F' ρ w ∧ p) s := fun ρ a w hi hf => h hf.2 ρ a w hi hf.1
theorem Stable.and {F G : List Nat → World → Prop} (h : Stable F) (k : Stable G) : Stable (fun ρ w => F ρ w ∧ G ρ w) := fun ρ w ρ' w' hg hk ⟨h1, h2⟩ => ⟨h ρ w ρ' w' hg hk h1, k ρ w ρ' w' hg hk h2⟩
theorem Fewer.and {F G : List Nat → World → Prop} (h : Fewer F) (k : Fewer G) : Fewer (fun ρ w => F ρ w ∧ G ρ w) := fun ρ w n ⟨h1, h2⟩ => ⟨h ρ w n h1, k ρ w n h2⟩

/-- Of what was there only the blocks of 'ok' may have turned. -/
structure Chg (ok : Nat → Prop) (w w' : World) : Prop where
  os : w'.os = w.os
  tape : w'.tape = w.tape
  output : w'.output = w.output
  size : w.heap.size ≤ w'.heap.size
  block : ∀ k, k < w.heap.size → ¬ ok k → w'.heap[k]? = w.heap[k]?
theorem Chg.refl (ok : Nat → Prop) (w : World) : Chg ok w w := ⟨rfl, rfl, rfl, Nat.le_refl _, fun _ _ _ => rfl⟩
theorem Chg.trans {ok : Nat → Prop} {a b c : World} (h : Chg ok a b) (k : Chg ok b c) : Chg ok a c :=
  ⟨k.os.trans h.os, k.tape.trans h.tape, k.output.trans h.output, Nat.le_trans h.size k.size, fun i hi ho => (k.block i (Nat.lt_of_lt_of_le hi h.size) ho).trans (h.block i hi ho)⟩
theorem Chg.mono {ok ok' : Nat → Prop} {a b : World} (h : Chg ok a b) (ho : ∀ k, k < a.heap.size → ok k → ok' k) : Chg ok' a b :=
  ⟨h.os, h.tape, h.output, h.size, fun i hi hn => h.block i hi fun hk => hn (ho i hi hk)⟩
theorem Chg.below {ok : Nat → Prop} {a b : World} {B : Nat} (h : Chg ok a b) (hB : B ≤ a.heap.size) (ho : ∀ k, k < B → ¬ ok k) : Below B a b :=
  ⟨h.os, h.tape, h.output, h.size, fun i hi => h.block i (Nat.lt_of_lt_of_le hi hB) (ho i hi)⟩
theorem Chg.ofBelow {ok : Nat → Prop} {a b : World} (h : Below a.heap.size a b) : Chg ok a b :=
  ⟨h.os, h.tape, h.output, h.size, fun i hi _ => h.block i hi⟩
theorem Chg.ofGrown {ok : Nat → Prop} {a b : World} {row : Option Nat} (h : a.grownBy b row) (ho : ∀ k, some k = row → k < a.heap.size → ok k) : Chg ok a b :=
  ⟨h.os, h.tape, h.output, h.size, fun i hi hn => h.block i hi fun e => hn (ho i e hi)⟩
theorem Chg.toGrown {a b : World} {row : Option Nat} (h : Chg (fun k => some k = row) a b) : a.grownBy b row :=
  ⟨h.os, h.tape, h.output, h.size, fun i hi hn => h.block i hi hn⟩

/-- Facts that hold with fewer local blocks, too, if the first j stay. -/
def FewerK (j : Nat) (F : List Nat → World → Prop) : Prop := ∀ ρ w k, j ≤ k → F ρ w → F (ρ.take k) w
theorem At.toJ {j : Nat} (hF : Stable F) (hF' : FewerK j F) (u n : Nat) (ts : List Nat) (k : Nat) {s : S} (s' : S) (hs : (srun P ntm u n s).keep ts k = s') (hsc : (scopedFr k s'.fr && (scopedLoc k s'.loc && Nat.ble j k)) = true) (h : At P Q N w0 ntm F s') : At P Q N w0 ntm F s := by
  refine At.run hF u n ?_
  intro ρ a w hi hf
  simp only [Bool.and_eq_true] at hsc
  subst hs
  exact h _ a w (hi.keep ts k hsc.1 hsc.2.1) (hF' _ _ _ (Nat.le_of_ble_eq_true hsc.2.2) hf)

/-- The frame: what was there when the call began, where the local blocks lie, and which of them came in. -/
def FrameR (w0 : World) (ok : Nat → Prop) (ρ0 : List Nat) (ρ : List Nat) (w : World) : Prop := Chg ok w0 w ∧ (∀ b ∈ ρ, ok b ∨ w0.heap.size ≤ b) ∧ ρ.take ρ0.length = ρ0
theorem FrameR.stable {ok : Nat → Prop} {ρ0 : List Nat} : Stable (FrameR w0 ok ρ0) := fun ρ w ρ' w' hg hk ⟨h1, h2, h3⟩ =>
  ⟨⟨hk.os.trans h1.os, hk.tape.trans h1.tape, hk.output.trans h1.output, Nat.le_trans h1.size hk.size, fun k hk' hne => (hk.block k (Nat.lt_of_lt_of_le hk' h1.size) (fun hm => by
      rcases h2 k hm with h | h
      · exact hne h
      · omega)).trans (h1.block k hk' hne)⟩,
    fun b hb => by
      rcases hg.of_mem hb with h | h
      · exact h2 b h
      · have := h1.size; exact .inr (by omega), by
    obtain ⟨ext, rfl, _⟩ := hg
    have hl : ρ0.length ≤ ρ.length := by
      have := congrArg List.length h3
      simp at this; omega
    rw [List.take_append_of_le_length hl]; exact h3⟩
theorem FrameR.fewer {ok : Nat → Prop} {ρ0 : List Nat} : FewerK ρ0.length (FrameR w0 ok ρ0) := fun ρ _ k hk h => ⟨h.1, fun b hb => h.2.1 b (List.mem_of_mem_take hb), by
  rw [List.take_take, Nat.min_eq_left hk]; exact h.2.2⟩
theorem FrameR.start (ok : Nat → Prop) (ρ : List Nat) (h : ∀ b ∈ ρ, ok b) : FrameR w0 ok ρ ρ w0 := ⟨Chg.refl _ _, fun b hb => .inl (h b hb), by simp⟩
theorem FrameR.nth {ok : Nat → Prop} {ρ0 ρ : List Nat} {w : World} (h : FrameR w0 ok ρ0 ρ w) {i : Nat} (hi : i < ρ0.length) : nth ρ i = nth ρ0 i := by
  have := h.2.2
  conv => rhs; rw [← this]
  simp [Go.Sx.nth, List.getD, hi]

/-- A row of one's own, and the frame. -/
def RowF (w0 : World) (ok : Nat → Prop) (ρ0 : List Nat) (base e size : Nat) (A : Option Addr) (n c : Nat) (xs : List Value) (ρ : List Nat) (w : World) : Prop :=
  (Row base e size A n c xs ρ w ∧ base ≤ w.heap.size) ∧ FrameR w0 ok ρ0 ρ w ∧ ∀ g, (Value.slice A n c).ownBlock = some g → ok g ∨ w0.heap.size ≤ g
theorem RowF.stable {ok : Nat → Prop} {ρ0 : List Nat} {base e size : Nat} {A : Option Addr} {n c : Nat} {xs : List Value} : Stable (RowF w0 ok ρ0 base e size A n c xs) := fun ρ w ρ' w' hg hk ⟨⟨h1, h2⟩, h3, h4⟩ =>
  ⟨⟨h1.keep hg hk, Nat.le_trans h2 hk.size⟩, FrameR.stable ρ w ρ' w' hg hk h3, h4⟩
theorem RowF.fewer {ok : Nat → Prop} {ρ0 : List Nat} {base e size : Nat} {A : Option Addr} {n c : Nat} {xs : List Value} : FewerK ρ0.length (RowF w0 ok ρ0 base e size A n c xs) := fun ρ w k hk ⟨⟨h1, h2⟩, h3, h4⟩ =>
  ⟨⟨Row.fewer _ _ _ _ _ _ _ ρ w k h1, h2⟩, FrameR.fewer ρ w k hk h3, h4⟩
theorem FrameR.chg {ok ok' : Nat → Prop} {ρ0 ρ : List Nat} {w w' : World} (h : FrameR w0 ok ρ0 ρ w) (hg : Chg ok' w w') (hr : ∀ g, g < w.heap.size → ok' g → ok g ∨ w0.heap.size ≤ g) : FrameR w0 ok ρ0 ρ w' :=
  ⟨⟨hg.os.trans h.1.os, hg.tape.trans h.1.tape, hg.output.trans h.1.output, Nat.le_trans h.1.size hg.size, fun k hk hne => (hg.block k (Nat.lt_of_lt_of_le hk h.1.size) (fun e => by
    rcases hr k (Nat.lt_of_lt_of_le hk h.1.size) e with h1 | h1
    · exact hne h1
    · omega)).trans (h.1.block k hk hne)⟩, h.2⟩
theorem FrameR.grown {ok : Nat → Prop} {row : Option Nat} {ρ0 ρ : List Nat} {w w' : World} (h : FrameR w0 ok ρ0 ρ w) (hg : w.grownBy w' row) (hr : ∀ g, row = some g → ok g ∨ w0.heap.size ≤ g) : FrameR w0 ok ρ0 ρ w' :=
  h.chg (Chg.ofGrown (ok := fun k => some k = row) hg fun _ e _ => e) fun g _ e => hr g e.symm
theorem At.appendF {s : S} (ok : Nat → Prop) (ρ0 : List Nat) (o : Oper) (t e size bytes : Nat) (base : Nat) (A : Option Addr) (n c : Nat) (xs : List Value) (i off m k : Nat) (cells : List SV) (ct : TypeId) (news : List Value) (ho : s.head? = some o) (hd : s.dstOk ntm = true) (hp : s.plain = true)
    (ha : appS s.fr o = some (t, .sl A n c, .ls i off m k)) (ht : elemT P t = some (e, size, bytes)) (hl : s.loc[i]? = some (cells, ct)) (hle : Nat.ble (off + m * size) cells.length = true) (hone : oneL ((cells.drop off).take (m * size)) = true)
    (hnews : ∀ ρ, SV.denL ρ ((cells.drop off).take (m * size)) = news)
    (hbytes : (n + m) * bytes ≤ 140737488355328) (h63 : n + m ≤ maxLen) (hN : N ≤ base)
    (h : ∀ (A' : Option Addr) (c' : Nat), At P Q N w0 ntm (RowF w0 ok ρ0 base e size A' (n + m) c' (xs ++ news)) (s.tail ntm (.sl A' (n + m) c'))) : At P Q N w0 ntm (RowF w0 ok ρ0 base e size A n c xs) s := by
  refine At.opx o (fun x : Option Addr × Nat => .sl x.1 (n + m) x.2) (fun x ρ w => RowF w0 ok ρ0 base e size x.1 (n + m) x.2 (xs ++ news) ρ w) ho hd hp ?_ (fun x => h x.1 x.2)
  intro ρ a w hi ⟨⟨hrow, hb⟩, hfr, hblk⟩
  have hlen : news.length = m * size := by
    rw [← hnews ρ]
    have := Nat.le_of_ble_eq_true hle
    simp [SV.denL_eq]; omega
  obtain ⟨A', c', w', h1, h2, h3, h4⟩ := run_append_row (P := P) (ty := o.type) ht hrow hb (fun b hb => (hi.mem.ge b hb).2) ⟨nth ρ i, off, none⟩ m k news hlen (fun j u hj => by
      rw [add_ok, cell_of_loc hi.mem hl]
      rw [← hnews ρ] at hj
      have hjn : j < m * size := by
        have := (List.getElem?_eq_some_iff.1 hj).1
        simp [SV.denL_eq] at this
        omega
      simpa [SV.denL_eq, List.getElem?_take, hjn, List.getElem?_drop] using hj) (by rw [← hnews ρ]; exact oneL_den hone) hbytes h63
  refine ⟨(A', c'), w', run_appS hi.act ha h1, hi.mem.grown h3 (fun g hg => ⟨Nat.le_trans hN (hrow.1.lt g hg).1, hrow.2 g hg⟩), ⟨h2, Nat.le_trans hb h3.size⟩, hfr.grown h3 hblk, fun g hg => ?_⟩
  rcases h4 with h4 | h4
  · exact hblk g (h4 ▸ hg)
  · rw [h4] at hg
    injection hg with hg
    have := hfr.1.size
    exact .inr (by omega)
end
end Go.Sx
