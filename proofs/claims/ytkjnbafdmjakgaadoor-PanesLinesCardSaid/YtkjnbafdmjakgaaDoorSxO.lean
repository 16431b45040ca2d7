import Derived.Test.YtkjnbafdmjakgaaDoorSxN
set_option linter.unusedSimpArgs false
set_option linter.unusedVariables false
namespace Go.Sx
open Go.RowKit
section
variable {P : Program} {Q : Exit → Act → World → Prop} {N : Nat} {w0 : World} {ntm : Nat} {F : List Nat → World → Prop}

def SV.shift (n : Nat) : SV → SV
  | .lp i o => .lp (n + i) o
  | .ls i o l c => .ls (n + i) o l c
  | s => s
def SV.shiftOk : SV → Bool
  | .lp _ _ => true
  | .ls _ _ _ _ => true
  | s => s.inBlk 0
theorem SV.shift_den {ρ ρc : List Nat} {n : Nat} (hn : ρ.length = n) : ∀ {s : SV}, s.shiftOk = true → (s.shift n).den (ρ ++ ρc) = s.den ρc := by
  have hnth : ∀ i, nth (ρ ++ ρc) (n + i) = nth ρc i := fun i => by
    simp only [nth, List.getD]
    rw [List.getElem?_append_right (by omega)]
    congr 2; omega
  intro s h
  cases s <;> simp only [SV.shift, SV.den, hnth] <;> simp only [SV.shiftOk] at h
  all_goals first
    | rfl
    | (have h1 := SV.den_take (ρ ++ ρc) 0 _ h
       have h2 := SV.den_take ρc 0 _ h
       simp only [List.take_zero, SV.den] at h1 h2
       rw [← h1, ← h2])

/-- A call that makes blocks of its own, hands on one of them, and else changes nothing. -/
theorem At.newcall {s : S} (g : FuncId) (vs : List SV) (v : SV) (locc : Loc) (hF : Stable F) (hc : s.call? = some (g, vs)) (hb : bodied P g = true) (hd : s.dstOk ntm = true) (hp : s.plain = true)
    (hsc : scopedFr s.loc.length s.fr = true) (hl : scopedLoc s.loc.length s.loc = true) (hv : v.shiftOk = true) (hcl : scopedLoc 0 locc = true)
    (hr : ∀ ρ w, WInv N w0 ρ s.loc w → F ρ w → Calls P g (SV.denL ρ vs).toArray w fun e' w' => ∃ ρc, e' = .returned (v.den ρc) ∧ WInv w.heap.size w ρc locc w')
    (h : At P Q N w0 ntm F ((s.tail ntm (v.shift s.loc.length)).withLoc (s.loc ++ locc))) : At P Q N w0 ntm F s := by
  refine At.callg (X := Unit) g vs (fun _ => v.shift s.loc.length) (fun _ => s.loc ++ locc) (fun _ => F) hc hb hd hp hsc ?_ (fun _ => h)
  intro ρ w hm hf
  refine (hr ρ w hm hf).mono ?_
  rintro e' w' ⟨ρc, rfl, km⟩
  have hblk : ∀ k, k < w.heap.size → w'.heap[k]? = w.heap[k]? := km.below.block
  have hgrow : Grow w.heap.size ρ (ρ ++ ρc) := ⟨ρc, rfl, fun x hx => (km.ge x hx).1⟩
  have hlen := hm.len
  refine ⟨(), ρ ++ ρc, by rw [SV.shift_den hm.len hv], hgrow, ⟨hm.below.trans (km.below.mono hm.hN), Nat.le_trans hm.hN km.below.size, by simp [hm.len, km.len], ?_, ?_, ?_⟩, hF ρ w (ρ ++ ρc) w' hgrow ⟨km.below.os, km.below.tape, km.below.output, km.below.size, fun k hk _ => hblk k hk⟩ hf⟩
  · rw [List.nodup_append]
    refine ⟨hm.nodup, km.nodup, fun x hx y hy => ?_⟩
    have := (hm.ge x hx).2
    have := (km.ge y hy).1
    omega
  · intro b hb
    rcases List.mem_append.1 hb with hb | hb
    · exact ⟨(hm.ge b hb).1, Nat.lt_of_lt_of_le (hm.ge b hb).2 km.below.size⟩
    · exact ⟨Nat.le_trans hm.hN (km.ge b hb).1, (km.ge b hb).2⟩
  · intro i c t hi
    by_cases hlt : i < s.loc.length
    · rw [List.getElem?_append_left hlt] at hi
      have hold := hm.cells i c t hi
      have hs := scopedLoc_get hl hi
      have hn : nth (ρ ++ ρc) i = nth ρ i := by simp only [nth, List.getD]; rw [List.getElem?_append_left (by omega)]
      have hden : SV.denL (ρ ++ ρc) c = SV.denL ρ c := by
        rw [← SV.denL_take (ρ ++ ρc) s.loc.length c hs, ← hlen]
        simp
      rw [hn, hden, hblk _ (Array.getElem?_eq_some_iff.1 hold).1]
      exact hold
    · rw [List.getElem?_append_right (by omega)] at hi
      have hn : nth (ρ ++ ρc) i = nth ρc (i - s.loc.length) := by
        simp only [nth, List.getD]
        rw [List.getElem?_append_right (by omega), hlen]
      rw [hn, denL_closed (ρ' := ρc) (scopedLoc_get hcl hi)]
      exact km.cells _ c t hi

/-- Cells that lie in a row at an address. -/
def Src (w : World) (a : Addr) (xs : List Value) : Prop := ∀ j u, xs[j]? = some u → w.cell? (a.add j) = some u
theorem cell_below {B : Nat} {w w' : World} (h : Below B w w') {a : Addr} (ha : a.block < B) : w'.cell? a = w.cell? a := by
  unfold World.cell?
  rw [h.block _ ha]
/-- What an append to an empty local row, of a row that came in, is about. -/
def newQ (P : Program) (ntm : Nat) (s : S) (ts : List Nat) : Option (TypeId × Nat × Nat × Addr × Nat × Nat) :=
  match s.head? with
  | some o => match appS s.fr o with
    | some (t, .ls i 0 0 0, .sl (some a) n c) => match elemT P t, s.loc[i]? with
      | some (e, size, bytes), some ([], ct) => match s.plain && s.dstOk ntm && Nat.beq s.loc.length (i + 1) && Nat.beq ct e && scopedFr i (s.keep ts i).fr && scopedLoc i (s.keep ts i).loc with
        | true => some (e, size, bytes, a, n, c)
        | false => none
      | _, _ => none
    | _ => none
  | none => none
theorem At.appNew {s : S} (ts : List Nat) (e size bytes : Nat) (a : Addr) (n c : Nat) (xs : List Value) (hq : newQ P ntm s ts = some (e, size, bytes, a, n, c)) (hN : N = w0.heap.size) (ha : a.block < w0.heap.size) (hsrc : Src w0 a xs) (hl : xs.length = n * size) (h1 : ∀ u ∈ xs, u.oneCell' = true)
    (hbytes : n * bytes ≤ 140737488355328) (h63 : n ≤ maxLen)
    (h : ∀ (A' : Option Addr) (c' : Nat), At P Q N w0 ntm (RowF w0 (fun _ => False) [] w0.heap.size e size A' n c' xs) ((s.keep ts (s.loc.length - 1)).tail ntm (.sl A' n c'))) : At P Q N w0 ntm noF s := by
  intro ρ act w hi _
  unfold newQ at hq
  split at hq
  · rename_i o ho
    split at hq
    · rename_i t i a' n' c' hap
      split at hq
      · rename_i e' size' bytes' ct ht hloc
        split at hq
        · rename_i hb
          simp only [Option.some.injEq, Prod.mk.injEq] at hq
          obtain ⟨rfl, rfl, rfl, rfl, rfl, rfl⟩ := hq
          simp only [Bool.and_eq_true] at hb
          obtain ⟨⟨⟨⟨⟨hp, hd⟩, hlen⟩, hct⟩, hsf⟩, hsl⟩ := hb
          have hlen := Nat.eq_of_beq_eq_true hlen
          have hct := Nat.eq_of_beq_eq_true hct
          subst hct
          have him : s.loc.length - 1 = i := by omega
          rw [him] at h
          have hk := hi.keep ts i hsf hsl
          have hcell := hi.mem.cells i _ _ hloc
          have hρl : ρ.length = i + 1 := by rw [hi.mem.len, hlen]
          have hmi : nth ρ i ∈ ρ := nth_mem (by omega)
          have hgi := hi.mem.ge _ hmi
          have hni : ∀ g, some g = (Value.slice (some ⟨nth ρ i, 0, none⟩) 0 0).ownBlock → g ∉ ρ.take i := by
            intro g hg hmem
            simp only [Value.ownBlock, Option.some.injEq] at hg
            subst hg
            obtain ⟨j, hj, he⟩ := List.getElem_of_mem hmem
            have hj' : j < i := by simp at hj; omega
            have hnj : nth ρ j = nth ρ i := by
              rw [← he]
              simp only [nth, List.getD, List.getElem_take, List.getElem?_eq_getElem (show j < ρ.length by omega), Option.getD_some]
            have := nth_inj hi.mem.nodup (by omega) (by omega) hnj
            omega
          have hrow : w.ownsRow w0.heap.size ct size' (.slice (some ⟨nth ρ i, 0, none⟩) 0 0) 0 [] :=
            ⟨by simp, .inr ⟨nth ρ i, 0, #[], rfl, hN ▸ hgi.1, hcell, Nat.le_refl _, Nat.zero_le _, by simp, by simp⟩⟩
          have hrow' : Row w0.heap.size ct size' (some ⟨nth ρ i, 0, none⟩) 0 0 [] (ρ.take i) w := ⟨hrow, fun g hg => hni g hg.symm⟩
          have hsize : w0.heap.size ≤ w.heap.size := hi.mem.below.size
          obtain ⟨A', cc, w', hrun, h2, h3, h4⟩ := run_append_row (P := P) (ty := o.type) ht hrow' hsize (fun b hb => (hi.mem.ge b (List.mem_of_mem_take hb)).2) a' n' c' xs hl (fun j u hj => by
            rw [cell_below hi.mem.below (by rw [hN]; unfold Addr.add; split <;> exact ha)]
            exact hsrc j u hj) h1 (by simpa using hbytes) (by simpa using h63)
          simp only [Nat.zero_add, List.nil_append] at hrun h2 h4
          have hrun' := run_appS (ntm := ntm) hi.act hap (v := .slice A' n' cc) (w := w) (w' := w') hrun
          have hchg : Chg (fun _ => False) w0 w' := Chg.mono (ok := fun k => w0.heap.size ≤ k) ((Chg.ofBelow (hN ▸ hi.mem.below)).trans (Chg.ofGrown h3 fun k hk _ => by
              simp only [Value.ownBlock, Option.some.injEq] at hk
              subst hk
              exact hN ▸ hgi.1)) (fun k hk1 hk2 => by omega)
          have hfr : FrameR w0 (fun _ => False) [] (ρ.take i) w' := ⟨hchg, fun b hb => .inr (hN ▸ (hi.mem.ge b (List.mem_of_mem_take hb)).1), by simp⟩
          have hrowF : RowF w0 (fun _ => False) [] w0.heap.size ct size' A' n' cc xs (ρ.take i) w' := ⟨⟨h2, Nat.le_trans hsize h3.size⟩, hfr, fun g hg => by
            rcases h4 with h4 | h4
            · rw [h4] at hg
              simp only [Value.ownBlock, Option.some.injEq] at hg
              subst hg
              exact .inr (hN ▸ hgi.1)
            · rw [h4] at hg
              injection hg with hg
              exact .inr (by omega)⟩
          have hm' : WInv N w0 (ρ.take i) (s.keep ts i).loc w' := hk.mem.grown h3 (fun g hg => ⟨by
            simp only [Value.ownBlock, Option.some.injEq] at hg
            subst hg
            exact hgi.1, hni g hg.symm⟩)
          obtain ⟨pc, ks, fr, loc⟩ := s
          cases pc with
          | ops all rest =>
            cases rest with
            | nil => simp [S.head?] at ho
            | cons o' rest =>
              simp only [S.head?] at ho
              split at ho
              · rename_i hg
                simp only [Option.some.injEq] at ho
                subst ho
                obtain ⟨fr', hpp⟩ := putS_some (fr := keepFr fr ts) (ntm := ntm) hd (.sl A' n' cc)
                have hk' := h A' cc (ρ.take i) (act.put o'.dst (.slice A' n' cc)) w' (by
                  simp only [S.tail, S.keep, hpp]
                  exact ⟨putS_ok hk.act hpp, hm'⟩) hrowF
                simp only [S.tail, S.keep, hpp] at hk'
                show wpList P all _ (o' :: rest) act w
                unfold wpList
                rw [if_pos (guardS_ok hi.act hg)]
                refine .inl ?_
                unfold Oper.wp
                rw [hrun']
                exact hk'
              · cases ho
          | qops all rest => simp [S.plain] at hp
          | code c => simp [S.plain] at hp
          | any _ _ _ => simp [S.plain] at hp
          | exit e => simp [S.plain] at hp
        · cases hq
      · cases hq
    · cases hq
  · cases hq

theorem ownsRow_mono {base base' e size : Nat} {v : Value} {n : Nat} {xs : List Value} {w : World} (h : w.ownsRow base e size v n xs) (hb : base' ≤ base) : w.ownsRow base' e size v n xs := by
  refine ⟨h.1, ?_⟩
  rcases h.2 with h2 | ⟨g, cap, cur, h1, h2, h3⟩
  · exact .inl h2
  · exact .inr ⟨g, cap, cur, h1, Nat.le_trans hb h2, h3⟩
/-- A call that makes a row, and else changes nothing. -/
theorem At.mkrow {s : S} {base e size : Nat} (g : FuncId) (vs : List SV) (ok : Nat → Prop) (ρ0 : List Nat) (xs : List Value) (hc : s.call? = some (g, vs)) (hb : bodied P g = true) (hd : s.dstOk ntm = true) (hp : s.plain = true) (hsc : scopedFr s.loc.length s.fr = true)
    (hF : ∀ ρ w, F ρ w → FrameR w0 ok ρ0 ρ w) (hbase : base ≤ w0.heap.size)
    (hr : ∀ ρ w, WInv N w0 ρ s.loc w → F ρ w → Calls P g (SV.denL ρ vs).toArray w fun e' w' => ∃ A' n' c', e' = .returned (.slice A' n' c') ∧ RowF w (fun _ => False) [] w.heap.size e size A' n' c' xs [] w')
    (h : ∀ A' n' c', At P Q N w0 ntm (RowF w0 ok ρ0 base e size A' n' c' xs) (s.tail ntm (.sl A' n' c'))) : At P Q N w0 ntm F s := by
  refine At.callg (X := Option Addr × Nat × Nat) g vs (fun x => .sl x.1 x.2.1 x.2.2) (fun _ => s.loc) (fun x => RowF w0 ok ρ0 base e size x.1 x.2.1 x.2.2 xs) hc hb hd hp hsc ?_ (fun x => ?_)
  · intro ρ w hm hf
    have hfr := hF ρ w hf
    refine (hr ρ w hm hf).mono ?_
    rintro e' w' ⟨A', n', c', rfl, k⟩
    have hsz := hfr.1.size
    refine ⟨(A', n', c'), ρ, rfl, Grow.refl _ _, hm.step k.2.1.1 (fun g _ hg => hg.elim) rfl (fun i c t hi => hm.kept k.2.1.1 hi fun hg => hg), ⟨⟨ownsRow_mono k.1.1.1 (by omega), fun g hg hm' => ?_⟩, by have := k.2.1.1.size; omega⟩, hfr.chg k.2.1.1 (fun g _ hg => hg.elim), fun g hg => ?_⟩
    · have := (k.1.1.1.lt g hg).1
      have := (hm.ge g hm').2
      omega
    · have := (k.1.1.1.lt g hg).1
      exact .inr (by omega)
  · rw [tail_withLoc]
    exact h x.1 x.2.1 x.2.2
theorem Src.own {w : World} {base e size : Nat} {a : Addr} {n c : Nat} {xs : List Value} (h : w.ownsRow base e size (.slice (some a) n c) n xs) : Src w a xs ∧ a.block < w.heap.size := by
  refine ⟨fun j u hj => ?_, (h.lt a.block rfl).2⟩
  have hjl : j < n * size := by
    have := (List.getElem?_eq_some_iff.1 hj).1
    rw [h.1] at this; exact this
  rcases h.2 with ⟨h2, _⟩ | ⟨g, cap, cur, hv, _⟩
  · cases h2
  · injection hv with ha _ _
    injection ha with ha
    subst ha
    have := h.cellAt j hjl
    rw [hj] at this
    rw [← this]
    unfold Addr.add
    split
    · rename_i h0; subst h0; rfl
    · simp

/-- The frame, and a row that stays. -/
def FRow (w0 : World) (ok : Nat → Prop) (ρ0 : List Nat) (base e size : Nat) (A : Option Addr) (n c : Nat) (xs : List Value) (ρ : List Nat) (w : World) : Prop := FrameR w0 ok ρ0 ρ w ∧ Row base e size A n c xs ρ w
theorem FRow.stable {ok : Nat → Prop} {ρ0 : List Nat} {base e size : Nat} {A : Option Addr} {n c : Nat} {xs : List Value} : Stable (FRow w0 ok ρ0 base e size A n c xs) := fun ρ w ρ' w' hg hk h =>
  ⟨FrameR.stable ρ w ρ' w' hg hk h.1, h.2.keep hg hk⟩
theorem FRow.fewer {ok : Nat → Prop} {ρ0 : List Nat} {base e size : Nat} {A : Option Addr} {n c : Nat} {xs : List Value} : FewerK ρ0.length (FRow w0 ok ρ0 base e size A n c xs) := fun ρ w k hk h =>
  ⟨FrameR.fewer ρ w k hk h.1, Row.fewer _ _ _ _ _ _ _ ρ w k h.2⟩
theorem Chg.drop {ok ok' : Nat → Prop} {w w' : World} (h : Chg ok w w') (hs : ∀ k, k < w.heap.size → ok k → ¬ ok' k → w'.heap[k]? = w.heap[k]?) : Chg ok' w w' :=
  ⟨h.os, h.tape, h.output, h.size, fun k hk hn => by
    by_cases hok : ok k
    · exact hs k hk hok hn
    · exact h.block k hk hok⟩
end
end Go.Sx
