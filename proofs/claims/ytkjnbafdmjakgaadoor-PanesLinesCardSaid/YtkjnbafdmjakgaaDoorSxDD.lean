import Derived.Test.YtkjnbafdmjakgaaDoorSxCC
import Derived.Laws.IdiomStrings
set_option linter.unusedSimpArgs false
set_option linter.unusedVariables false
namespace Go.Sx
open Go.RowKit
section
variable {P : Program} {Q : Exit → Act → World → Prop} {N : Nat} {w0 : World} {ntm : Nat} {F : List Nat → World → Prop}

/-- A slice that was written out becomes a row of one's own. -/
theorem At.lsRow1 {s : S} (t : Nat) (ts : List Nat) (i n e size : Nat) (cells : List SV) (xs : List Value) (hl : look s.fr t = some (.ls i 0 n n)) (hloc : s.loc[i]? = some (cells, e)) (hlen : s.loc.length = i + 1) (hN : N = w0.heap.size)
    (hsz : cells.length = n * size) (hmax : n ≤ maxLen) (hxs : ∀ ρ, SV.denL ρ cells = xs)
    (hsc : (scopedFr i (s.keep ts i).fr && scopedLoc i (s.keep ts i).loc) = true)
    (h : ∀ A : Option Addr, At P Q N w0 ntm (RowF w0 (fun _ => False) [] w0.heap.size e size A n n xs) ((s.keep ts i).bind t (.sl A n n))) : At P Q N w0 ntm noF s := by
  intro ρ a w hi _
  simp only [Bool.and_eq_true] at hsc
  have hk := hi.keep ts i hsc.1 hsc.2
  have hcell := hi.mem.cells i _ _ hloc
  have hρl : ρ.length = i + 1 := by rw [hi.mem.len, hlen]
  have hmi : nth ρ i ∈ ρ := nth_mem (by omega)
  have hgi := hi.mem.ge _ hmi
  have hni : nth ρ i ∉ ρ.take i := by
    intro hmem
    obtain ⟨j, hj, he⟩ := List.getElem_of_mem hmem
    have hj' : j < i := by simp at hj; omega
    have hnj : nth ρ j = nth ρ i := by
      rw [← he]
      simp only [nth, List.getD, List.getElem_take, List.getElem?_eq_getElem (show j < ρ.length by omega), Option.getD_some]
    have := nth_inj hi.mem.nodup (by omega) (by omega) hnj
    omega
  have hxl : xs.length = n * size := by rw [← hxs ρ, SV.denL_eq, List.length_map, hsz]
  have hrow : w.ownsRow w0.heap.size e size (.slice (some ⟨nth ρ i, 0, none⟩) n n) n xs :=
    ⟨hxl, .inr ⟨nth ρ i, n, (SV.denL ρ cells).toArray, rfl, hN ▸ hgi.1, hcell, Nat.le_refl _, hmax, by simp [SV.denL_eq, hsz], by
      rw [hxs ρ, List.toList_toArray, ← hxl, List.take_length]⟩⟩
  have hfr : FrameR w0 (fun _ => False) [] (ρ.take i) w := ⟨Chg.ofBelow (hN ▸ hi.mem.below), fun b hb => .inr (hN ▸ (hi.mem.ge b (List.mem_of_mem_take hb)).1), by simp⟩
  have hrowF : RowF w0 (fun _ => False) [] w0.heap.size e size (some ⟨nth ρ i, 0, none⟩) n n xs (ρ.take i) w := ⟨⟨⟨hrow, fun g hg hm => by
    simp only [Value.ownBlock, Option.some.injEq] at hg
    subst hg
    exact hni hm⟩, hi.mem.below.size⟩, hfr, fun g hg => by
    simp only [Value.ownBlock, Option.some.injEq] at hg
    subst hg
    exact .inr (hN ▸ hgi.1)⟩
  refine h (some ⟨nth ρ i, 0, none⟩) (ρ.take i) a w ⟨⟨hk.act.defers, hk.act.size, fun t' x hx => ?_⟩, hk.mem⟩ hrowF
  simp only [S.bind, look] at hx
  split at hx
  · rename_i hb
    have := Nat.eq_of_beq_eq_true hb
    subst this
    simp only [Option.some.injEq] at hx
    subst hx
    exact hi.act.slot _ _ hl
  · exact hk.act.slot t' x hx

/-! ### the bytes of a string -/
def strS : SV → Option ByteArray
  | .v (.string s) => some s
  | .so s => some s
  | _ => none
theorem strS_den {ρ : List Nat} {x : SV} {s : ByteArray} (h : strS x = some s) : x.den ρ = .string s := by
  unfold strS at h
  split at h
  · injection h with h; subst h; rfl
  · injection h with h; subst h; rfl
  · cases h
def cvbQ (P : Program) (fr : Fr) (o : Oper) : Option ByteArray :=
  match o.op with
  | .convert src dst x => match P.underlying src, P.underlying dst, (evalS fr x).bind strS with
    | some .string, some (.slice e), some s => match P.underlying e with
      | some (.int .u8) => some s
      | _ => none
    | _, _, _ => none
  | _ => none
def bytesV (s : ByteArray) : List Value := s.data.toList.map fun b => Value.int .u8 (b.toNat : Int)
theorem run_cvbQ {ρ : List Nat} {fr : Fr} {act : Act} (ha : AInv ntm ρ fr act) {o : Oper} {s : ByteArray} (h : cvbQ P fr o = some s) (w : World) :
    ∃ c w', (execOp act.eval o).run P w = .ok (.value (.slice (some ⟨w.heap.size, 0, none⟩) s.size c)) w' ∧ Below w.heap.size w w' ∧ w.heap.size < w'.heap.size ∧ Src w' ⟨w.heap.size, 0, none⟩ (bytesV s) := by
  obtain ⟨dst, op, ty, pos, after, guard⟩ := o
  unfold cvbQ at h
  simp only at h
  split at h
  · rename_i src dst' x
    split at h
    · rename_i e s' hs hd hx
      split at h
      · rename_i he
        injection h with h
        subst h
        obtain ⟨sx, hx1, hx2⟩ := Option.bind_eq_some_iff.1 hx
        have hr := run_bytes_of_string (P := P) w src dst' e s' hs hd he
        generalize ho : Obj.cells (bytesRow s' (grownCap w s'.size 0 e)) e ((bytesRow s' (grownCap w s'.size 0 e)).size, (bytesRow s' (grownCap w s'.size 0 e)).size + 1) = ob at hr
        refine ⟨grownCap w s'.size 0 e, w.drew.alloc ob, by simp [execOp, evalS_sound ha hx1, strS_den hx2, hr], ⟨rfl, rfl, rfl, by simp, fun k hk => heap_alloc_old w.drew _ hk⟩, by simp, fun j u hj => ?_⟩
        subst ho
        rw [add_ok, Nat.zero_add]
        have hnew := heap_alloc_new w.drew (.cells (bytesRow s' (grownCap w s'.size 0 e)) e ((bytesRow s' (grownCap w s'.size 0 e)).size, (bytesRow s' (grownCap w s'.size 0 e)).size + 1))
        have hsz : w.drew.heap.size = w.heap.size := rfl
        rw [hsz] at hnew
        simp only [World.cell?, hnew]
        have hj' := (List.getElem?_eq_some_iff.1 hj).1
        simp only [bytesV, List.length_map] at hj'
        show (bytesRow s' (grownCap w s'.size 0 e))[j]? = some u
        unfold bytesRow
        rw [Array.getElem?_append_left (by simpa using hj')]
        rw [← hj]
        simp [bytesV]
      · cases h
    · cases h
  · cases h
def cvbI (P : Program) (ntm : Nat) (s : S) : Option ByteArray :=
  match s.head?, s.dstOk ntm, s.plain with
  | some o, true, true => cvbQ P s.fr o
  | _, _, _ => none
/-- The bytes of a string: a new row beside the row of one's own. -/
theorem At.cvbE {s : S} {ok : Nat → Prop} {ρ0 : List Nat} {base e size : Nat} {A : Option Addr} {n c : Nat} {xs : List Value} {L : List (Option Addr × List Value)} (x : ByteArray) (hq : cvbI P ntm s = some x)
    (h : ∀ (b : Addr) (c' : Nat), At P Q N w0 ntm (RowE w0 ok ρ0 base e size A n c xs ((some b, bytesV x) :: L)) (s.tail ntm (.sl (some b) x.size c'))) : At P Q N w0 ntm (RowE w0 ok ρ0 base e size A n c xs L) s := by
  unfold cvbI at hq
  split at hq
  · rename_i o ho hd hp
    refine At.opx (X := Addr × Nat) o (fun y => .sl (some y.1) x.size y.2) (fun y => RowE w0 ok ρ0 base e size A n c xs ((some y.1, bytesV x) :: L)) ho hd hp ?_ (fun y => h y.1 y.2)
    intro ρ a w hi hf
    obtain ⟨c', w', h1, h2, h3, h4⟩ := run_cvbQ hi.act hq w
    have hkeep : Keep ρ w w' := Keep.of_below h2
    refine ⟨(⟨w.heap.size, 0, none⟩, c'), w', h1, hi.mem.step (Chg.ofBelow (ok := fun _ => False) h2) (fun g _ hg => hg.elim) rfl (fun i d t hi' => hi.mem.kept (Chg.ofBelow (ok := fun _ => False) h2) hi' fun hg => hg), ?_⟩
    have hf' := RowE.stable ρ w ρ w' (Grow.refl _ _) hkeep hf
    refine ⟨hf'.1, fun p hp' => ?_⟩
    rcases List.mem_cons.1 hp' with rfl | hp'
    · refine ⟨w.heap.size, rfl, hf.1.2.1.1.size, h3, fun hm => ?_, fun hq' => ?_, h4⟩
      · have := (hi.mem.ge _ hm).2
        omega
      · have := (hf.1.1.1.1.lt _ hq').2
        omega
    · exact hf'.2 p hp'
  · cases hq
/-- In a region that draws its order: a byte of a string ahead of all else. -/
theorem At.sixFirst {s : S} (hQ : ∀ e a w, Q e a w → e = .normal) (j : Nat) (x : ByteArray) (i : Int) (b : UInt8) (hq : (anyAt s j).bind (sixQ P s.fr) = some (x, i)) (hp : (anyPut ntm s j (.io .u8 (b.toNat : Int))).isSome = true) (h0 : 0 ≤ i) (hb : x.data.toList[i.toNat]? = some b)
    (hk : At P Q N w0 ntm F (s.anyNext ntm j (.io .u8 (b.toNat : Int)))) : At P Q N w0 ntm F s := by
  obtain ⟨o, ho, hq'⟩ := Option.bind_eq_some_iff.1 hq
  exact At.first hQ j o (.io .u8 (b.toNat : Int)) ho hp (fun ρ a w hi => run_sixQ hi hq' h0 hb w) hk

/-! ### an interface against nil -/
def nilQ (P : Program) (fr : Fr) (o : Oper) : Option Bool :=
  match o.op with
  | .binOp .neq t x (.const .nilIface) _ => match P.underlying t, evalS fr x with
    | some (.interface _), some (.v .nilIface) => some false
    | some (.interface _), some (.v (.iface _ _)) => some true
    | _, _ => none
  | _ => none
theorem run_nilQ {ρ : List Nat} {fr : Fr} {act : Act} (ha : AInv ntm ρ fr act) {o : Oper} {b : Bool} (h : nilQ P fr o = some b) (w : World) :
    (execOp act.eval o).run P w = .ok (.value (.bool b)) w := by
  obtain ⟨dst, op, ty, pos, after, guard⟩ := o
  unfold nilQ at h
  simp only at h
  split at h
  · rename_i t x tt
    split at h
    · rename_i ms hu hx
      simp only [Option.some.injEq] at h
      subst h
      have hm : P.underlying t = some (.interface (P.methodsAt t)) := by unfold Program.methodsAt; rw [hu]
      have hr : ((do eqGuard .neq t x (.const .nilIface) .nilIface .nilIface; binOp .neq t .nilIface .nilIface) : Sem Value).run P w = .ok (.bool false) w := by
        rw [eqGuard_nil_constR]
        exact run_neq_nil_nil w t hm
      have hy : act.eval (.const .nilIface) = (SV.v .nilIface).den ρ := evalS_sound ha rfl
      unfold execOp
      simp only [evalS_sound ha hx, hy, SV.den, Sem.run_bind] at hr ⊢
      simp [hr]
    · rename_i ms d v hu hx
      simp only [Option.some.injEq] at h
      subst h
      have hm : P.underlying t = some (.interface (P.methodsAt t)) := by unfold Program.methodsAt; rw [hu]
      have hr : ((do eqGuard .neq t x (.const .nilIface) (.iface d v) .nilIface; binOp .neq t (.iface d v) .nilIface) : Sem Value).run P w = .ok (.bool true) w := by
        have hg : eqGuard .neq t x (.const .nilIface) (.iface d v) .nilIface = pure () := rfl
        rw [hg]
        exact run_neq_held_nil w t d v hm
      have hy : act.eval (.const .nilIface) = (SV.v .nilIface).den ρ := evalS_sound ha rfl
      unfold execOp
      simp only [evalS_sound ha hx, hy, SV.den, Sem.run_bind] at hr ⊢
      simp [hr]
    · cases h
  · cases h
def nilI (P : Program) (ntm : Nat) (s : S) : Option Bool :=
  match s.head?, s.dstOk ntm with
  | some o, true => nilQ P s.fr o
  | _, _ => none
theorem At.nilne {s : S} (b : Bool) (hq : nilI P ntm s = some b) (hF : Stable F) (h : At P Q N w0 ntm F (s.tail ntm (.v (.bool b)))) : At P Q N w0 ntm F s := by
  unfold nilI at hq
  split at hq
  · rename_i o ho hd
    exact At.op hF o (.v (.bool b)) ho hd (fun ρ act w hi _ => run_nilQ hi.act hq w) h
  · cases hq

/-! ### the bytes of a slice that was written out, as a string -/
def cvlQ (P : Program) (fr : Fr) (o : Oper) : Option (Nat × Nat × Nat × Nat) :=
  match o.op with
  | .convert src dst x => match P.underlying src, P.underlying dst, evalS fr x with
    | some (.slice e), some .string, some (.ls i off n c) => match P.underlying e with
      | some (.int .u8) => some (i, off, n, c)
      | _ => none
    | _, _, _ => none
  | _ => none
theorem run_cvlQ {ρ : List Nat} {fr : Fr} {act : Act} (ha : AInv ntm ρ fr act) {o : Oper} {i off n c : Nat} {w : World} (bs : List Nat) (h : cvlQ P fr o = some (i, off, n, c)) (hn : bs.length = n)
    (hc : ∀ (j b : Nat), bs[j]? = some b → w.cell? (Addr.add ⟨nth ρ i, off, none⟩ j) = some (.int .u8 (b : Int))) :
    (execOp act.eval o).run P w = .ok (.value (.string (strOf bs))) w := by
  obtain ⟨dst, op, ty, pos, after, guard⟩ := o
  unfold cvlQ at h
  simp only at h
  split at h
  · rename_i src dst x
    split at h
    · rename_i e i' off' n' c' hs hd hx
      split at h
      · rename_i he
        simp only [Option.some.injEq, Prod.mk.injEq] at h
        obtain ⟨rfl, rfl, rfl, rfl⟩ := h
        have hk := run_convert_bytes_string w src dst e (some ⟨nth ρ i', off', none⟩) n' c' hs he hd
        have hr : (convert src dst (.slice (some ⟨nth ρ i', off', none⟩) n' c')).run P w = .ok (.string (strOf bs)) w := by
          rw [hk]
          subst hn
          exact run_bytesToString w ⟨nth ρ i', off', none⟩ bs.length c' (bs.map fun b : Nat => ((b : Nat) : Int)) (by
            have := run_loadCells_list (P := P) w ⟨nth ρ i', off', none⟩ (bs.map fun b : Nat => Value.int .u8 ((b : Nat) : Int)) (fun j v hj => by
              simp only [List.getElem?_map, Option.map_eq_some_iff] at hj
              obtain ⟨b, hb, rfl⟩ := hj
              exact hc j b hb)
            simp only [List.length_map] at this
            rw [this, List.map_map]
            rfl)
        simp [execOp, evalS_sound ha hx, SV.den, hr]
      · cases h
    · cases h
  · cases h
def cvlI (P : Program) (ntm : Nat) (s : S) : Option (Nat × Nat × Nat × Nat) :=
  match s.head?, s.dstOk ntm with
  | some o, true => cvlQ P s.fr o
  | _, _ => none
theorem At.cvl {s : S} (i off n c : Nat) (bs : List Nat) (cells : List SV) (ct : TypeId) (r : SV) (hq : cvlI P ntm s = some (i, off, n, c)) (hl : s.loc[i]? = some (cells, ct)) (hF : Stable F) (hn : bs.length = n) (hr : ∀ ρ, r.den ρ = .string (strOf bs))
    (hb : ∀ ρ (j b : Nat), bs[j]? = some b → (cells[off + j]?).map (SV.den ρ) = some (.int .u8 (b : Int)))
    (h : At P Q N w0 ntm F (s.tail ntm r)) : At P Q N w0 ntm F s := by
  unfold cvlI at hq
  split at hq
  · rename_i o ho hd
    exact At.op hF o r ho hd (fun ρ act w hi hf => by
      rw [hr]
      exact run_cvlQ hi.act bs hq hn fun j b hj => by rw [add_ok, cell_of_loc hi.mem hl]; exact hb ρ j b hj) h
  · cases hq
end
end Go.Sx
