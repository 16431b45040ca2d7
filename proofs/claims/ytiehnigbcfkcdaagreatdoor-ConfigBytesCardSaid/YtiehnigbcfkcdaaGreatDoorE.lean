import Derived.Test.YtiehnigbcfkcdaaGreatDoorD
import Derived.Test.YtiehnigbcfkcdaaGreatDoorSxS
set_option linter.unusedSimpArgs false
set_option linter.unusedVariables false
namespace Go.Proofs.YtiehnigbcfkcdaaGreatDoor
open Go.RowKit Go.Sx

/-- A reader's number: its place is bounded. -/
theorem rd_bounds : ∀ (l : List Nat) (at' x sh E X q : Int), rd l at' x sh = (E, X, q) → at' ≤ q ∧ q ≤ at' + l.length
  | [], at', x, sh, E, X, q, h => by
    simp only [rd, Prod.mk.injEq] at h
    obtain ⟨_, _, rfl⟩ := h
    simp
  | b :: l, at', x, sh, E, X, q, h => by
    simp only [rd] at h
    simp only [List.length_cons]
    cases h1 : ((sh == 63) && ((b : Int) != 1)) with
    | true =>
      simp only [h1, cond_true, Prod.mk.injEq] at h
      omega
    | false =>
      simp only [h1, cond_false] at h
      cases h2 : decide ((b : Int) > 127) with
      | true =>
        simp only [h2, cond_true] at h
        have := rd_bounds l _ _ _ _ _ _ h
        omega
      | false =>
        simp only [h2, cond_false] at h
        cases h3 : (((b : Int) == 0) && decide (sh > 0)) with
        | true =>
          simp only [h3, cond_true, Prod.mk.injEq] at h
          omega
        | false =>
          simp only [h3, cond_false, Prod.mk.injEq] at h
          omega
theorem rd_bound {bs : List Nat} {at' E X q : Int} (hb : 0 ≤ at' ∧ at' ≤ bs.length) (h : rd (bs.drop at'.toNat) at' 0 0 = (E, X, q)) : 0 ≤ q ∧ q ≤ bs.length := by
  have := rd_bounds _ _ _ _ _ _ _ h
  simp only [List.length_drop] at this
  omega
/-- Numbers one behind the other, none above the greatest span. -/
def readL : Nat → List Nat → Int → Option (List Int × Int)
  | 0, _, at' => some ([], at')
  | k + 1, bs, at' => match rd (bs.drop at'.toNat) at' 0 0 with
    | (e, x, q) => bif e != 0 then none else bif decide (x > 1099511627776) then none else (readL k bs q).map fun p => (IntKind.i64.wrap x :: p.1, p.2)
theorem readL_e {k : Nat} {bs : List Nat} {at' e x q : Int} (h : rd (bs.drop at'.toNat) at' 0 0 = (e, x, q)) (he : (e != 0) = true) : readL (k + 1) bs at' = none := by
  simp only [readL, h, he, cond_true]
theorem readL_x {k : Nat} {bs : List Nat} {at' e x q : Int} (h : rd (bs.drop at'.toNat) at' 0 0 = (e, x, q)) (he : (e != 0) = false) (hx : decide (x > 1099511627776) = true) : readL (k + 1) bs at' = none := by
  simp only [readL, h, he, hx, cond_true, cond_false]
theorem readL_s {k : Nat} {bs : List Nat} {at' x q : Int} (h : rd (bs.drop at'.toNat) at' 0 0 = (0, x, q)) (hx : x ≤ 1099511627776) : readL (k + 1) bs at' = (readL k bs q).map fun p => (IntKind.i64.wrap x :: p.1, p.2) := by
  have hx' : decide (x > 1099511627776) = false := by simp; omega
  simp only [readL, h, hx', cond_false]
  rfl
def badV : Value := .tuple #[.agg #[.int .i64 0, .int .i64 0, .int .i64 0, .int .i64 0, .int .i64 0, .int .i64 0, .int .i64 0, .int .i64 0, .int .i64 0, .bool false], .int .i64 0, .int .i64 210]
/-- What Read answers of ten numbers and the place behind them. -/
def readV : Option (List Int × Int) → Value
  | some ([g, s, k, sz, sl, of, gp, lt, ea, d], at') => bif jobE (wrongF g s k sz sl of gp lt ea) != 0 then badV else bif !((bif d == 1 then (1 : Int) else 0) == d) then badV else
      .tuple #[.agg #[.int .i64 g, .int .i64 s, .int .i64 k, .int .i64 sz, .int .i64 sl, .int .i64 of, .int .i64 gp, .int .i64 lt, .int .i64 ea, .bool (d == 1)], .int .i64 at', .int .i64 0]
  | _ => badV

noncomputable def B44 : Code := (Tryz.f44.body).getD .skip
set_option maxHeartbeats 4000000 in
set_option maxRecDepth 100000 in
theorem place_any (A : Option Addr) (n c : Nat) (at0 : Int) (r : Nat) (w : World) (hp : w.heap[r]? = some (.cells #[.slice A n c, .int .i64 at0] 103)) :
    Calls Tryz.prog 44 #[.pointer (some ⟨r, 0, none⟩)] w fun e w' => e = .returned (.int .i64 at0) ∧ Below w.heap.size w w' := by
  refine enterG (N := r) (F := FrameR w (fun k => k ∈ [r]) [r]) (fn := Tryz.f44) (c := B44) [.lp 0 0] [r] [([.sl A n c, .io .i64 at0], 103)] Tryz.func44 rfl rfl (WInv.start1 (Nat.le_refl _) hp) (FrameR.start _ [r] (by simp)) ?_
  refine At.toJ (FrameR.stable) FrameR.fewer 0 100 [2] 1 ⟨.exit .ret, [], [(2, .io .i64 at0)], [([.sl A n c, .io .i64 at0], 103)]⟩ (by kernel_rfl) (by kernel_rfl) ?_
  refine At.ret (by kernel_rfl) (.io .i64 at0) (by kernel_rfl) ?_
  intro ρ w9 hm hf
  obtain rfl := FrameR.here hf hm rfl
  refine ⟨rfl, Chg.below (ok := fun _ => False) (hf.1.drop fun k _ hk _ => ?_) (Nat.le_refl _) (fun _ _ h => h)⟩
  simp at hk
  subst hk
  rw [hp]
  exact hm.cells 0 _ _ rfl

set_option maxHeartbeats 4000000 in
set_option maxRecDepth 100000 in
theorem rnum_nil (r : Nat) (w : World) (hp : w.heap[r]? = some (.cells #[.slice none 0 0, .int .i64 0] 103)) :
    Calls Tryz.prog 43 #[.pointer (some ⟨r, 0, none⟩)] w fun e w' => e = .returned (.tuple #[.int .u64 0, .int .i64 110]) ∧ WInv r w [r] [([.sl none 0 0, .io .i64 0], 103)] w' ∧ Chg (fun k => k ∈ [r]) w w' := by
  refine enterG (N := r) (F := FrameR w (fun k => k ∈ [r]) [r]) (fn := Tryz.f43) (c := B43) [.lp 0 0] [r] [([.sl none 0 0, .v (.int .i64 0)], 103)] Tryz.func43 rfl rfl (WInv.start1 (Nat.le_refl _) hp) (FrameR.start _ [r] (by simp)) ?_
  refine At.toJ (FrameR.stable) FrameR.fewer 0 100 [0] 1 ⟨.code (sub B43 [1]), [], [(0, .lp 0 0)], [([.sl none 0 0, .v (.int .i64 0)], 103)]⟩ (by kernel_rfl) (by kernel_rfl) ?_
  refine At.scope (σ := RdSt) (sub B43 [1, 4]) labRd restRd frRd (fun _ => [([.sl none 0 0, .v (.int .i64 0)], 103)]) (fun _ _ _ => False) (fun _ => 0) (by kernel_rfl) (fun s => by rcases s with ⟨_ | _, _, _, _⟩ <;> kernel_rfl) ?_ ?_
  · refine At.toJ (FrameR.stable) FrameR.fewer 0 100 [0, 4, 5, 6, 20] 1 ⟨.code (sub B43 [1, 4, 1, 1, 1, 1, 0, 1]), [.seq (sub B43 [1, 4, 1, 1, 1, 1, 1]), .jump (Jump r w Tryz.f43.ntmps labRd frRd (fun x => [([.sl none 0 0, .v (.int .i64 0)], 103)]) (fun x x_1 x_2 => False) fun x => True)], [(0, .lp 0 0), (4, .v (.int IntKind.u64 0)), (5, .v (.int .i64 0)), (6, .v (.int .i64 0)), (20, .bo true)], [([.sl none 0 0, .v (.int .i64 0)], 103)]⟩ (by kernel_rfl) (by kernel_rfl) ?_
    refine At.res 20 (true) true (by kernel_rfl) (by first | assumption | (simp only [*]; done) | (simp [*]; done)) ?_
    refine At.toJ (FrameR.stable) FrameR.fewer 0 100 [2, 3] 1 ⟨.exit .ret, [], [(2, .v (.int IntKind.u64 0)), (3, .v (.int .i64 110))], [([.sl none 0 0, .v (.int .i64 0)], 103)]⟩ (by kernel_rfl) (by kernel_rfl) ?_
    refine At.ret (by kernel_rfl) (.tup [.v (.int IntKind.u64 0), .v (.int .i64 110)]) (by kernel_rfl) ?_
    intro ρ w9 hm hf
    obtain rfl := FrameR.here hf hm rfl
    exact ⟨rfl, ⟨hm.below, hm.hN, hm.len, hm.nodup, hm.ge, fun i d t hi => by
      cases i with
      | zero =>
        simp only [List.getElem?_cons_zero, Option.some.injEq, Prod.mk.injEq] at hi
        obtain ⟨rfl, rfl⟩ := hi
        exact hm.cells 0 [.sl none 0 0, .v (.int .i64 0)] _ rfl
      | succ i => simp at hi⟩, hf.1⟩
  · intro s ρ a w hi hf
    exact hf.elim


theorem rnum_lend (base : Nat) (A : Option Addr) (n c : Nat) (bs : List Nat) (hbs : ∀ b ∈ bs, b < 256) (at0 : Int) (h0 : 0 ≤ at0 ∧ at0 ≤ bs.length) (hn : bs.length ≤ 140737488355328) (r : Nat) (w : World) (hb : base ≤ w.heap.size) (hr : w.ownsRow base 5 1 (.slice A n c) n (bv bs)) (hp : w.heap[r]? = some (.cells #[.slice A n c, .int .i64 at0] 103)) (hbp : base ≤ r) (hnp : (Value.slice A n c).ownBlock ≠ some r) :
    Calls Tryz.prog 43 #[.pointer (some ⟨r, 0, none⟩)] w fun e w' => e = .returned (.tuple #[.int .u64 (rd (bs.drop at0.toNat) at0 0 0).2.1, .int .i64 (rd (bs.drop at0.toNat) at0 0 0).1]) ∧ WInv r w [r] [([.sl A n c, .io .i64 (bif (rd (bs.drop at0.toNat) at0 0 0).1 == 0 then (rd (bs.drop at0.toNat) at0 0 0).2.2 else at0)], 103)] w' ∧ Chg (fun k => k ∈ [r]) w w' := by
  have hln : bs.length = n := by have := hr.1; simp only [bv, List.length_map] at this; omega
  cases A with
  | some a =>
    refine (rnum_any base a n c bs hbs at0 (by omega) (by omega) r w hb hr hp hbp hnp).mono ?_
    rintro e w' ⟨h1, h2, h3⟩
    exact ⟨h1, h2, h3.1.1⟩
  | none =>
    rcases hr.2 with ⟨h2, h3⟩ | ⟨g, cap, cur, hv, _⟩
    · subst h3
      injection h2 with _ _ hc
      subst hc
      have hx : bs = [] := List.eq_nil_of_length_eq_zero hln
      subst hx
      have ha : at0 = 0 := by simp at h0; omega
      subst ha
      exact rnum_nil r w hp
    · cases hv

noncomputable def B16 : Code := (Tryz.f16.body).getD .skip
set_option maxHeartbeats 4000000 in
set_option maxRecDepth 100000 in
theorem read_any (a : Addr) (n c : Nat) (bs : List Nat) (hbs : ∀ b ∈ bs, b < 256) (hl : bs.length = n) (hn : bs.length ≤ 140737488355328) (w : World) (ha : a.block < w.heap.size) (hsrc : Src w a (bv bs)) :
    Calls Tryz.prog 16 #[.slice (some a) n c] w fun e w' => e = .returned (readV (readL 10 bs 0)) ∧ Below w.heap.size w w' := by
  refine enterF (N := w.heap.size) (F := FrameR w (fun _ => False) []) (fn := Tryz.f16) (c := B16) [.sl (some a) n c] Tryz.func16 rfl rfl (Nat.le_refl _) (FrameR.start _ [] (by simp)) ?_
  refine At.toJ (FrameR.stable) FrameR.fewer 20 300 [2, 11] 1 ⟨pops B16 [1, 0] 1, [.seq (sub B16 [1, 1])], [(2, .lp 0 0), (11, .sl (some a) n c)], [([.v (.int .i64 0), .v (.int .i64 0), .v (.int .i64 0), .v (.int .i64 0), .v (.int .i64 0), .v (.int .i64 0), .v (.int .i64 0), .v (.int .i64 0), .v (.int .i64 0), .v (.bool false)], 24)]⟩ (by kernel_rfl) (by kernel_rfl) ?_
  refine At.newrow (base := w.heap.size) (e := 5) (size := 1) 42 [.sl (some a) n c] (.lp 0 0) (fun A n c => [([.sl A n c, .v (.int .i64 0)], 103)]) (fun _ => False) [] (bv bs) (by kernel_rfl) (by kernel_rfl) (by kernel_rfl) (by kernel_rfl) (by kernel_rfl) (by kernel_rfl) (by kernel_rfl) (fun _ _ _ => rfl) (fun ρ w h => h) (Nat.le_refl _) (fun ρ w1 hm hf => newreader_any a n c (bv bs) w1 (Nat.lt_of_lt_of_le ha hm.below.size) (src_below hsrc hm.below ha) (by simp [bv, hl]) (bv_one _) (hl ▸ hn)) ?_
  intro A n1 c1
  refine At.toJ (RowF.stable) RowF.fewer 20 300 [2, 5, 6, 7, 13, 17] 3 ⟨pops B16 [1, 1, 1, 0, 1, 4, 4, 1, 1, 0, 4, 1, 0] 1, [.seq (sub B16 [1, 1, 1, 0, 1, 4, 4, 1, 1, 0, 4, 1, 1]), .block 1, .seq (sub B16 [1, 1, 1, 0, 1, 4, 4, 1, 1, 1]), .rounds (sub B16 [1, 1, 1, 0, 1, 4, 4]) 19, .block 0, .seq (sub B16 [1, 1, 1, 1])], [(2, .lp 0 0), (5, .lp 1 0), (6, .lp 2 0), (7, .v (.int .i64 0)), (13, .v (.int .i64 0)), (17, .lp 1 0)], [([.v (.int .i64 0), .v (.int .i64 0), .v (.int .i64 0), .v (.int .i64 0), .v (.int .i64 0), .v (.int .i64 0), .v (.int .i64 0), .v (.int .i64 0), .v (.int .i64 0), .v (.bool false)], 24), ([.sl A n1 c1, .v (.int .i64 0)], 103), ([.v (.int .i64 0), .v (.int .i64 0), .v (.int .i64 0), .v (.int .i64 0), .v (.int .i64 0), .v (.int .i64 0), .v (.int .i64 0), .v (.int .i64 0), .v (.int .i64 0), .v (.int .i64 0)], 50)]⟩ (by kernel_rfl) (by kernel_rfl) ?_
  have hb0 : (0 : Int) ≤ 0 ∧ (0 : Int) ≤ bs.length := ⟨by omega, by omega⟩

  rcases hR0 : rd (bs.drop (0 : Int).toNat) 0 0 0 with ⟨e0, x0, q0⟩
  refine At.lend 43 [.lp 1 0] [1] (.tup [.io .u64 x0, .io .i64 e0]) [([.sl A n1 c1, .io .i64 (bif e0 == 0 then q0 else 0)], 103)] RowF.stable (by kernel_rfl) (by kernel_rfl) (by kernel_rfl) (by kernel_rfl) (by kernel_rfl) (by kernel_rfl) ⟨rfl, rfl⟩ (fun ρ w1 hm hf => ?_) ?_
  · have hk := rnum_lend w.heap.size A n1 c1 bs hbs 0 hb0 hn (nth ρ 1) w1 hf.1.2 hf.1.1.1 (hm.cells 1 _ _ rfl) (hm.ge _ (nth_mem (by simp [hm.len]))).1 (fun h => hf.1.1.2 _ h (nth_mem (by simp [hm.len])))
    rw [hR0] at hk
    refine hk.mono ?_
    rintro e' w' ⟨h1, h2, h3⟩
    exact ⟨h1, ⟨_, h2⟩, h3⟩
  refine At.toJ (RowF.stable) RowF.fewer 20 300 [2, 5, 6, 7, 8, 13, 23] 3 ⟨pops B16 [1, 1, 1, 0, 1, 4, 4, 1, 1, 0, 4, 1, 1, 0, 0] 3, [.seq (sub B16 [1, 1, 1, 0, 1, 4, 4, 1, 1, 0, 4, 1, 1, 0, 1]), .seq (sub B16 [1, 1, 1, 0, 1, 4, 4, 1, 1, 0, 4, 1, 1, 1]), .block 1, .seq (sub B16 [1, 1, 1, 0, 1, 4, 4, 1, 1, 1]), .rounds (sub B16 [1, 1, 1, 0, 1, 4, 4]) 19, .block 0, .seq (sub B16 [1, 1, 1, 1])], [(2, .lp 0 0), (5, .lp 1 0), (6, .lp 2 0), (7, .v (.int .i64 0)), (8, .io IntKind.u64 x0), (13, .v (.int .i64 0)), (23, .bo (e0 != 0))], [([.v (.int .i64 0), .v (.int .i64 0), .v (.int .i64 0), .v (.int .i64 0), .v (.int .i64 0), .v (.int .i64 0), .v (.int .i64 0), .v (.int .i64 0), .v (.int .i64 0), .v (.bool false)], 24), ([.sl A n1 c1, .io .i64 (bif e0 == 0 then q0 else 0)], 103), ([.v (.int .i64 0), .v (.int .i64 0), .v (.int .i64 0), .v (.int .i64 0), .v (.int .i64 0), .v (.int .i64 0), .v (.int .i64 0), .v (.int .i64 0), .v (.int .i64 0), .v (.int .i64 0)], 50)]⟩ (by kernel_rfl) (by kernel_rfl) ?_
  rcases Bool.eq_false_or_eq_true (e0 != 0) with b0 | b0
  · refine At.res 23 (e0 != 0) true (by kernel_rfl) b0 ?_
    refine At.toJ (RowF.stable) RowF.fewer 20 300 [2, 3, 4] 1 ⟨.exit .ret, [], [(2, .lp 0 0), (3, .v (.int .i64 0)), (4, .v (.int .i64 210))], [([.v (.int .i64 0), .v (.int .i64 0), .v (.int .i64 0), .v (.int .i64 0), .v (.int .i64 0), .v (.int .i64 0), .v (.int .i64 0), .v (.int .i64 0), .v (.int .i64 0), .v (.bool false)], 24)]⟩ (by kernel_rfl) (by kernel_rfl) ?_
    refine At.ret (by kernel_rfl) (.tup [.agg [.v (.int .i64 0), .v (.int .i64 0), .v (.int .i64 0), .v (.int .i64 0), .v (.int .i64 0), .v (.int .i64 0), .v (.int .i64 0), .v (.int .i64 0), .v (.int .i64 0), .v (.bool false)], .v (.int .i64 0), .v (.int .i64 210)]) (by kernel_rfl) ?_
    have hq : readL 10 bs 0 = none := by rw [readL_e hR0 b0]
    intro ρ w9 hm hf
    exact ⟨by rw [hq]; rfl, hm.below⟩
  · refine At.res 23 (e0 != 0) false (by kernel_rfl) b0 ?_
    refine At.toJ (RowF.stable) RowF.fewer 20 300 [2, 5, 6, 7, 8, 13, 26] 3 ⟨.code (sub B16 [1, 1, 1, 0, 1, 4, 4, 1, 1, 0, 4, 1, 1, 0, 1]), [.seq (sub B16 [1, 1, 1, 0, 1, 4, 4, 1, 1, 0, 4, 1, 1, 1]), .block 1, .seq (sub B16 [1, 1, 1, 0, 1, 4, 4, 1, 1, 1]), .rounds (sub B16 [1, 1, 1, 0, 1, 4, 4]) 19, .block 0, .seq (sub B16 [1, 1, 1, 1])], [(2, .lp 0 0), (5, .lp 1 0), (6, .lp 2 0), (7, .v (.int .i64 0)), (8, .io IntKind.u64 x0), (13, .v (.int .i64 0)), (26, .bo (decide (x0 > 1099511627776)))], [([.v (.int .i64 0), .v (.int .i64 0), .v (.int .i64 0), .v (.int .i64 0), .v (.int .i64 0), .v (.int .i64 0), .v (.int .i64 0), .v (.int .i64 0), .v (.int .i64 0), .v (.bool false)], 24), ([.sl A n1 c1, .io .i64 (bif e0 == 0 then q0 else 0)], 103), ([.v (.int .i64 0), .v (.int .i64 0), .v (.int .i64 0), .v (.int .i64 0), .v (.int .i64 0), .v (.int .i64 0), .v (.int .i64 0), .v (.int .i64 0), .v (.int .i64 0), .v (.int .i64 0)], 50)]⟩ (by kernel_rfl) (by kernel_rfl) ?_
    rcases Bool.eq_false_or_eq_true (decide (x0 > 1099511627776)) with b1 | b1
    · refine At.res 26 (decide (x0 > 1099511627776)) true (by kernel_rfl) b1 ?_
      refine At.toJ (RowF.stable) RowF.fewer 20 300 [2, 3, 4] 1 ⟨.exit .ret, [], [(2, .lp 0 0), (3, .v (.int .i64 0)), (4, .v (.int .i64 210))], [([.v (.int .i64 0), .v (.int .i64 0), .v (.int .i64 0), .v (.int .i64 0), .v (.int .i64 0), .v (.int .i64 0), .v (.int .i64 0), .v (.int .i64 0), .v (.int .i64 0), .v (.bool false)], 24)]⟩ (by kernel_rfl) (by kernel_rfl) ?_
      refine At.ret (by kernel_rfl) (.tup [.agg [.v (.int .i64 0), .v (.int .i64 0), .v (.int .i64 0), .v (.int .i64 0), .v (.int .i64 0), .v (.int .i64 0), .v (.int .i64 0), .v (.int .i64 0), .v (.int .i64 0), .v (.bool false)], .v (.int .i64 0), .v (.int .i64 210)]) (by kernel_rfl) ?_
      have hq : readL 10 bs 0 = none := by rw [readL_x hR0 b0 b1]
      intro ρ w9 hm hf
      exact ⟨by rw [hq]; rfl, hm.below⟩
    · refine At.res 26 (decide (x0 > 1099511627776)) false (by kernel_rfl) b1 ?_
      refine At.toJ (RowF.stable) RowF.fewer 20 300 [2, 5, 6, 7, 13, 17] 3 ⟨pops B16 [1, 1, 1, 0, 1, 4, 4, 1, 1, 0, 4, 1, 0] 1, [.seq (sub B16 [1, 1, 1, 0, 1, 4, 4, 1, 1, 0, 4, 1, 1]), .block 1, .seq (sub B16 [1, 1, 1, 0, 1, 4, 4, 1, 1, 1]), .rounds (sub B16 [1, 1, 1, 0, 1, 4, 4]) 18, .block 0, .seq (sub B16 [1, 1, 1, 1])], [(2, .lp 0 0), (5, .lp 1 0), (6, .lp 2 0), (7, .v (.int .i64 1)), (13, .v (.int .i64 1)), (17, .lp 1 0)], [([.v (.int .i64 0), .v (.int .i64 0), .v (.int .i64 0), .v (.int .i64 0), .v (.int .i64 0), .v (.int .i64 0), .v (.int .i64 0), .v (.int .i64 0), .v (.int .i64 0), .v (.bool false)], 24), ([.sl A n1 c1, .io .i64 (bif e0 == 0 then q0 else 0)], 103), ([.io .i64 (IntKind.i64.wrap x0), .v (.int .i64 0), .v (.int .i64 0), .v (.int .i64 0), .v (.int .i64 0), .v (.int .i64 0), .v (.int .i64 0), .v (.int .i64 0), .v (.int .i64 0), .v (.int .i64 0)], 50)]⟩ (by kernel_rfl) (by kernel_rfl) ?_
      have he0 : e0 = 0 := by simpa using b0
      subst he0
      have hx0 : x0 ≤ 1099511627776 := by simpa using b1
      have hb1 := rd_bound hb0 hR0
      rw [show (bif ((0 : Int) == 0) then q0 else 0) = q0 from rfl]
      generalize hy0 : IntKind.i64.wrap x0 = y0

      rcases hR1 : rd (bs.drop (q0 : Int).toNat) q0 0 0 with ⟨e1, x1, q1⟩
      refine At.lend 43 [.lp 1 0] [1] (.tup [.io .u64 x1, .io .i64 e1]) [([.sl A n1 c1, .io .i64 (bif e1 == 0 then q1 else q0)], 103)] RowF.stable (by kernel_rfl) (by kernel_rfl) (by kernel_rfl) (by kernel_rfl) (by kernel_rfl) (by kernel_rfl) ⟨rfl, rfl⟩ (fun ρ w1 hm hf => ?_) ?_
      · have hk := rnum_lend w.heap.size A n1 c1 bs hbs q0 hb1 hn (nth ρ 1) w1 hf.1.2 hf.1.1.1 (hm.cells 1 _ _ rfl) (hm.ge _ (nth_mem (by simp [hm.len]))).1 (fun h => hf.1.1.2 _ h (nth_mem (by simp [hm.len])))
        rw [hR1] at hk
        refine hk.mono ?_
        rintro e' w' ⟨h1, h2, h3⟩
        exact ⟨h1, ⟨_, h2⟩, h3⟩
      refine At.toJ (RowF.stable) RowF.fewer 20 300 [2, 5, 6, 7, 8, 13, 23] 3 ⟨pops B16 [1, 1, 1, 0, 1, 4, 4, 1, 1, 0, 4, 1, 1, 0, 0] 3, [.seq (sub B16 [1, 1, 1, 0, 1, 4, 4, 1, 1, 0, 4, 1, 1, 0, 1]), .seq (sub B16 [1, 1, 1, 0, 1, 4, 4, 1, 1, 0, 4, 1, 1, 1]), .block 1, .seq (sub B16 [1, 1, 1, 0, 1, 4, 4, 1, 1, 1]), .rounds (sub B16 [1, 1, 1, 0, 1, 4, 4]) 18, .block 0, .seq (sub B16 [1, 1, 1, 1])], [(2, .lp 0 0), (5, .lp 1 0), (6, .lp 2 0), (7, .v (.int .i64 1)), (8, .io IntKind.u64 x1), (13, .v (.int .i64 1)), (23, .bo (e1 != 0))], [([.v (.int .i64 0), .v (.int .i64 0), .v (.int .i64 0), .v (.int .i64 0), .v (.int .i64 0), .v (.int .i64 0), .v (.int .i64 0), .v (.int .i64 0), .v (.int .i64 0), .v (.bool false)], 24), ([.sl A n1 c1, .io .i64 (bif e1 == 0 then q1 else q0)], 103), ([.io .i64 y0, .v (.int .i64 0), .v (.int .i64 0), .v (.int .i64 0), .v (.int .i64 0), .v (.int .i64 0), .v (.int .i64 0), .v (.int .i64 0), .v (.int .i64 0), .v (.int .i64 0)], 50)]⟩ (by kernel_rfl) (by kernel_rfl) ?_
      rcases Bool.eq_false_or_eq_true (e1 != 0) with b0 | b0
      · refine At.res 23 (e1 != 0) true (by kernel_rfl) b0 ?_
        refine At.toJ (RowF.stable) RowF.fewer 20 300 [2, 3, 4] 1 ⟨.exit .ret, [], [(2, .lp 0 0), (3, .v (.int .i64 0)), (4, .v (.int .i64 210))], [([.v (.int .i64 0), .v (.int .i64 0), .v (.int .i64 0), .v (.int .i64 0), .v (.int .i64 0), .v (.int .i64 0), .v (.int .i64 0), .v (.int .i64 0), .v (.int .i64 0), .v (.bool false)], 24)]⟩ (by kernel_rfl) (by kernel_rfl) ?_
        refine At.ret (by kernel_rfl) (.tup [.agg [.v (.int .i64 0), .v (.int .i64 0), .v (.int .i64 0), .v (.int .i64 0), .v (.int .i64 0), .v (.int .i64 0), .v (.int .i64 0), .v (.int .i64 0), .v (.int .i64 0), .v (.bool false)], .v (.int .i64 0), .v (.int .i64 210)]) (by kernel_rfl) ?_
        have hq : readL 10 bs 0 = none := by rw [readL_s hR0 hx0, readL_e hR1 b0]; rfl
        intro ρ w9 hm hf
        exact ⟨by rw [hq]; rfl, hm.below⟩
      · refine At.res 23 (e1 != 0) false (by kernel_rfl) b0 ?_
        refine At.toJ (RowF.stable) RowF.fewer 20 300 [2, 5, 6, 7, 8, 13, 26] 3 ⟨.code (sub B16 [1, 1, 1, 0, 1, 4, 4, 1, 1, 0, 4, 1, 1, 0, 1]), [.seq (sub B16 [1, 1, 1, 0, 1, 4, 4, 1, 1, 0, 4, 1, 1, 1]), .block 1, .seq (sub B16 [1, 1, 1, 0, 1, 4, 4, 1, 1, 1]), .rounds (sub B16 [1, 1, 1, 0, 1, 4, 4]) 18, .block 0, .seq (sub B16 [1, 1, 1, 1])], [(2, .lp 0 0), (5, .lp 1 0), (6, .lp 2 0), (7, .v (.int .i64 1)), (8, .io IntKind.u64 x1), (13, .v (.int .i64 1)), (26, .bo (decide (x1 > 1099511627776)))], [([.v (.int .i64 0), .v (.int .i64 0), .v (.int .i64 0), .v (.int .i64 0), .v (.int .i64 0), .v (.int .i64 0), .v (.int .i64 0), .v (.int .i64 0), .v (.int .i64 0), .v (.bool false)], 24), ([.sl A n1 c1, .io .i64 (bif e1 == 0 then q1 else q0)], 103), ([.io .i64 y0, .v (.int .i64 0), .v (.int .i64 0), .v (.int .i64 0), .v (.int .i64 0), .v (.int .i64 0), .v (.int .i64 0), .v (.int .i64 0), .v (.int .i64 0), .v (.int .i64 0)], 50)]⟩ (by kernel_rfl) (by kernel_rfl) ?_
        rcases Bool.eq_false_or_eq_true (decide (x1 > 1099511627776)) with b1 | b1
        · refine At.res 26 (decide (x1 > 1099511627776)) true (by kernel_rfl) b1 ?_
          refine At.toJ (RowF.stable) RowF.fewer 20 300 [2, 3, 4] 1 ⟨.exit .ret, [], [(2, .lp 0 0), (3, .v (.int .i64 0)), (4, .v (.int .i64 210))], [([.v (.int .i64 0), .v (.int .i64 0), .v (.int .i64 0), .v (.int .i64 0), .v (.int .i64 0), .v (.int .i64 0), .v (.int .i64 0), .v (.int .i64 0), .v (.int .i64 0), .v (.bool false)], 24)]⟩ (by kernel_rfl) (by kernel_rfl) ?_
          refine At.ret (by kernel_rfl) (.tup [.agg [.v (.int .i64 0), .v (.int .i64 0), .v (.int .i64 0), .v (.int .i64 0), .v (.int .i64 0), .v (.int .i64 0), .v (.int .i64 0), .v (.int .i64 0), .v (.int .i64 0), .v (.bool false)], .v (.int .i64 0), .v (.int .i64 210)]) (by kernel_rfl) ?_
          have hq : readL 10 bs 0 = none := by rw [readL_s hR0 hx0, readL_x hR1 b0 b1]; rfl
          intro ρ w9 hm hf
          exact ⟨by rw [hq]; rfl, hm.below⟩
        · refine At.res 26 (decide (x1 > 1099511627776)) false (by kernel_rfl) b1 ?_
          refine At.toJ (RowF.stable) RowF.fewer 20 300 [2, 5, 6, 7, 13, 17] 3 ⟨pops B16 [1, 1, 1, 0, 1, 4, 4, 1, 1, 0, 4, 1, 0] 1, [.seq (sub B16 [1, 1, 1, 0, 1, 4, 4, 1, 1, 0, 4, 1, 1]), .block 1, .seq (sub B16 [1, 1, 1, 0, 1, 4, 4, 1, 1, 1]), .rounds (sub B16 [1, 1, 1, 0, 1, 4, 4]) 17, .block 0, .seq (sub B16 [1, 1, 1, 1])], [(2, .lp 0 0), (5, .lp 1 0), (6, .lp 2 0), (7, .v (.int .i64 2)), (13, .v (.int .i64 2)), (17, .lp 1 0)], [([.v (.int .i64 0), .v (.int .i64 0), .v (.int .i64 0), .v (.int .i64 0), .v (.int .i64 0), .v (.int .i64 0), .v (.int .i64 0), .v (.int .i64 0), .v (.int .i64 0), .v (.bool false)], 24), ([.sl A n1 c1, .io .i64 (bif e1 == 0 then q1 else q0)], 103), ([.io .i64 y0, .io .i64 (IntKind.i64.wrap x1), .v (.int .i64 0), .v (.int .i64 0), .v (.int .i64 0), .v (.int .i64 0), .v (.int .i64 0), .v (.int .i64 0), .v (.int .i64 0), .v (.int .i64 0)], 50)]⟩ (by kernel_rfl) (by kernel_rfl) ?_
          have he1 : e1 = 0 := by simpa using b0
          subst he1
          have hx1 : x1 ≤ 1099511627776 := by simpa using b1
          have hb2 := rd_bound hb1 hR1
          rw [show (bif ((0 : Int) == 0) then q1 else q0) = q1 from rfl]
          generalize hy1 : IntKind.i64.wrap x1 = y1

          rcases hR2 : rd (bs.drop (q1 : Int).toNat) q1 0 0 with ⟨e2, x2, q2⟩
          refine At.lend 43 [.lp 1 0] [1] (.tup [.io .u64 x2, .io .i64 e2]) [([.sl A n1 c1, .io .i64 (bif e2 == 0 then q2 else q1)], 103)] RowF.stable (by kernel_rfl) (by kernel_rfl) (by kernel_rfl) (by kernel_rfl) (by kernel_rfl) (by kernel_rfl) ⟨rfl, rfl⟩ (fun ρ w1 hm hf => ?_) ?_
          · have hk := rnum_lend w.heap.size A n1 c1 bs hbs q1 hb2 hn (nth ρ 1) w1 hf.1.2 hf.1.1.1 (hm.cells 1 _ _ rfl) (hm.ge _ (nth_mem (by simp [hm.len]))).1 (fun h => hf.1.1.2 _ h (nth_mem (by simp [hm.len])))
            rw [hR2] at hk
            refine hk.mono ?_
            rintro e' w' ⟨h1, h2, h3⟩
            exact ⟨h1, ⟨_, h2⟩, h3⟩
          refine At.toJ (RowF.stable) RowF.fewer 20 300 [2, 5, 6, 7, 8, 13, 23] 3 ⟨pops B16 [1, 1, 1, 0, 1, 4, 4, 1, 1, 0, 4, 1, 1, 0, 0] 3, [.seq (sub B16 [1, 1, 1, 0, 1, 4, 4, 1, 1, 0, 4, 1, 1, 0, 1]), .seq (sub B16 [1, 1, 1, 0, 1, 4, 4, 1, 1, 0, 4, 1, 1, 1]), .block 1, .seq (sub B16 [1, 1, 1, 0, 1, 4, 4, 1, 1, 1]), .rounds (sub B16 [1, 1, 1, 0, 1, 4, 4]) 17, .block 0, .seq (sub B16 [1, 1, 1, 1])], [(2, .lp 0 0), (5, .lp 1 0), (6, .lp 2 0), (7, .v (.int .i64 2)), (8, .io IntKind.u64 x2), (13, .v (.int .i64 2)), (23, .bo (e2 != 0))], [([.v (.int .i64 0), .v (.int .i64 0), .v (.int .i64 0), .v (.int .i64 0), .v (.int .i64 0), .v (.int .i64 0), .v (.int .i64 0), .v (.int .i64 0), .v (.int .i64 0), .v (.bool false)], 24), ([.sl A n1 c1, .io .i64 (bif e2 == 0 then q2 else q1)], 103), ([.io .i64 y0, .io .i64 y1, .v (.int .i64 0), .v (.int .i64 0), .v (.int .i64 0), .v (.int .i64 0), .v (.int .i64 0), .v (.int .i64 0), .v (.int .i64 0), .v (.int .i64 0)], 50)]⟩ (by kernel_rfl) (by kernel_rfl) ?_
          rcases Bool.eq_false_or_eq_true (e2 != 0) with b0 | b0
          · refine At.res 23 (e2 != 0) true (by kernel_rfl) b0 ?_
            refine At.toJ (RowF.stable) RowF.fewer 20 300 [2, 3, 4] 1 ⟨.exit .ret, [], [(2, .lp 0 0), (3, .v (.int .i64 0)), (4, .v (.int .i64 210))], [([.v (.int .i64 0), .v (.int .i64 0), .v (.int .i64 0), .v (.int .i64 0), .v (.int .i64 0), .v (.int .i64 0), .v (.int .i64 0), .v (.int .i64 0), .v (.int .i64 0), .v (.bool false)], 24)]⟩ (by kernel_rfl) (by kernel_rfl) ?_
            refine At.ret (by kernel_rfl) (.tup [.agg [.v (.int .i64 0), .v (.int .i64 0), .v (.int .i64 0), .v (.int .i64 0), .v (.int .i64 0), .v (.int .i64 0), .v (.int .i64 0), .v (.int .i64 0), .v (.int .i64 0), .v (.bool false)], .v (.int .i64 0), .v (.int .i64 210)]) (by kernel_rfl) ?_
            have hq : readL 10 bs 0 = none := by rw [readL_s hR0 hx0, readL_s hR1 hx1, readL_e hR2 b0]; rfl
            intro ρ w9 hm hf
            exact ⟨by rw [hq]; rfl, hm.below⟩
          · refine At.res 23 (e2 != 0) false (by kernel_rfl) b0 ?_
            refine At.toJ (RowF.stable) RowF.fewer 20 300 [2, 5, 6, 7, 8, 13, 26] 3 ⟨.code (sub B16 [1, 1, 1, 0, 1, 4, 4, 1, 1, 0, 4, 1, 1, 0, 1]), [.seq (sub B16 [1, 1, 1, 0, 1, 4, 4, 1, 1, 0, 4, 1, 1, 1]), .block 1, .seq (sub B16 [1, 1, 1, 0, 1, 4, 4, 1, 1, 1]), .rounds (sub B16 [1, 1, 1, 0, 1, 4, 4]) 17, .block 0, .seq (sub B16 [1, 1, 1, 1])], [(2, .lp 0 0), (5, .lp 1 0), (6, .lp 2 0), (7, .v (.int .i64 2)), (8, .io IntKind.u64 x2), (13, .v (.int .i64 2)), (26, .bo (decide (x2 > 1099511627776)))], [([.v (.int .i64 0), .v (.int .i64 0), .v (.int .i64 0), .v (.int .i64 0), .v (.int .i64 0), .v (.int .i64 0), .v (.int .i64 0), .v (.int .i64 0), .v (.int .i64 0), .v (.bool false)], 24), ([.sl A n1 c1, .io .i64 (bif e2 == 0 then q2 else q1)], 103), ([.io .i64 y0, .io .i64 y1, .v (.int .i64 0), .v (.int .i64 0), .v (.int .i64 0), .v (.int .i64 0), .v (.int .i64 0), .v (.int .i64 0), .v (.int .i64 0), .v (.int .i64 0)], 50)]⟩ (by kernel_rfl) (by kernel_rfl) ?_
            rcases Bool.eq_false_or_eq_true (decide (x2 > 1099511627776)) with b1 | b1
            · refine At.res 26 (decide (x2 > 1099511627776)) true (by kernel_rfl) b1 ?_
              refine At.toJ (RowF.stable) RowF.fewer 20 300 [2, 3, 4] 1 ⟨.exit .ret, [], [(2, .lp 0 0), (3, .v (.int .i64 0)), (4, .v (.int .i64 210))], [([.v (.int .i64 0), .v (.int .i64 0), .v (.int .i64 0), .v (.int .i64 0), .v (.int .i64 0), .v (.int .i64 0), .v (.int .i64 0), .v (.int .i64 0), .v (.int .i64 0), .v (.bool false)], 24)]⟩ (by kernel_rfl) (by kernel_rfl) ?_
              refine At.ret (by kernel_rfl) (.tup [.agg [.v (.int .i64 0), .v (.int .i64 0), .v (.int .i64 0), .v (.int .i64 0), .v (.int .i64 0), .v (.int .i64 0), .v (.int .i64 0), .v (.int .i64 0), .v (.int .i64 0), .v (.bool false)], .v (.int .i64 0), .v (.int .i64 210)]) (by kernel_rfl) ?_
              have hq : readL 10 bs 0 = none := by rw [readL_s hR0 hx0, readL_s hR1 hx1, readL_x hR2 b0 b1]; rfl
              intro ρ w9 hm hf
              exact ⟨by rw [hq]; rfl, hm.below⟩
            · refine At.res 26 (decide (x2 > 1099511627776)) false (by kernel_rfl) b1 ?_
              refine At.toJ (RowF.stable) RowF.fewer 20 300 [2, 5, 6, 7, 13, 17] 3 ⟨pops B16 [1, 1, 1, 0, 1, 4, 4, 1, 1, 0, 4, 1, 0] 1, [.seq (sub B16 [1, 1, 1, 0, 1, 4, 4, 1, 1, 0, 4, 1, 1]), .block 1, .seq (sub B16 [1, 1, 1, 0, 1, 4, 4, 1, 1, 1]), .rounds (sub B16 [1, 1, 1, 0, 1, 4, 4]) 16, .block 0, .seq (sub B16 [1, 1, 1, 1])], [(2, .lp 0 0), (5, .lp 1 0), (6, .lp 2 0), (7, .v (.int .i64 3)), (13, .v (.int .i64 3)), (17, .lp 1 0)], [([.v (.int .i64 0), .v (.int .i64 0), .v (.int .i64 0), .v (.int .i64 0), .v (.int .i64 0), .v (.int .i64 0), .v (.int .i64 0), .v (.int .i64 0), .v (.int .i64 0), .v (.bool false)], 24), ([.sl A n1 c1, .io .i64 (bif e2 == 0 then q2 else q1)], 103), ([.io .i64 y0, .io .i64 y1, .io .i64 (IntKind.i64.wrap x2), .v (.int .i64 0), .v (.int .i64 0), .v (.int .i64 0), .v (.int .i64 0), .v (.int .i64 0), .v (.int .i64 0), .v (.int .i64 0)], 50)]⟩ (by kernel_rfl) (by kernel_rfl) ?_
              have he2 : e2 = 0 := by simpa using b0
              subst he2
              have hx2 : x2 ≤ 1099511627776 := by simpa using b1
              have hb3 := rd_bound hb2 hR2
              rw [show (bif ((0 : Int) == 0) then q2 else q1) = q2 from rfl]
              generalize hy2 : IntKind.i64.wrap x2 = y2

              rcases hR3 : rd (bs.drop (q2 : Int).toNat) q2 0 0 with ⟨e3, x3, q3⟩
              refine At.lend 43 [.lp 1 0] [1] (.tup [.io .u64 x3, .io .i64 e3]) [([.sl A n1 c1, .io .i64 (bif e3 == 0 then q3 else q2)], 103)] RowF.stable (by kernel_rfl) (by kernel_rfl) (by kernel_rfl) (by kernel_rfl) (by kernel_rfl) (by kernel_rfl) ⟨rfl, rfl⟩ (fun ρ w1 hm hf => ?_) ?_
              · have hk := rnum_lend w.heap.size A n1 c1 bs hbs q2 hb3 hn (nth ρ 1) w1 hf.1.2 hf.1.1.1 (hm.cells 1 _ _ rfl) (hm.ge _ (nth_mem (by simp [hm.len]))).1 (fun h => hf.1.1.2 _ h (nth_mem (by simp [hm.len])))
                rw [hR3] at hk
                refine hk.mono ?_
                rintro e' w' ⟨h1, h2, h3⟩
                exact ⟨h1, ⟨_, h2⟩, h3⟩
              refine At.toJ (RowF.stable) RowF.fewer 20 300 [2, 5, 6, 7, 8, 13, 23] 3 ⟨pops B16 [1, 1, 1, 0, 1, 4, 4, 1, 1, 0, 4, 1, 1, 0, 0] 3, [.seq (sub B16 [1, 1, 1, 0, 1, 4, 4, 1, 1, 0, 4, 1, 1, 0, 1]), .seq (sub B16 [1, 1, 1, 0, 1, 4, 4, 1, 1, 0, 4, 1, 1, 1]), .block 1, .seq (sub B16 [1, 1, 1, 0, 1, 4, 4, 1, 1, 1]), .rounds (sub B16 [1, 1, 1, 0, 1, 4, 4]) 16, .block 0, .seq (sub B16 [1, 1, 1, 1])], [(2, .lp 0 0), (5, .lp 1 0), (6, .lp 2 0), (7, .v (.int .i64 3)), (8, .io IntKind.u64 x3), (13, .v (.int .i64 3)), (23, .bo (e3 != 0))], [([.v (.int .i64 0), .v (.int .i64 0), .v (.int .i64 0), .v (.int .i64 0), .v (.int .i64 0), .v (.int .i64 0), .v (.int .i64 0), .v (.int .i64 0), .v (.int .i64 0), .v (.bool false)], 24), ([.sl A n1 c1, .io .i64 (bif e3 == 0 then q3 else q2)], 103), ([.io .i64 y0, .io .i64 y1, .io .i64 y2, .v (.int .i64 0), .v (.int .i64 0), .v (.int .i64 0), .v (.int .i64 0), .v (.int .i64 0), .v (.int .i64 0), .v (.int .i64 0)], 50)]⟩ (by kernel_rfl) (by kernel_rfl) ?_
              rcases Bool.eq_false_or_eq_true (e3 != 0) with b0 | b0
              · refine At.res 23 (e3 != 0) true (by kernel_rfl) b0 ?_
                refine At.toJ (RowF.stable) RowF.fewer 20 300 [2, 3, 4] 1 ⟨.exit .ret, [], [(2, .lp 0 0), (3, .v (.int .i64 0)), (4, .v (.int .i64 210))], [([.v (.int .i64 0), .v (.int .i64 0), .v (.int .i64 0), .v (.int .i64 0), .v (.int .i64 0), .v (.int .i64 0), .v (.int .i64 0), .v (.int .i64 0), .v (.int .i64 0), .v (.bool false)], 24)]⟩ (by kernel_rfl) (by kernel_rfl) ?_
                refine At.ret (by kernel_rfl) (.tup [.agg [.v (.int .i64 0), .v (.int .i64 0), .v (.int .i64 0), .v (.int .i64 0), .v (.int .i64 0), .v (.int .i64 0), .v (.int .i64 0), .v (.int .i64 0), .v (.int .i64 0), .v (.bool false)], .v (.int .i64 0), .v (.int .i64 210)]) (by kernel_rfl) ?_
                have hq : readL 10 bs 0 = none := by rw [readL_s hR0 hx0, readL_s hR1 hx1, readL_s hR2 hx2, readL_e hR3 b0]; rfl
                intro ρ w9 hm hf
                exact ⟨by rw [hq]; rfl, hm.below⟩
              · refine At.res 23 (e3 != 0) false (by kernel_rfl) b0 ?_
                refine At.toJ (RowF.stable) RowF.fewer 20 300 [2, 5, 6, 7, 8, 13, 26] 3 ⟨.code (sub B16 [1, 1, 1, 0, 1, 4, 4, 1, 1, 0, 4, 1, 1, 0, 1]), [.seq (sub B16 [1, 1, 1, 0, 1, 4, 4, 1, 1, 0, 4, 1, 1, 1]), .block 1, .seq (sub B16 [1, 1, 1, 0, 1, 4, 4, 1, 1, 1]), .rounds (sub B16 [1, 1, 1, 0, 1, 4, 4]) 16, .block 0, .seq (sub B16 [1, 1, 1, 1])], [(2, .lp 0 0), (5, .lp 1 0), (6, .lp 2 0), (7, .v (.int .i64 3)), (8, .io IntKind.u64 x3), (13, .v (.int .i64 3)), (26, .bo (decide (x3 > 1099511627776)))], [([.v (.int .i64 0), .v (.int .i64 0), .v (.int .i64 0), .v (.int .i64 0), .v (.int .i64 0), .v (.int .i64 0), .v (.int .i64 0), .v (.int .i64 0), .v (.int .i64 0), .v (.bool false)], 24), ([.sl A n1 c1, .io .i64 (bif e3 == 0 then q3 else q2)], 103), ([.io .i64 y0, .io .i64 y1, .io .i64 y2, .v (.int .i64 0), .v (.int .i64 0), .v (.int .i64 0), .v (.int .i64 0), .v (.int .i64 0), .v (.int .i64 0), .v (.int .i64 0)], 50)]⟩ (by kernel_rfl) (by kernel_rfl) ?_
                rcases Bool.eq_false_or_eq_true (decide (x3 > 1099511627776)) with b1 | b1
                · refine At.res 26 (decide (x3 > 1099511627776)) true (by kernel_rfl) b1 ?_
                  refine At.toJ (RowF.stable) RowF.fewer 20 300 [2, 3, 4] 1 ⟨.exit .ret, [], [(2, .lp 0 0), (3, .v (.int .i64 0)), (4, .v (.int .i64 210))], [([.v (.int .i64 0), .v (.int .i64 0), .v (.int .i64 0), .v (.int .i64 0), .v (.int .i64 0), .v (.int .i64 0), .v (.int .i64 0), .v (.int .i64 0), .v (.int .i64 0), .v (.bool false)], 24)]⟩ (by kernel_rfl) (by kernel_rfl) ?_
                  refine At.ret (by kernel_rfl) (.tup [.agg [.v (.int .i64 0), .v (.int .i64 0), .v (.int .i64 0), .v (.int .i64 0), .v (.int .i64 0), .v (.int .i64 0), .v (.int .i64 0), .v (.int .i64 0), .v (.int .i64 0), .v (.bool false)], .v (.int .i64 0), .v (.int .i64 210)]) (by kernel_rfl) ?_
                  have hq : readL 10 bs 0 = none := by rw [readL_s hR0 hx0, readL_s hR1 hx1, readL_s hR2 hx2, readL_x hR3 b0 b1]; rfl
                  intro ρ w9 hm hf
                  exact ⟨by rw [hq]; rfl, hm.below⟩
                · refine At.res 26 (decide (x3 > 1099511627776)) false (by kernel_rfl) b1 ?_
                  refine At.toJ (RowF.stable) RowF.fewer 20 300 [2, 5, 6, 7, 13, 17] 3 ⟨pops B16 [1, 1, 1, 0, 1, 4, 4, 1, 1, 0, 4, 1, 0] 1, [.seq (sub B16 [1, 1, 1, 0, 1, 4, 4, 1, 1, 0, 4, 1, 1]), .block 1, .seq (sub B16 [1, 1, 1, 0, 1, 4, 4, 1, 1, 1]), .rounds (sub B16 [1, 1, 1, 0, 1, 4, 4]) 15, .block 0, .seq (sub B16 [1, 1, 1, 1])], [(2, .lp 0 0), (5, .lp 1 0), (6, .lp 2 0), (7, .v (.int .i64 4)), (13, .v (.int .i64 4)), (17, .lp 1 0)], [([.v (.int .i64 0), .v (.int .i64 0), .v (.int .i64 0), .v (.int .i64 0), .v (.int .i64 0), .v (.int .i64 0), .v (.int .i64 0), .v (.int .i64 0), .v (.int .i64 0), .v (.bool false)], 24), ([.sl A n1 c1, .io .i64 (bif e3 == 0 then q3 else q2)], 103), ([.io .i64 y0, .io .i64 y1, .io .i64 y2, .io .i64 (IntKind.i64.wrap x3), .v (.int .i64 0), .v (.int .i64 0), .v (.int .i64 0), .v (.int .i64 0), .v (.int .i64 0), .v (.int .i64 0)], 50)]⟩ (by kernel_rfl) (by kernel_rfl) ?_
                  have he3 : e3 = 0 := by simpa using b0
                  subst he3
                  have hx3 : x3 ≤ 1099511627776 := by simpa using b1
                  have hb4 := rd_bound hb3 hR3
                  rw [show (bif ((0 : Int) == 0) then q3 else q2) = q3 from rfl]
                  generalize hy3 : IntKind.i64.wrap x3 = y3

                  rcases hR4 : rd (bs.drop (q3 : Int).toNat) q3 0 0 with ⟨e4, x4, q4⟩
                  refine At.lend 43 [.lp 1 0] [1] (.tup [.io .u64 x4, .io .i64 e4]) [([.sl A n1 c1, .io .i64 (bif e4 == 0 then q4 else q3)], 103)] RowF.stable (by kernel_rfl) (by kernel_rfl) (by kernel_rfl) (by kernel_rfl) (by kernel_rfl) (by kernel_rfl) ⟨rfl, rfl⟩ (fun ρ w1 hm hf => ?_) ?_
                  · have hk := rnum_lend w.heap.size A n1 c1 bs hbs q3 hb4 hn (nth ρ 1) w1 hf.1.2 hf.1.1.1 (hm.cells 1 _ _ rfl) (hm.ge _ (nth_mem (by simp [hm.len]))).1 (fun h => hf.1.1.2 _ h (nth_mem (by simp [hm.len])))
                    rw [hR4] at hk
                    refine hk.mono ?_
                    rintro e' w' ⟨h1, h2, h3⟩
                    exact ⟨h1, ⟨_, h2⟩, h3⟩
                  refine At.toJ (RowF.stable) RowF.fewer 20 300 [2, 5, 6, 7, 8, 13, 23] 3 ⟨pops B16 [1, 1, 1, 0, 1, 4, 4, 1, 1, 0, 4, 1, 1, 0, 0] 3, [.seq (sub B16 [1, 1, 1, 0, 1, 4, 4, 1, 1, 0, 4, 1, 1, 0, 1]), .seq (sub B16 [1, 1, 1, 0, 1, 4, 4, 1, 1, 0, 4, 1, 1, 1]), .block 1, .seq (sub B16 [1, 1, 1, 0, 1, 4, 4, 1, 1, 1]), .rounds (sub B16 [1, 1, 1, 0, 1, 4, 4]) 15, .block 0, .seq (sub B16 [1, 1, 1, 1])], [(2, .lp 0 0), (5, .lp 1 0), (6, .lp 2 0), (7, .v (.int .i64 4)), (8, .io IntKind.u64 x4), (13, .v (.int .i64 4)), (23, .bo (e4 != 0))], [([.v (.int .i64 0), .v (.int .i64 0), .v (.int .i64 0), .v (.int .i64 0), .v (.int .i64 0), .v (.int .i64 0), .v (.int .i64 0), .v (.int .i64 0), .v (.int .i64 0), .v (.bool false)], 24), ([.sl A n1 c1, .io .i64 (bif e4 == 0 then q4 else q3)], 103), ([.io .i64 y0, .io .i64 y1, .io .i64 y2, .io .i64 y3, .v (.int .i64 0), .v (.int .i64 0), .v (.int .i64 0), .v (.int .i64 0), .v (.int .i64 0), .v (.int .i64 0)], 50)]⟩ (by kernel_rfl) (by kernel_rfl) ?_
                  rcases Bool.eq_false_or_eq_true (e4 != 0) with b0 | b0
                  · refine At.res 23 (e4 != 0) true (by kernel_rfl) b0 ?_
                    refine At.toJ (RowF.stable) RowF.fewer 20 300 [2, 3, 4] 1 ⟨.exit .ret, [], [(2, .lp 0 0), (3, .v (.int .i64 0)), (4, .v (.int .i64 210))], [([.v (.int .i64 0), .v (.int .i64 0), .v (.int .i64 0), .v (.int .i64 0), .v (.int .i64 0), .v (.int .i64 0), .v (.int .i64 0), .v (.int .i64 0), .v (.int .i64 0), .v (.bool false)], 24)]⟩ (by kernel_rfl) (by kernel_rfl) ?_
                    refine At.ret (by kernel_rfl) (.tup [.agg [.v (.int .i64 0), .v (.int .i64 0), .v (.int .i64 0), .v (.int .i64 0), .v (.int .i64 0), .v (.int .i64 0), .v (.int .i64 0), .v (.int .i64 0), .v (.int .i64 0), .v (.bool false)], .v (.int .i64 0), .v (.int .i64 210)]) (by kernel_rfl) ?_
                    have hq : readL 10 bs 0 = none := by rw [readL_s hR0 hx0, readL_s hR1 hx1, readL_s hR2 hx2, readL_s hR3 hx3, readL_e hR4 b0]; rfl
                    intro ρ w9 hm hf
                    exact ⟨by rw [hq]; rfl, hm.below⟩
                  · refine At.res 23 (e4 != 0) false (by kernel_rfl) b0 ?_
                    refine At.toJ (RowF.stable) RowF.fewer 20 300 [2, 5, 6, 7, 8, 13, 26] 3 ⟨.code (sub B16 [1, 1, 1, 0, 1, 4, 4, 1, 1, 0, 4, 1, 1, 0, 1]), [.seq (sub B16 [1, 1, 1, 0, 1, 4, 4, 1, 1, 0, 4, 1, 1, 1]), .block 1, .seq (sub B16 [1, 1, 1, 0, 1, 4, 4, 1, 1, 1]), .rounds (sub B16 [1, 1, 1, 0, 1, 4, 4]) 15, .block 0, .seq (sub B16 [1, 1, 1, 1])], [(2, .lp 0 0), (5, .lp 1 0), (6, .lp 2 0), (7, .v (.int .i64 4)), (8, .io IntKind.u64 x4), (13, .v (.int .i64 4)), (26, .bo (decide (x4 > 1099511627776)))], [([.v (.int .i64 0), .v (.int .i64 0), .v (.int .i64 0), .v (.int .i64 0), .v (.int .i64 0), .v (.int .i64 0), .v (.int .i64 0), .v (.int .i64 0), .v (.int .i64 0), .v (.bool false)], 24), ([.sl A n1 c1, .io .i64 (bif e4 == 0 then q4 else q3)], 103), ([.io .i64 y0, .io .i64 y1, .io .i64 y2, .io .i64 y3, .v (.int .i64 0), .v (.int .i64 0), .v (.int .i64 0), .v (.int .i64 0), .v (.int .i64 0), .v (.int .i64 0)], 50)]⟩ (by kernel_rfl) (by kernel_rfl) ?_
                    rcases Bool.eq_false_or_eq_true (decide (x4 > 1099511627776)) with b1 | b1
                    · refine At.res 26 (decide (x4 > 1099511627776)) true (by kernel_rfl) b1 ?_
                      refine At.toJ (RowF.stable) RowF.fewer 20 300 [2, 3, 4] 1 ⟨.exit .ret, [], [(2, .lp 0 0), (3, .v (.int .i64 0)), (4, .v (.int .i64 210))], [([.v (.int .i64 0), .v (.int .i64 0), .v (.int .i64 0), .v (.int .i64 0), .v (.int .i64 0), .v (.int .i64 0), .v (.int .i64 0), .v (.int .i64 0), .v (.int .i64 0), .v (.bool false)], 24)]⟩ (by kernel_rfl) (by kernel_rfl) ?_
                      refine At.ret (by kernel_rfl) (.tup [.agg [.v (.int .i64 0), .v (.int .i64 0), .v (.int .i64 0), .v (.int .i64 0), .v (.int .i64 0), .v (.int .i64 0), .v (.int .i64 0), .v (.int .i64 0), .v (.int .i64 0), .v (.bool false)], .v (.int .i64 0), .v (.int .i64 210)]) (by kernel_rfl) ?_
                      have hq : readL 10 bs 0 = none := by rw [readL_s hR0 hx0, readL_s hR1 hx1, readL_s hR2 hx2, readL_s hR3 hx3, readL_x hR4 b0 b1]; rfl
                      intro ρ w9 hm hf
                      exact ⟨by rw [hq]; rfl, hm.below⟩
                    · refine At.res 26 (decide (x4 > 1099511627776)) false (by kernel_rfl) b1 ?_
                      refine At.toJ (RowF.stable) RowF.fewer 20 300 [2, 5, 6, 7, 13, 17] 3 ⟨pops B16 [1, 1, 1, 0, 1, 4, 4, 1, 1, 0, 4, 1, 0] 1, [.seq (sub B16 [1, 1, 1, 0, 1, 4, 4, 1, 1, 0, 4, 1, 1]), .block 1, .seq (sub B16 [1, 1, 1, 0, 1, 4, 4, 1, 1, 1]), .rounds (sub B16 [1, 1, 1, 0, 1, 4, 4]) 14, .block 0, .seq (sub B16 [1, 1, 1, 1])], [(2, .lp 0 0), (5, .lp 1 0), (6, .lp 2 0), (7, .v (.int .i64 5)), (13, .v (.int .i64 5)), (17, .lp 1 0)], [([.v (.int .i64 0), .v (.int .i64 0), .v (.int .i64 0), .v (.int .i64 0), .v (.int .i64 0), .v (.int .i64 0), .v (.int .i64 0), .v (.int .i64 0), .v (.int .i64 0), .v (.bool false)], 24), ([.sl A n1 c1, .io .i64 (bif e4 == 0 then q4 else q3)], 103), ([.io .i64 y0, .io .i64 y1, .io .i64 y2, .io .i64 y3, .io .i64 (IntKind.i64.wrap x4), .v (.int .i64 0), .v (.int .i64 0), .v (.int .i64 0), .v (.int .i64 0), .v (.int .i64 0)], 50)]⟩ (by kernel_rfl) (by kernel_rfl) ?_
                      have he4 : e4 = 0 := by simpa using b0
                      subst he4
                      have hx4 : x4 ≤ 1099511627776 := by simpa using b1
                      have hb5 := rd_bound hb4 hR4
                      rw [show (bif ((0 : Int) == 0) then q4 else q3) = q4 from rfl]
                      generalize hy4 : IntKind.i64.wrap x4 = y4

                      rcases hR5 : rd (bs.drop (q4 : Int).toNat) q4 0 0 with ⟨e5, x5, q5⟩
                      refine At.lend 43 [.lp 1 0] [1] (.tup [.io .u64 x5, .io .i64 e5]) [([.sl A n1 c1, .io .i64 (bif e5 == 0 then q5 else q4)], 103)] RowF.stable (by kernel_rfl) (by kernel_rfl) (by kernel_rfl) (by kernel_rfl) (by kernel_rfl) (by kernel_rfl) ⟨rfl, rfl⟩ (fun ρ w1 hm hf => ?_) ?_
                      · have hk := rnum_lend w.heap.size A n1 c1 bs hbs q4 hb5 hn (nth ρ 1) w1 hf.1.2 hf.1.1.1 (hm.cells 1 _ _ rfl) (hm.ge _ (nth_mem (by simp [hm.len]))).1 (fun h => hf.1.1.2 _ h (nth_mem (by simp [hm.len])))
                        rw [hR5] at hk
                        refine hk.mono ?_
                        rintro e' w' ⟨h1, h2, h3⟩
                        exact ⟨h1, ⟨_, h2⟩, h3⟩
                      refine At.toJ (RowF.stable) RowF.fewer 20 300 [2, 5, 6, 7, 8, 13, 23] 3 ⟨pops B16 [1, 1, 1, 0, 1, 4, 4, 1, 1, 0, 4, 1, 1, 0, 0] 3, [.seq (sub B16 [1, 1, 1, 0, 1, 4, 4, 1, 1, 0, 4, 1, 1, 0, 1]), .seq (sub B16 [1, 1, 1, 0, 1, 4, 4, 1, 1, 0, 4, 1, 1, 1]), .block 1, .seq (sub B16 [1, 1, 1, 0, 1, 4, 4, 1, 1, 1]), .rounds (sub B16 [1, 1, 1, 0, 1, 4, 4]) 14, .block 0, .seq (sub B16 [1, 1, 1, 1])], [(2, .lp 0 0), (5, .lp 1 0), (6, .lp 2 0), (7, .v (.int .i64 5)), (8, .io IntKind.u64 x5), (13, .v (.int .i64 5)), (23, .bo (e5 != 0))], [([.v (.int .i64 0), .v (.int .i64 0), .v (.int .i64 0), .v (.int .i64 0), .v (.int .i64 0), .v (.int .i64 0), .v (.int .i64 0), .v (.int .i64 0), .v (.int .i64 0), .v (.bool false)], 24), ([.sl A n1 c1, .io .i64 (bif e5 == 0 then q5 else q4)], 103), ([.io .i64 y0, .io .i64 y1, .io .i64 y2, .io .i64 y3, .io .i64 y4, .v (.int .i64 0), .v (.int .i64 0), .v (.int .i64 0), .v (.int .i64 0), .v (.int .i64 0)], 50)]⟩ (by kernel_rfl) (by kernel_rfl) ?_
                      rcases Bool.eq_false_or_eq_true (e5 != 0) with b0 | b0
                      · refine At.res 23 (e5 != 0) true (by kernel_rfl) b0 ?_
                        refine At.toJ (RowF.stable) RowF.fewer 20 300 [2, 3, 4] 1 ⟨.exit .ret, [], [(2, .lp 0 0), (3, .v (.int .i64 0)), (4, .v (.int .i64 210))], [([.v (.int .i64 0), .v (.int .i64 0), .v (.int .i64 0), .v (.int .i64 0), .v (.int .i64 0), .v (.int .i64 0), .v (.int .i64 0), .v (.int .i64 0), .v (.int .i64 0), .v (.bool false)], 24)]⟩ (by kernel_rfl) (by kernel_rfl) ?_
                        refine At.ret (by kernel_rfl) (.tup [.agg [.v (.int .i64 0), .v (.int .i64 0), .v (.int .i64 0), .v (.int .i64 0), .v (.int .i64 0), .v (.int .i64 0), .v (.int .i64 0), .v (.int .i64 0), .v (.int .i64 0), .v (.bool false)], .v (.int .i64 0), .v (.int .i64 210)]) (by kernel_rfl) ?_
                        have hq : readL 10 bs 0 = none := by rw [readL_s hR0 hx0, readL_s hR1 hx1, readL_s hR2 hx2, readL_s hR3 hx3, readL_s hR4 hx4, readL_e hR5 b0]; rfl
                        intro ρ w9 hm hf
                        exact ⟨by rw [hq]; rfl, hm.below⟩
                      · refine At.res 23 (e5 != 0) false (by kernel_rfl) b0 ?_
                        refine At.toJ (RowF.stable) RowF.fewer 20 300 [2, 5, 6, 7, 8, 13, 26] 3 ⟨.code (sub B16 [1, 1, 1, 0, 1, 4, 4, 1, 1, 0, 4, 1, 1, 0, 1]), [.seq (sub B16 [1, 1, 1, 0, 1, 4, 4, 1, 1, 0, 4, 1, 1, 1]), .block 1, .seq (sub B16 [1, 1, 1, 0, 1, 4, 4, 1, 1, 1]), .rounds (sub B16 [1, 1, 1, 0, 1, 4, 4]) 14, .block 0, .seq (sub B16 [1, 1, 1, 1])], [(2, .lp 0 0), (5, .lp 1 0), (6, .lp 2 0), (7, .v (.int .i64 5)), (8, .io IntKind.u64 x5), (13, .v (.int .i64 5)), (26, .bo (decide (x5 > 1099511627776)))], [([.v (.int .i64 0), .v (.int .i64 0), .v (.int .i64 0), .v (.int .i64 0), .v (.int .i64 0), .v (.int .i64 0), .v (.int .i64 0), .v (.int .i64 0), .v (.int .i64 0), .v (.bool false)], 24), ([.sl A n1 c1, .io .i64 (bif e5 == 0 then q5 else q4)], 103), ([.io .i64 y0, .io .i64 y1, .io .i64 y2, .io .i64 y3, .io .i64 y4, .v (.int .i64 0), .v (.int .i64 0), .v (.int .i64 0), .v (.int .i64 0), .v (.int .i64 0)], 50)]⟩ (by kernel_rfl) (by kernel_rfl) ?_
                        rcases Bool.eq_false_or_eq_true (decide (x5 > 1099511627776)) with b1 | b1
                        · refine At.res 26 (decide (x5 > 1099511627776)) true (by kernel_rfl) b1 ?_
                          refine At.toJ (RowF.stable) RowF.fewer 20 300 [2, 3, 4] 1 ⟨.exit .ret, [], [(2, .lp 0 0), (3, .v (.int .i64 0)), (4, .v (.int .i64 210))], [([.v (.int .i64 0), .v (.int .i64 0), .v (.int .i64 0), .v (.int .i64 0), .v (.int .i64 0), .v (.int .i64 0), .v (.int .i64 0), .v (.int .i64 0), .v (.int .i64 0), .v (.bool false)], 24)]⟩ (by kernel_rfl) (by kernel_rfl) ?_
                          refine At.ret (by kernel_rfl) (.tup [.agg [.v (.int .i64 0), .v (.int .i64 0), .v (.int .i64 0), .v (.int .i64 0), .v (.int .i64 0), .v (.int .i64 0), .v (.int .i64 0), .v (.int .i64 0), .v (.int .i64 0), .v (.bool false)], .v (.int .i64 0), .v (.int .i64 210)]) (by kernel_rfl) ?_
                          have hq : readL 10 bs 0 = none := by rw [readL_s hR0 hx0, readL_s hR1 hx1, readL_s hR2 hx2, readL_s hR3 hx3, readL_s hR4 hx4, readL_x hR5 b0 b1]; rfl
                          intro ρ w9 hm hf
                          exact ⟨by rw [hq]; rfl, hm.below⟩
                        · refine At.res 26 (decide (x5 > 1099511627776)) false (by kernel_rfl) b1 ?_
                          refine At.toJ (RowF.stable) RowF.fewer 20 300 [2, 5, 6, 7, 13, 17] 3 ⟨pops B16 [1, 1, 1, 0, 1, 4, 4, 1, 1, 0, 4, 1, 0] 1, [.seq (sub B16 [1, 1, 1, 0, 1, 4, 4, 1, 1, 0, 4, 1, 1]), .block 1, .seq (sub B16 [1, 1, 1, 0, 1, 4, 4, 1, 1, 1]), .rounds (sub B16 [1, 1, 1, 0, 1, 4, 4]) 13, .block 0, .seq (sub B16 [1, 1, 1, 1])], [(2, .lp 0 0), (5, .lp 1 0), (6, .lp 2 0), (7, .v (.int .i64 6)), (13, .v (.int .i64 6)), (17, .lp 1 0)], [([.v (.int .i64 0), .v (.int .i64 0), .v (.int .i64 0), .v (.int .i64 0), .v (.int .i64 0), .v (.int .i64 0), .v (.int .i64 0), .v (.int .i64 0), .v (.int .i64 0), .v (.bool false)], 24), ([.sl A n1 c1, .io .i64 (bif e5 == 0 then q5 else q4)], 103), ([.io .i64 y0, .io .i64 y1, .io .i64 y2, .io .i64 y3, .io .i64 y4, .io .i64 (IntKind.i64.wrap x5), .v (.int .i64 0), .v (.int .i64 0), .v (.int .i64 0), .v (.int .i64 0)], 50)]⟩ (by kernel_rfl) (by kernel_rfl) ?_
                          have he5 : e5 = 0 := by simpa using b0
                          subst he5
                          have hx5 : x5 ≤ 1099511627776 := by simpa using b1
                          have hb6 := rd_bound hb5 hR5
                          rw [show (bif ((0 : Int) == 0) then q5 else q4) = q5 from rfl]
                          generalize hy5 : IntKind.i64.wrap x5 = y5

                          rcases hR6 : rd (bs.drop (q5 : Int).toNat) q5 0 0 with ⟨e6, x6, q6⟩
                          refine At.lend 43 [.lp 1 0] [1] (.tup [.io .u64 x6, .io .i64 e6]) [([.sl A n1 c1, .io .i64 (bif e6 == 0 then q6 else q5)], 103)] RowF.stable (by kernel_rfl) (by kernel_rfl) (by kernel_rfl) (by kernel_rfl) (by kernel_rfl) (by kernel_rfl) ⟨rfl, rfl⟩ (fun ρ w1 hm hf => ?_) ?_
                          · have hk := rnum_lend w.heap.size A n1 c1 bs hbs q5 hb6 hn (nth ρ 1) w1 hf.1.2 hf.1.1.1 (hm.cells 1 _ _ rfl) (hm.ge _ (nth_mem (by simp [hm.len]))).1 (fun h => hf.1.1.2 _ h (nth_mem (by simp [hm.len])))
                            rw [hR6] at hk
                            refine hk.mono ?_
                            rintro e' w' ⟨h1, h2, h3⟩
                            exact ⟨h1, ⟨_, h2⟩, h3⟩
                          refine At.toJ (RowF.stable) RowF.fewer 20 300 [2, 5, 6, 7, 8, 13, 23] 3 ⟨pops B16 [1, 1, 1, 0, 1, 4, 4, 1, 1, 0, 4, 1, 1, 0, 0] 3, [.seq (sub B16 [1, 1, 1, 0, 1, 4, 4, 1, 1, 0, 4, 1, 1, 0, 1]), .seq (sub B16 [1, 1, 1, 0, 1, 4, 4, 1, 1, 0, 4, 1, 1, 1]), .block 1, .seq (sub B16 [1, 1, 1, 0, 1, 4, 4, 1, 1, 1]), .rounds (sub B16 [1, 1, 1, 0, 1, 4, 4]) 13, .block 0, .seq (sub B16 [1, 1, 1, 1])], [(2, .lp 0 0), (5, .lp 1 0), (6, .lp 2 0), (7, .v (.int .i64 6)), (8, .io IntKind.u64 x6), (13, .v (.int .i64 6)), (23, .bo (e6 != 0))], [([.v (.int .i64 0), .v (.int .i64 0), .v (.int .i64 0), .v (.int .i64 0), .v (.int .i64 0), .v (.int .i64 0), .v (.int .i64 0), .v (.int .i64 0), .v (.int .i64 0), .v (.bool false)], 24), ([.sl A n1 c1, .io .i64 (bif e6 == 0 then q6 else q5)], 103), ([.io .i64 y0, .io .i64 y1, .io .i64 y2, .io .i64 y3, .io .i64 y4, .io .i64 y5, .v (.int .i64 0), .v (.int .i64 0), .v (.int .i64 0), .v (.int .i64 0)], 50)]⟩ (by kernel_rfl) (by kernel_rfl) ?_
                          rcases Bool.eq_false_or_eq_true (e6 != 0) with b0 | b0
                          · refine At.res 23 (e6 != 0) true (by kernel_rfl) b0 ?_
                            refine At.toJ (RowF.stable) RowF.fewer 20 300 [2, 3, 4] 1 ⟨.exit .ret, [], [(2, .lp 0 0), (3, .v (.int .i64 0)), (4, .v (.int .i64 210))], [([.v (.int .i64 0), .v (.int .i64 0), .v (.int .i64 0), .v (.int .i64 0), .v (.int .i64 0), .v (.int .i64 0), .v (.int .i64 0), .v (.int .i64 0), .v (.int .i64 0), .v (.bool false)], 24)]⟩ (by kernel_rfl) (by kernel_rfl) ?_
                            refine At.ret (by kernel_rfl) (.tup [.agg [.v (.int .i64 0), .v (.int .i64 0), .v (.int .i64 0), .v (.int .i64 0), .v (.int .i64 0), .v (.int .i64 0), .v (.int .i64 0), .v (.int .i64 0), .v (.int .i64 0), .v (.bool false)], .v (.int .i64 0), .v (.int .i64 210)]) (by kernel_rfl) ?_
                            have hq : readL 10 bs 0 = none := by rw [readL_s hR0 hx0, readL_s hR1 hx1, readL_s hR2 hx2, readL_s hR3 hx3, readL_s hR4 hx4, readL_s hR5 hx5, readL_e hR6 b0]; rfl
                            intro ρ w9 hm hf
                            exact ⟨by rw [hq]; rfl, hm.below⟩
                          · refine At.res 23 (e6 != 0) false (by kernel_rfl) b0 ?_
                            refine At.toJ (RowF.stable) RowF.fewer 20 300 [2, 5, 6, 7, 8, 13, 26] 3 ⟨.code (sub B16 [1, 1, 1, 0, 1, 4, 4, 1, 1, 0, 4, 1, 1, 0, 1]), [.seq (sub B16 [1, 1, 1, 0, 1, 4, 4, 1, 1, 0, 4, 1, 1, 1]), .block 1, .seq (sub B16 [1, 1, 1, 0, 1, 4, 4, 1, 1, 1]), .rounds (sub B16 [1, 1, 1, 0, 1, 4, 4]) 13, .block 0, .seq (sub B16 [1, 1, 1, 1])], [(2, .lp 0 0), (5, .lp 1 0), (6, .lp 2 0), (7, .v (.int .i64 6)), (8, .io IntKind.u64 x6), (13, .v (.int .i64 6)), (26, .bo (decide (x6 > 1099511627776)))], [([.v (.int .i64 0), .v (.int .i64 0), .v (.int .i64 0), .v (.int .i64 0), .v (.int .i64 0), .v (.int .i64 0), .v (.int .i64 0), .v (.int .i64 0), .v (.int .i64 0), .v (.bool false)], 24), ([.sl A n1 c1, .io .i64 (bif e6 == 0 then q6 else q5)], 103), ([.io .i64 y0, .io .i64 y1, .io .i64 y2, .io .i64 y3, .io .i64 y4, .io .i64 y5, .v (.int .i64 0), .v (.int .i64 0), .v (.int .i64 0), .v (.int .i64 0)], 50)]⟩ (by kernel_rfl) (by kernel_rfl) ?_
                            rcases Bool.eq_false_or_eq_true (decide (x6 > 1099511627776)) with b1 | b1
                            · refine At.res 26 (decide (x6 > 1099511627776)) true (by kernel_rfl) b1 ?_
                              refine At.toJ (RowF.stable) RowF.fewer 20 300 [2, 3, 4] 1 ⟨.exit .ret, [], [(2, .lp 0 0), (3, .v (.int .i64 0)), (4, .v (.int .i64 210))], [([.v (.int .i64 0), .v (.int .i64 0), .v (.int .i64 0), .v (.int .i64 0), .v (.int .i64 0), .v (.int .i64 0), .v (.int .i64 0), .v (.int .i64 0), .v (.int .i64 0), .v (.bool false)], 24)]⟩ (by kernel_rfl) (by kernel_rfl) ?_
                              refine At.ret (by kernel_rfl) (.tup [.agg [.v (.int .i64 0), .v (.int .i64 0), .v (.int .i64 0), .v (.int .i64 0), .v (.int .i64 0), .v (.int .i64 0), .v (.int .i64 0), .v (.int .i64 0), .v (.int .i64 0), .v (.bool false)], .v (.int .i64 0), .v (.int .i64 210)]) (by kernel_rfl) ?_
                              have hq : readL 10 bs 0 = none := by rw [readL_s hR0 hx0, readL_s hR1 hx1, readL_s hR2 hx2, readL_s hR3 hx3, readL_s hR4 hx4, readL_s hR5 hx5, readL_x hR6 b0 b1]; rfl
                              intro ρ w9 hm hf
                              exact ⟨by rw [hq]; rfl, hm.below⟩
                            · refine At.res 26 (decide (x6 > 1099511627776)) false (by kernel_rfl) b1 ?_
                              refine At.toJ (RowF.stable) RowF.fewer 20 300 [2, 5, 6, 7, 13, 17] 3 ⟨pops B16 [1, 1, 1, 0, 1, 4, 4, 1, 1, 0, 4, 1, 0] 1, [.seq (sub B16 [1, 1, 1, 0, 1, 4, 4, 1, 1, 0, 4, 1, 1]), .block 1, .seq (sub B16 [1, 1, 1, 0, 1, 4, 4, 1, 1, 1]), .rounds (sub B16 [1, 1, 1, 0, 1, 4, 4]) 12, .block 0, .seq (sub B16 [1, 1, 1, 1])], [(2, .lp 0 0), (5, .lp 1 0), (6, .lp 2 0), (7, .v (.int .i64 7)), (13, .v (.int .i64 7)), (17, .lp 1 0)], [([.v (.int .i64 0), .v (.int .i64 0), .v (.int .i64 0), .v (.int .i64 0), .v (.int .i64 0), .v (.int .i64 0), .v (.int .i64 0), .v (.int .i64 0), .v (.int .i64 0), .v (.bool false)], 24), ([.sl A n1 c1, .io .i64 (bif e6 == 0 then q6 else q5)], 103), ([.io .i64 y0, .io .i64 y1, .io .i64 y2, .io .i64 y3, .io .i64 y4, .io .i64 y5, .io .i64 (IntKind.i64.wrap x6), .v (.int .i64 0), .v (.int .i64 0), .v (.int .i64 0)], 50)]⟩ (by kernel_rfl) (by kernel_rfl) ?_
                              have he6 : e6 = 0 := by simpa using b0
                              subst he6
                              have hx6 : x6 ≤ 1099511627776 := by simpa using b1
                              have hb7 := rd_bound hb6 hR6
                              rw [show (bif ((0 : Int) == 0) then q6 else q5) = q6 from rfl]
                              generalize hy6 : IntKind.i64.wrap x6 = y6

                              rcases hR7 : rd (bs.drop (q6 : Int).toNat) q6 0 0 with ⟨e7, x7, q7⟩
                              refine At.lend 43 [.lp 1 0] [1] (.tup [.io .u64 x7, .io .i64 e7]) [([.sl A n1 c1, .io .i64 (bif e7 == 0 then q7 else q6)], 103)] RowF.stable (by kernel_rfl) (by kernel_rfl) (by kernel_rfl) (by kernel_rfl) (by kernel_rfl) (by kernel_rfl) ⟨rfl, rfl⟩ (fun ρ w1 hm hf => ?_) ?_
                              · have hk := rnum_lend w.heap.size A n1 c1 bs hbs q6 hb7 hn (nth ρ 1) w1 hf.1.2 hf.1.1.1 (hm.cells 1 _ _ rfl) (hm.ge _ (nth_mem (by simp [hm.len]))).1 (fun h => hf.1.1.2 _ h (nth_mem (by simp [hm.len])))
                                rw [hR7] at hk
                                refine hk.mono ?_
                                rintro e' w' ⟨h1, h2, h3⟩
                                exact ⟨h1, ⟨_, h2⟩, h3⟩
                              refine At.toJ (RowF.stable) RowF.fewer 20 300 [2, 5, 6, 7, 8, 13, 23] 3 ⟨pops B16 [1, 1, 1, 0, 1, 4, 4, 1, 1, 0, 4, 1, 1, 0, 0] 3, [.seq (sub B16 [1, 1, 1, 0, 1, 4, 4, 1, 1, 0, 4, 1, 1, 0, 1]), .seq (sub B16 [1, 1, 1, 0, 1, 4, 4, 1, 1, 0, 4, 1, 1, 1]), .block 1, .seq (sub B16 [1, 1, 1, 0, 1, 4, 4, 1, 1, 1]), .rounds (sub B16 [1, 1, 1, 0, 1, 4, 4]) 12, .block 0, .seq (sub B16 [1, 1, 1, 1])], [(2, .lp 0 0), (5, .lp 1 0), (6, .lp 2 0), (7, .v (.int .i64 7)), (8, .io IntKind.u64 x7), (13, .v (.int .i64 7)), (23, .bo (e7 != 0))], [([.v (.int .i64 0), .v (.int .i64 0), .v (.int .i64 0), .v (.int .i64 0), .v (.int .i64 0), .v (.int .i64 0), .v (.int .i64 0), .v (.int .i64 0), .v (.int .i64 0), .v (.bool false)], 24), ([.sl A n1 c1, .io .i64 (bif e7 == 0 then q7 else q6)], 103), ([.io .i64 y0, .io .i64 y1, .io .i64 y2, .io .i64 y3, .io .i64 y4, .io .i64 y5, .io .i64 y6, .v (.int .i64 0), .v (.int .i64 0), .v (.int .i64 0)], 50)]⟩ (by kernel_rfl) (by kernel_rfl) ?_
                              rcases Bool.eq_false_or_eq_true (e7 != 0) with b0 | b0
                              · refine At.res 23 (e7 != 0) true (by kernel_rfl) b0 ?_
                                refine At.toJ (RowF.stable) RowF.fewer 20 300 [2, 3, 4] 1 ⟨.exit .ret, [], [(2, .lp 0 0), (3, .v (.int .i64 0)), (4, .v (.int .i64 210))], [([.v (.int .i64 0), .v (.int .i64 0), .v (.int .i64 0), .v (.int .i64 0), .v (.int .i64 0), .v (.int .i64 0), .v (.int .i64 0), .v (.int .i64 0), .v (.int .i64 0), .v (.bool false)], 24)]⟩ (by kernel_rfl) (by kernel_rfl) ?_
                                refine At.ret (by kernel_rfl) (.tup [.agg [.v (.int .i64 0), .v (.int .i64 0), .v (.int .i64 0), .v (.int .i64 0), .v (.int .i64 0), .v (.int .i64 0), .v (.int .i64 0), .v (.int .i64 0), .v (.int .i64 0), .v (.bool false)], .v (.int .i64 0), .v (.int .i64 210)]) (by kernel_rfl) ?_
                                have hq : readL 10 bs 0 = none := by rw [readL_s hR0 hx0, readL_s hR1 hx1, readL_s hR2 hx2, readL_s hR3 hx3, readL_s hR4 hx4, readL_s hR5 hx5, readL_s hR6 hx6, readL_e hR7 b0]; rfl
                                intro ρ w9 hm hf
                                exact ⟨by rw [hq]; rfl, hm.below⟩
                              · refine At.res 23 (e7 != 0) false (by kernel_rfl) b0 ?_
                                refine At.toJ (RowF.stable) RowF.fewer 20 300 [2, 5, 6, 7, 8, 13, 26] 3 ⟨.code (sub B16 [1, 1, 1, 0, 1, 4, 4, 1, 1, 0, 4, 1, 1, 0, 1]), [.seq (sub B16 [1, 1, 1, 0, 1, 4, 4, 1, 1, 0, 4, 1, 1, 1]), .block 1, .seq (sub B16 [1, 1, 1, 0, 1, 4, 4, 1, 1, 1]), .rounds (sub B16 [1, 1, 1, 0, 1, 4, 4]) 12, .block 0, .seq (sub B16 [1, 1, 1, 1])], [(2, .lp 0 0), (5, .lp 1 0), (6, .lp 2 0), (7, .v (.int .i64 7)), (8, .io IntKind.u64 x7), (13, .v (.int .i64 7)), (26, .bo (decide (x7 > 1099511627776)))], [([.v (.int .i64 0), .v (.int .i64 0), .v (.int .i64 0), .v (.int .i64 0), .v (.int .i64 0), .v (.int .i64 0), .v (.int .i64 0), .v (.int .i64 0), .v (.int .i64 0), .v (.bool false)], 24), ([.sl A n1 c1, .io .i64 (bif e7 == 0 then q7 else q6)], 103), ([.io .i64 y0, .io .i64 y1, .io .i64 y2, .io .i64 y3, .io .i64 y4, .io .i64 y5, .io .i64 y6, .v (.int .i64 0), .v (.int .i64 0), .v (.int .i64 0)], 50)]⟩ (by kernel_rfl) (by kernel_rfl) ?_
                                rcases Bool.eq_false_or_eq_true (decide (x7 > 1099511627776)) with b1 | b1
                                · refine At.res 26 (decide (x7 > 1099511627776)) true (by kernel_rfl) b1 ?_
                                  refine At.toJ (RowF.stable) RowF.fewer 20 300 [2, 3, 4] 1 ⟨.exit .ret, [], [(2, .lp 0 0), (3, .v (.int .i64 0)), (4, .v (.int .i64 210))], [([.v (.int .i64 0), .v (.int .i64 0), .v (.int .i64 0), .v (.int .i64 0), .v (.int .i64 0), .v (.int .i64 0), .v (.int .i64 0), .v (.int .i64 0), .v (.int .i64 0), .v (.bool false)], 24)]⟩ (by kernel_rfl) (by kernel_rfl) ?_
                                  refine At.ret (by kernel_rfl) (.tup [.agg [.v (.int .i64 0), .v (.int .i64 0), .v (.int .i64 0), .v (.int .i64 0), .v (.int .i64 0), .v (.int .i64 0), .v (.int .i64 0), .v (.int .i64 0), .v (.int .i64 0), .v (.bool false)], .v (.int .i64 0), .v (.int .i64 210)]) (by kernel_rfl) ?_
                                  have hq : readL 10 bs 0 = none := by rw [readL_s hR0 hx0, readL_s hR1 hx1, readL_s hR2 hx2, readL_s hR3 hx3, readL_s hR4 hx4, readL_s hR5 hx5, readL_s hR6 hx6, readL_x hR7 b0 b1]; rfl
                                  intro ρ w9 hm hf
                                  exact ⟨by rw [hq]; rfl, hm.below⟩
                                · refine At.res 26 (decide (x7 > 1099511627776)) false (by kernel_rfl) b1 ?_
                                  refine At.toJ (RowF.stable) RowF.fewer 20 300 [2, 5, 6, 7, 13, 17] 3 ⟨pops B16 [1, 1, 1, 0, 1, 4, 4, 1, 1, 0, 4, 1, 0] 1, [.seq (sub B16 [1, 1, 1, 0, 1, 4, 4, 1, 1, 0, 4, 1, 1]), .block 1, .seq (sub B16 [1, 1, 1, 0, 1, 4, 4, 1, 1, 1]), .rounds (sub B16 [1, 1, 1, 0, 1, 4, 4]) 11, .block 0, .seq (sub B16 [1, 1, 1, 1])], [(2, .lp 0 0), (5, .lp 1 0), (6, .lp 2 0), (7, .v (.int .i64 8)), (13, .v (.int .i64 8)), (17, .lp 1 0)], [([.v (.int .i64 0), .v (.int .i64 0), .v (.int .i64 0), .v (.int .i64 0), .v (.int .i64 0), .v (.int .i64 0), .v (.int .i64 0), .v (.int .i64 0), .v (.int .i64 0), .v (.bool false)], 24), ([.sl A n1 c1, .io .i64 (bif e7 == 0 then q7 else q6)], 103), ([.io .i64 y0, .io .i64 y1, .io .i64 y2, .io .i64 y3, .io .i64 y4, .io .i64 y5, .io .i64 y6, .io .i64 (IntKind.i64.wrap x7), .v (.int .i64 0), .v (.int .i64 0)], 50)]⟩ (by kernel_rfl) (by kernel_rfl) ?_
                                  have he7 : e7 = 0 := by simpa using b0
                                  subst he7
                                  have hx7 : x7 ≤ 1099511627776 := by simpa using b1
                                  have hb8 := rd_bound hb7 hR7
                                  rw [show (bif ((0 : Int) == 0) then q7 else q6) = q7 from rfl]
                                  generalize hy7 : IntKind.i64.wrap x7 = y7

                                  rcases hR8 : rd (bs.drop (q7 : Int).toNat) q7 0 0 with ⟨e8, x8, q8⟩
                                  refine At.lend 43 [.lp 1 0] [1] (.tup [.io .u64 x8, .io .i64 e8]) [([.sl A n1 c1, .io .i64 (bif e8 == 0 then q8 else q7)], 103)] RowF.stable (by kernel_rfl) (by kernel_rfl) (by kernel_rfl) (by kernel_rfl) (by kernel_rfl) (by kernel_rfl) ⟨rfl, rfl⟩ (fun ρ w1 hm hf => ?_) ?_
                                  · have hk := rnum_lend w.heap.size A n1 c1 bs hbs q7 hb8 hn (nth ρ 1) w1 hf.1.2 hf.1.1.1 (hm.cells 1 _ _ rfl) (hm.ge _ (nth_mem (by simp [hm.len]))).1 (fun h => hf.1.1.2 _ h (nth_mem (by simp [hm.len])))
                                    rw [hR8] at hk
                                    refine hk.mono ?_
                                    rintro e' w' ⟨h1, h2, h3⟩
                                    exact ⟨h1, ⟨_, h2⟩, h3⟩
                                  refine At.toJ (RowF.stable) RowF.fewer 20 300 [2, 5, 6, 7, 8, 13, 23] 3 ⟨pops B16 [1, 1, 1, 0, 1, 4, 4, 1, 1, 0, 4, 1, 1, 0, 0] 3, [.seq (sub B16 [1, 1, 1, 0, 1, 4, 4, 1, 1, 0, 4, 1, 1, 0, 1]), .seq (sub B16 [1, 1, 1, 0, 1, 4, 4, 1, 1, 0, 4, 1, 1, 1]), .block 1, .seq (sub B16 [1, 1, 1, 0, 1, 4, 4, 1, 1, 1]), .rounds (sub B16 [1, 1, 1, 0, 1, 4, 4]) 11, .block 0, .seq (sub B16 [1, 1, 1, 1])], [(2, .lp 0 0), (5, .lp 1 0), (6, .lp 2 0), (7, .v (.int .i64 8)), (8, .io IntKind.u64 x8), (13, .v (.int .i64 8)), (23, .bo (e8 != 0))], [([.v (.int .i64 0), .v (.int .i64 0), .v (.int .i64 0), .v (.int .i64 0), .v (.int .i64 0), .v (.int .i64 0), .v (.int .i64 0), .v (.int .i64 0), .v (.int .i64 0), .v (.bool false)], 24), ([.sl A n1 c1, .io .i64 (bif e8 == 0 then q8 else q7)], 103), ([.io .i64 y0, .io .i64 y1, .io .i64 y2, .io .i64 y3, .io .i64 y4, .io .i64 y5, .io .i64 y6, .io .i64 y7, .v (.int .i64 0), .v (.int .i64 0)], 50)]⟩ (by kernel_rfl) (by kernel_rfl) ?_
                                  rcases Bool.eq_false_or_eq_true (e8 != 0) with b0 | b0
                                  · refine At.res 23 (e8 != 0) true (by kernel_rfl) b0 ?_
                                    refine At.toJ (RowF.stable) RowF.fewer 20 300 [2, 3, 4] 1 ⟨.exit .ret, [], [(2, .lp 0 0), (3, .v (.int .i64 0)), (4, .v (.int .i64 210))], [([.v (.int .i64 0), .v (.int .i64 0), .v (.int .i64 0), .v (.int .i64 0), .v (.int .i64 0), .v (.int .i64 0), .v (.int .i64 0), .v (.int .i64 0), .v (.int .i64 0), .v (.bool false)], 24)]⟩ (by kernel_rfl) (by kernel_rfl) ?_
                                    refine At.ret (by kernel_rfl) (.tup [.agg [.v (.int .i64 0), .v (.int .i64 0), .v (.int .i64 0), .v (.int .i64 0), .v (.int .i64 0), .v (.int .i64 0), .v (.int .i64 0), .v (.int .i64 0), .v (.int .i64 0), .v (.bool false)], .v (.int .i64 0), .v (.int .i64 210)]) (by kernel_rfl) ?_
                                    have hq : readL 10 bs 0 = none := by rw [readL_s hR0 hx0, readL_s hR1 hx1, readL_s hR2 hx2, readL_s hR3 hx3, readL_s hR4 hx4, readL_s hR5 hx5, readL_s hR6 hx6, readL_s hR7 hx7, readL_e hR8 b0]; rfl
                                    intro ρ w9 hm hf
                                    exact ⟨by rw [hq]; rfl, hm.below⟩
                                  · refine At.res 23 (e8 != 0) false (by kernel_rfl) b0 ?_
                                    refine At.toJ (RowF.stable) RowF.fewer 20 300 [2, 5, 6, 7, 8, 13, 26] 3 ⟨.code (sub B16 [1, 1, 1, 0, 1, 4, 4, 1, 1, 0, 4, 1, 1, 0, 1]), [.seq (sub B16 [1, 1, 1, 0, 1, 4, 4, 1, 1, 0, 4, 1, 1, 1]), .block 1, .seq (sub B16 [1, 1, 1, 0, 1, 4, 4, 1, 1, 1]), .rounds (sub B16 [1, 1, 1, 0, 1, 4, 4]) 11, .block 0, .seq (sub B16 [1, 1, 1, 1])], [(2, .lp 0 0), (5, .lp 1 0), (6, .lp 2 0), (7, .v (.int .i64 8)), (8, .io IntKind.u64 x8), (13, .v (.int .i64 8)), (26, .bo (decide (x8 > 1099511627776)))], [([.v (.int .i64 0), .v (.int .i64 0), .v (.int .i64 0), .v (.int .i64 0), .v (.int .i64 0), .v (.int .i64 0), .v (.int .i64 0), .v (.int .i64 0), .v (.int .i64 0), .v (.bool false)], 24), ([.sl A n1 c1, .io .i64 (bif e8 == 0 then q8 else q7)], 103), ([.io .i64 y0, .io .i64 y1, .io .i64 y2, .io .i64 y3, .io .i64 y4, .io .i64 y5, .io .i64 y6, .io .i64 y7, .v (.int .i64 0), .v (.int .i64 0)], 50)]⟩ (by kernel_rfl) (by kernel_rfl) ?_
                                    rcases Bool.eq_false_or_eq_true (decide (x8 > 1099511627776)) with b1 | b1
                                    · refine At.res 26 (decide (x8 > 1099511627776)) true (by kernel_rfl) b1 ?_
                                      refine At.toJ (RowF.stable) RowF.fewer 20 300 [2, 3, 4] 1 ⟨.exit .ret, [], [(2, .lp 0 0), (3, .v (.int .i64 0)), (4, .v (.int .i64 210))], [([.v (.int .i64 0), .v (.int .i64 0), .v (.int .i64 0), .v (.int .i64 0), .v (.int .i64 0), .v (.int .i64 0), .v (.int .i64 0), .v (.int .i64 0), .v (.int .i64 0), .v (.bool false)], 24)]⟩ (by kernel_rfl) (by kernel_rfl) ?_
                                      refine At.ret (by kernel_rfl) (.tup [.agg [.v (.int .i64 0), .v (.int .i64 0), .v (.int .i64 0), .v (.int .i64 0), .v (.int .i64 0), .v (.int .i64 0), .v (.int .i64 0), .v (.int .i64 0), .v (.int .i64 0), .v (.bool false)], .v (.int .i64 0), .v (.int .i64 210)]) (by kernel_rfl) ?_
                                      have hq : readL 10 bs 0 = none := by rw [readL_s hR0 hx0, readL_s hR1 hx1, readL_s hR2 hx2, readL_s hR3 hx3, readL_s hR4 hx4, readL_s hR5 hx5, readL_s hR6 hx6, readL_s hR7 hx7, readL_x hR8 b0 b1]; rfl
                                      intro ρ w9 hm hf
                                      exact ⟨by rw [hq]; rfl, hm.below⟩
                                    · refine At.res 26 (decide (x8 > 1099511627776)) false (by kernel_rfl) b1 ?_
                                      refine At.toJ (RowF.stable) RowF.fewer 20 300 [2, 5, 6, 7, 13, 17] 3 ⟨pops B16 [1, 1, 1, 0, 1, 4, 4, 1, 1, 0, 4, 1, 0] 1, [.seq (sub B16 [1, 1, 1, 0, 1, 4, 4, 1, 1, 0, 4, 1, 1]), .block 1, .seq (sub B16 [1, 1, 1, 0, 1, 4, 4, 1, 1, 1]), .rounds (sub B16 [1, 1, 1, 0, 1, 4, 4]) 10, .block 0, .seq (sub B16 [1, 1, 1, 1])], [(2, .lp 0 0), (5, .lp 1 0), (6, .lp 2 0), (7, .v (.int .i64 9)), (13, .v (.int .i64 9)), (17, .lp 1 0)], [([.v (.int .i64 0), .v (.int .i64 0), .v (.int .i64 0), .v (.int .i64 0), .v (.int .i64 0), .v (.int .i64 0), .v (.int .i64 0), .v (.int .i64 0), .v (.int .i64 0), .v (.bool false)], 24), ([.sl A n1 c1, .io .i64 (bif e8 == 0 then q8 else q7)], 103), ([.io .i64 y0, .io .i64 y1, .io .i64 y2, .io .i64 y3, .io .i64 y4, .io .i64 y5, .io .i64 y6, .io .i64 y7, .io .i64 (IntKind.i64.wrap x8), .v (.int .i64 0)], 50)]⟩ (by kernel_rfl) (by kernel_rfl) ?_
                                      have he8 : e8 = 0 := by simpa using b0
                                      subst he8
                                      have hx8 : x8 ≤ 1099511627776 := by simpa using b1
                                      have hb9 := rd_bound hb8 hR8
                                      rw [show (bif ((0 : Int) == 0) then q8 else q7) = q8 from rfl]
                                      generalize hy8 : IntKind.i64.wrap x8 = y8

                                      rcases hR9 : rd (bs.drop (q8 : Int).toNat) q8 0 0 with ⟨e9, x9, q9⟩
                                      refine At.lend 43 [.lp 1 0] [1] (.tup [.io .u64 x9, .io .i64 e9]) [([.sl A n1 c1, .io .i64 (bif e9 == 0 then q9 else q8)], 103)] RowF.stable (by kernel_rfl) (by kernel_rfl) (by kernel_rfl) (by kernel_rfl) (by kernel_rfl) (by kernel_rfl) ⟨rfl, rfl⟩ (fun ρ w1 hm hf => ?_) ?_
                                      · have hk := rnum_lend w.heap.size A n1 c1 bs hbs q8 hb9 hn (nth ρ 1) w1 hf.1.2 hf.1.1.1 (hm.cells 1 _ _ rfl) (hm.ge _ (nth_mem (by simp [hm.len]))).1 (fun h => hf.1.1.2 _ h (nth_mem (by simp [hm.len])))
                                        rw [hR9] at hk
                                        refine hk.mono ?_
                                        rintro e' w' ⟨h1, h2, h3⟩
                                        exact ⟨h1, ⟨_, h2⟩, h3⟩
                                      refine At.toJ (RowF.stable) RowF.fewer 20 300 [2, 5, 6, 7, 8, 13, 23] 3 ⟨pops B16 [1, 1, 1, 0, 1, 4, 4, 1, 1, 0, 4, 1, 1, 0, 0] 3, [.seq (sub B16 [1, 1, 1, 0, 1, 4, 4, 1, 1, 0, 4, 1, 1, 0, 1]), .seq (sub B16 [1, 1, 1, 0, 1, 4, 4, 1, 1, 0, 4, 1, 1, 1]), .block 1, .seq (sub B16 [1, 1, 1, 0, 1, 4, 4, 1, 1, 1]), .rounds (sub B16 [1, 1, 1, 0, 1, 4, 4]) 10, .block 0, .seq (sub B16 [1, 1, 1, 1])], [(2, .lp 0 0), (5, .lp 1 0), (6, .lp 2 0), (7, .v (.int .i64 9)), (8, .io IntKind.u64 x9), (13, .v (.int .i64 9)), (23, .bo (e9 != 0))], [([.v (.int .i64 0), .v (.int .i64 0), .v (.int .i64 0), .v (.int .i64 0), .v (.int .i64 0), .v (.int .i64 0), .v (.int .i64 0), .v (.int .i64 0), .v (.int .i64 0), .v (.bool false)], 24), ([.sl A n1 c1, .io .i64 (bif e9 == 0 then q9 else q8)], 103), ([.io .i64 y0, .io .i64 y1, .io .i64 y2, .io .i64 y3, .io .i64 y4, .io .i64 y5, .io .i64 y6, .io .i64 y7, .io .i64 y8, .v (.int .i64 0)], 50)]⟩ (by kernel_rfl) (by kernel_rfl) ?_
                                      rcases Bool.eq_false_or_eq_true (e9 != 0) with b0 | b0
                                      · refine At.res 23 (e9 != 0) true (by kernel_rfl) b0 ?_
                                        refine At.toJ (RowF.stable) RowF.fewer 20 300 [2, 3, 4] 1 ⟨.exit .ret, [], [(2, .lp 0 0), (3, .v (.int .i64 0)), (4, .v (.int .i64 210))], [([.v (.int .i64 0), .v (.int .i64 0), .v (.int .i64 0), .v (.int .i64 0), .v (.int .i64 0), .v (.int .i64 0), .v (.int .i64 0), .v (.int .i64 0), .v (.int .i64 0), .v (.bool false)], 24)]⟩ (by kernel_rfl) (by kernel_rfl) ?_
                                        refine At.ret (by kernel_rfl) (.tup [.agg [.v (.int .i64 0), .v (.int .i64 0), .v (.int .i64 0), .v (.int .i64 0), .v (.int .i64 0), .v (.int .i64 0), .v (.int .i64 0), .v (.int .i64 0), .v (.int .i64 0), .v (.bool false)], .v (.int .i64 0), .v (.int .i64 210)]) (by kernel_rfl) ?_
                                        have hq : readL 10 bs 0 = none := by rw [readL_s hR0 hx0, readL_s hR1 hx1, readL_s hR2 hx2, readL_s hR3 hx3, readL_s hR4 hx4, readL_s hR5 hx5, readL_s hR6 hx6, readL_s hR7 hx7, readL_s hR8 hx8, readL_e hR9 b0]; rfl
                                        intro ρ w9 hm hf
                                        exact ⟨by rw [hq]; rfl, hm.below⟩
                                      · refine At.res 23 (e9 != 0) false (by kernel_rfl) b0 ?_
                                        refine At.toJ (RowF.stable) RowF.fewer 20 300 [2, 5, 6, 7, 8, 13, 26] 3 ⟨.code (sub B16 [1, 1, 1, 0, 1, 4, 4, 1, 1, 0, 4, 1, 1, 0, 1]), [.seq (sub B16 [1, 1, 1, 0, 1, 4, 4, 1, 1, 0, 4, 1, 1, 1]), .block 1, .seq (sub B16 [1, 1, 1, 0, 1, 4, 4, 1, 1, 1]), .rounds (sub B16 [1, 1, 1, 0, 1, 4, 4]) 10, .block 0, .seq (sub B16 [1, 1, 1, 1])], [(2, .lp 0 0), (5, .lp 1 0), (6, .lp 2 0), (7, .v (.int .i64 9)), (8, .io IntKind.u64 x9), (13, .v (.int .i64 9)), (26, .bo (decide (x9 > 1099511627776)))], [([.v (.int .i64 0), .v (.int .i64 0), .v (.int .i64 0), .v (.int .i64 0), .v (.int .i64 0), .v (.int .i64 0), .v (.int .i64 0), .v (.int .i64 0), .v (.int .i64 0), .v (.bool false)], 24), ([.sl A n1 c1, .io .i64 (bif e9 == 0 then q9 else q8)], 103), ([.io .i64 y0, .io .i64 y1, .io .i64 y2, .io .i64 y3, .io .i64 y4, .io .i64 y5, .io .i64 y6, .io .i64 y7, .io .i64 y8, .v (.int .i64 0)], 50)]⟩ (by kernel_rfl) (by kernel_rfl) ?_
                                        rcases Bool.eq_false_or_eq_true (decide (x9 > 1099511627776)) with b1 | b1
                                        · refine At.res 26 (decide (x9 > 1099511627776)) true (by kernel_rfl) b1 ?_
                                          refine At.toJ (RowF.stable) RowF.fewer 20 300 [2, 3, 4] 1 ⟨.exit .ret, [], [(2, .lp 0 0), (3, .v (.int .i64 0)), (4, .v (.int .i64 210))], [([.v (.int .i64 0), .v (.int .i64 0), .v (.int .i64 0), .v (.int .i64 0), .v (.int .i64 0), .v (.int .i64 0), .v (.int .i64 0), .v (.int .i64 0), .v (.int .i64 0), .v (.bool false)], 24)]⟩ (by kernel_rfl) (by kernel_rfl) ?_
                                          refine At.ret (by kernel_rfl) (.tup [.agg [.v (.int .i64 0), .v (.int .i64 0), .v (.int .i64 0), .v (.int .i64 0), .v (.int .i64 0), .v (.int .i64 0), .v (.int .i64 0), .v (.int .i64 0), .v (.int .i64 0), .v (.bool false)], .v (.int .i64 0), .v (.int .i64 210)]) (by kernel_rfl) ?_
                                          have hq : readL 10 bs 0 = none := by rw [readL_s hR0 hx0, readL_s hR1 hx1, readL_s hR2 hx2, readL_s hR3 hx3, readL_s hR4 hx4, readL_s hR5 hx5, readL_s hR6 hx6, readL_s hR7 hx7, readL_s hR8 hx8, readL_x hR9 b0 b1]; rfl
                                          intro ρ w9 hm hf
                                          exact ⟨by rw [hq]; rfl, hm.below⟩
                                        · refine At.res 26 (decide (x9 > 1099511627776)) false (by kernel_rfl) b1 ?_
                                          refine At.toJ (RowF.stable) RowF.fewer 20 300 [2, 5, 6, 33] 3 ⟨pops B16 [1, 1, 1, 1, 0] 1, [.seq (sub B16 [1, 1, 1, 1, 1])], [(2, .lp 0 0), (5, .lp 1 0), (6, .lp 2 0), (33, .agg [.io .i64 y0, .io .i64 y1, .io .i64 y2, .io .i64 y3, .io .i64 y4, .io .i64 y5, .io .i64 y6, .io .i64 y7, .io .i64 y8, .io .i64 (IntKind.i64.wrap x9)])], [([.v (.int .i64 0), .v (.int .i64 0), .v (.int .i64 0), .v (.int .i64 0), .v (.int .i64 0), .v (.int .i64 0), .v (.int .i64 0), .v (.int .i64 0), .v (.int .i64 0), .v (.bool false)], 24), ([.sl A n1 c1, .io .i64 (bif e9 == 0 then q9 else q8)], 103), ([.io .i64 y0, .io .i64 y1, .io .i64 y2, .io .i64 y3, .io .i64 y4, .io .i64 y5, .io .i64 y6, .io .i64 y7, .io .i64 y8, .io .i64 (IntKind.i64.wrap x9)], 50)]⟩ (by kernel_rfl) (by kernel_rfl) ?_
                                          have he9 : e9 = 0 := by simpa using b0
                                          subst he9
                                          have hx9 : x9 ≤ 1099511627776 := by simpa using b1
                                          have hb10 := rd_bound hb9 hR9
                                          rw [show (bif ((0 : Int) == 0) then q9 else q8) = q9 from rfl]
                                          generalize hy9 : IntKind.i64.wrap x9 = y9

                                          refine At.toJ (RowF.stable) RowF.fewer 20 300 [2, 5, 6, 33] 3 ⟨pops B16 [1, 1, 1, 1, 0] 1, [.seq (sub B16 [1, 1, 1, 1, 1])], [(2, .lp 0 0), (5, .lp 1 0), (6, .lp 2 0), (33, .agg [.io .i64 y0, .io .i64 y1, .io .i64 y2, .io .i64 y3, .io .i64 y4, .io .i64 y5, .io .i64 y6, .io .i64 y7, .io .i64 y8, .io .i64 y9])], [([.v (.int .i64 0), .v (.int .i64 0), .v (.int .i64 0), .v (.int .i64 0), .v (.int .i64 0), .v (.int .i64 0), .v (.int .i64 0), .v (.int .i64 0), .v (.int .i64 0), .v (.bool false)], 24), ([.sl A n1 c1, .io .i64 q9], 103), ([.io .i64 y0, .io .i64 y1, .io .i64 y2, .io .i64 y3, .io .i64 y4, .io .i64 y5, .io .i64 y6, .io .i64 y7, .io .i64 y8, .io .i64 y9], 50)]⟩ (by kernel_rfl) (by kernel_rfl) ?_
                                          refine At.call (RowF.stable) 23 [.agg [.io .i64 y0, .io .i64 y1, .io .i64 y2, .io .i64 y3, .io .i64 y4, .io .i64 y5, .io .i64 y6, .io .i64 y7, .io .i64 y8, .io .i64 y9]] (.agg [.io .i64 y0, .io .i64 y1, .io .i64 y2, .io .i64 y3, .io .i64 y4, .io .i64 y5, .io .i64 y6, .io .i64 y7, .io .i64 y8, .bo (y9 == 1)]) (by kernel_rfl) (by kernel_rfl) (by kernel_rfl) (fun _ _ w _ _ => of_any (y0) (y1) (y2) (y3) (y4) (y5) (y6) (y7) (y8) (y9) w) ?_
                                          refine At.toJ (RowF.stable) RowF.fewer 20 300 [2, 5, 6, 10, 35] 4 ⟨pqops B16 [1, 1, 1, 1, 1, 0, 0] 1, [.seq (sub B16 [1, 1, 1, 1, 1, 0, 1]), .seq (sub B16 [1, 1, 1, 1, 1, 1])], [(2, .lp 0 0), (5, .lp 1 0), (6, .lp 2 0), (10, .lp 3 0), (35, .agg [.io .i64 y0, .io .i64 y1, .io .i64 y2, .io .i64 y3, .io .i64 y4, .io .i64 y5, .io .i64 y6, .io .i64 y7, .io .i64 y8, .bo (y9 == 1)])], [([.v (.int .i64 0), .v (.int .i64 0), .v (.int .i64 0), .v (.int .i64 0), .v (.int .i64 0), .v (.int .i64 0), .v (.int .i64 0), .v (.int .i64 0), .v (.int .i64 0), .v (.bool false)], 24), ([.sl A n1 c1, .io .i64 q9], 103), ([.io .i64 y0, .io .i64 y1, .io .i64 y2, .io .i64 y3, .io .i64 y4, .io .i64 y5, .io .i64 y6, .io .i64 y7, .io .i64 y8, .io .i64 y9], 50), ([.io .i64 y0, .io .i64 y1, .io .i64 y2, .io .i64 y3, .io .i64 y4, .io .i64 y5, .io .i64 y6, .io .i64 y7, .io .i64 y8, .bo (y9 == 1)], 24)]⟩ (by kernel_rfl) (by kernel_rfl) ?_
                                          refine At.call (RowF.stable) 29 [.agg [.io .i64 y0, .io .i64 y1, .io .i64 y2, .io .i64 y3, .io .i64 y4, .io .i64 y5, .io .i64 y6, .io .i64 y7, .io .i64 y8, .bo (y9 == 1)]] (.io .i64 (jobE (wrongF y0 y1 y2 y3 y4 y5 y6 y7 y8))) (by kernel_rfl) (by kernel_rfl) (by kernel_rfl) (fun _ _ w _ _ => check_any (y0) (y1) (y2) (y3) (y4) (y5) (y6) (y7) (y8) (y9 == 1) w) ?_
                                          refine At.toJ (RowF.stable) RowF.fewer 20 300 [2, 5, 6, 10, 38] 4 ⟨pqops B16 [1, 1, 1, 1, 1, 0, 0] 4, [.seq (sub B16 [1, 1, 1, 1, 1, 0, 1]), .seq (sub B16 [1, 1, 1, 1, 1, 1])], [(2, .lp 0 0), (5, .lp 1 0), (6, .lp 2 0), (10, .lp 3 0), (38, .bo (jobE (wrongF y0 y1 y2 y3 y4 y5 y6 y7 y8) != 0))], [([.v (.int .i64 0), .v (.int .i64 0), .v (.int .i64 0), .v (.int .i64 0), .v (.int .i64 0), .v (.int .i64 0), .v (.int .i64 0), .v (.int .i64 0), .v (.int .i64 0), .v (.bool false)], 24), ([.sl A n1 c1, .io .i64 q9], 103), ([.io .i64 y0, .io .i64 y1, .io .i64 y2, .io .i64 y3, .io .i64 y4, .io .i64 y5, .io .i64 y6, .io .i64 y7, .io .i64 y8, .io .i64 y9], 50), ([.io .i64 y0, .io .i64 y1, .io .i64 y2, .io .i64 y3, .io .i64 y4, .io .i64 y5, .io .i64 y6, .io .i64 y7, .io .i64 y8, .bo (y9 == 1)], 24)]⟩ (by kernel_rfl) (by kernel_rfl) ?_
                                          rcases Bool.eq_false_or_eq_true (jobE (wrongF y0 y1 y2 y3 y4 y5 y6 y7 y8) != 0) with b0 | b0
                                          · refine At.res 38 (jobE (wrongF y0 y1 y2 y3 y4 y5 y6 y7 y8) != 0) true (by kernel_rfl) b0 ?_
                                            refine At.toJ (RowF.stable) RowF.fewer 20 300 [2, 3, 4] 1 ⟨.exit .ret, [], [(2, .lp 0 0), (3, .v (.int .i64 0)), (4, .v (.int .i64 210))], [([.v (.int .i64 0), .v (.int .i64 0), .v (.int .i64 0), .v (.int .i64 0), .v (.int .i64 0), .v (.int .i64 0), .v (.int .i64 0), .v (.int .i64 0), .v (.int .i64 0), .v (.bool false)], 24)]⟩ (by kernel_rfl) (by kernel_rfl) ?_
                                            refine At.ret (by kernel_rfl) (.tup [.agg [.v (.int .i64 0), .v (.int .i64 0), .v (.int .i64 0), .v (.int .i64 0), .v (.int .i64 0), .v (.int .i64 0), .v (.int .i64 0), .v (.int .i64 0), .v (.int .i64 0), .v (.bool false)], .v (.int .i64 0), .v (.int .i64 210)]) (by kernel_rfl) ?_
                                            have hq : readL 10 bs 0 = some ([y0, y1, y2, y3, y4, y5, y6, y7, y8, y9], q9) := by subst_vars; rw [readL_s hR0 hx0, readL_s hR1 hx1, readL_s hR2 hx2, readL_s hR3 hx3, readL_s hR4 hx4, readL_s hR5 hx5, readL_s hR6 hx6, readL_s hR7 hx7, readL_s hR8 hx8, readL_s hR9 hx9]; rfl
                                            intro ρ w9 hm hf
                                            exact ⟨by rw [hq]; simp only [readV, b0, cond_true]; rfl, hm.below⟩
                                          · refine At.res 38 (jobE (wrongF y0 y1 y2 y3 y4 y5 y6 y7 y8) != 0) false (by kernel_rfl) b0 ?_
                                            refine At.toJ (RowF.stable) RowF.fewer 20 300 [2, 5, 6, 10, 38, 39] 4 ⟨pqops B16 [1, 1, 1, 1, 1, 0, 0] 5, [.seq (sub B16 [1, 1, 1, 1, 1, 0, 1]), .seq (sub B16 [1, 1, 1, 1, 1, 1])], [(2, .lp 0 0), (5, .lp 1 0), (6, .lp 2 0), (10, .lp 3 0), (38, .v (.bool false)), (39, .agg [.io .i64 y0, .io .i64 y1, .io .i64 y2, .io .i64 y3, .io .i64 y4, .io .i64 y5, .io .i64 y6, .io .i64 y7, .io .i64 y8, .bo (y9 == 1)])], [([.v (.int .i64 0), .v (.int .i64 0), .v (.int .i64 0), .v (.int .i64 0), .v (.int .i64 0), .v (.int .i64 0), .v (.int .i64 0), .v (.int .i64 0), .v (.int .i64 0), .v (.bool false)], 24), ([.sl A n1 c1, .io .i64 q9], 103), ([.io .i64 y0, .io .i64 y1, .io .i64 y2, .io .i64 y3, .io .i64 y4, .io .i64 y5, .io .i64 y6, .io .i64 y7, .io .i64 y8, .io .i64 y9], 50), ([.io .i64 y0, .io .i64 y1, .io .i64 y2, .io .i64 y3, .io .i64 y4, .io .i64 y5, .io .i64 y6, .io .i64 y7, .io .i64 y8, .bo (y9 == 1)], 24)]⟩ (by kernel_rfl) (by kernel_rfl) ?_
                                            refine At.call (RowF.stable) 31 [.agg [.io .i64 y0, .io .i64 y1, .io .i64 y2, .io .i64 y3, .io .i64 y4, .io .i64 y5, .io .i64 y6, .io .i64 y7, .io .i64 y8, .bo (y9 == 1)]] (.agg [.io .i64 y0, .io .i64 y1, .io .i64 y2, .io .i64 y3, .io .i64 y4, .io .i64 y5, .io .i64 y6, .io .i64 y7, .io .i64 y8, .io .i64 (bif y9 == 1 then 1 else 0)]) (by kernel_rfl) (by kernel_rfl) (by kernel_rfl) (fun _ _ w _ _ => numbers_any (y0) (y1) (y2) (y3) (y4) (y5) (y6) (y7) (y8) (y9 == 1) w) ?_
                                            refine At.toJ (RowF.stable) RowF.fewer 20 300 [2, 5, 10, 43] 4 ⟨.code (sub B16 [1, 1, 1, 1, 1, 0, 1]), [.seq (sub B16 [1, 1, 1, 1, 1, 1])], [(2, .lp 0 0), (5, .lp 1 0), (10, .lp 3 0), (43, .bo !(y0 == y0 && (y1 == y1 && (y2 == y2 && (y3 == y3 && (y4 == y4 && (y5 == y5 && (y6 == y6 && (y7 == y7 && (y8 == y8 && ((bif y9 == 1 then 1 else 0) == y9 && true)))))))))))], [([.v (.int .i64 0), .v (.int .i64 0), .v (.int .i64 0), .v (.int .i64 0), .v (.int .i64 0), .v (.int .i64 0), .v (.int .i64 0), .v (.int .i64 0), .v (.int .i64 0), .v (.bool false)], 24), ([.sl A n1 c1, .io .i64 q9], 103), ([.io .i64 y0, .io .i64 y1, .io .i64 y2, .io .i64 y3, .io .i64 y4, .io .i64 y5, .io .i64 y6, .io .i64 y7, .io .i64 y8, .io .i64 y9], 50), ([.io .i64 y0, .io .i64 y1, .io .i64 y2, .io .i64 y3, .io .i64 y4, .io .i64 y5, .io .i64 y6, .io .i64 y7, .io .i64 y8, .bo (y9 == 1)], 24)]⟩ (by kernel_rfl) (by kernel_rfl) ?_
                                            rcases Bool.eq_false_or_eq_true (!(y0 == y0 && (y1 == y1 && (y2 == y2 && (y3 == y3 && (y4 == y4 && (y5 == y5 && (y6 == y6 && (y7 == y7 && (y8 == y8 && ((bif y9 == 1 then 1 else 0) == y9 && true))))))))))) with b1 | b1
                                            · refine At.res 43 (!(y0 == y0 && (y1 == y1 && (y2 == y2 && (y3 == y3 && (y4 == y4 && (y5 == y5 && (y6 == y6 && (y7 == y7 && (y8 == y8 && ((bif y9 == 1 then 1 else 0) == y9 && true))))))))))) true (by kernel_rfl) b1 ?_
                                              refine At.toJ (RowF.stable) RowF.fewer 20 300 [2, 3, 4] 1 ⟨.exit .ret, [], [(2, .lp 0 0), (3, .v (.int .i64 0)), (4, .v (.int .i64 210))], [([.v (.int .i64 0), .v (.int .i64 0), .v (.int .i64 0), .v (.int .i64 0), .v (.int .i64 0), .v (.int .i64 0), .v (.int .i64 0), .v (.int .i64 0), .v (.int .i64 0), .v (.bool false)], 24)]⟩ (by kernel_rfl) (by kernel_rfl) ?_
                                              refine At.ret (by kernel_rfl) (.tup [.agg [.v (.int .i64 0), .v (.int .i64 0), .v (.int .i64 0), .v (.int .i64 0), .v (.int .i64 0), .v (.int .i64 0), .v (.int .i64 0), .v (.int .i64 0), .v (.int .i64 0), .v (.bool false)], .v (.int .i64 0), .v (.int .i64 210)]) (by kernel_rfl) ?_
                                              have hq : readL 10 bs 0 = some ([y0, y1, y2, y3, y4, y5, y6, y7, y8, y9], q9) := by subst_vars; rw [readL_s hR0 hx0, readL_s hR1 hx1, readL_s hR2 hx2, readL_s hR3 hx3, readL_s hR4 hx4, readL_s hR5 hx5, readL_s hR6 hx6, readL_s hR7 hx7, readL_s hR8 hx8, readL_s hR9 hx9]; rfl
                                              intro ρ w9 hm hf
                                              refine ⟨?_, hm.below⟩
                                              rw [hq]
                                              simp only [BEq.rfl, Bool.true_and, Bool.and_true] at b1
                                              simp only [readV, b0, b1, cond_true, cond_false]
                                              rfl
                                            · refine At.res 43 (!(y0 == y0 && (y1 == y1 && (y2 == y2 && (y3 == y3 && (y4 == y4 && (y5 == y5 && (y6 == y6 && (y7 == y7 && (y8 == y8 && ((bif y9 == 1 then 1 else 0) == y9 && true))))))))))) false (by kernel_rfl) b1 ?_
                                              refine At.toJ (RowF.stable) RowF.fewer 20 300 [2, 45, 46] 2 ⟨.qops (opsOf (sub B16 [1, 1, 1, 1, 1, 1, 0])) (((opsOf (sub B16 [1, 1, 1, 1, 1, 1, 0])).toList.take 3).drop 2), [.tail (opsOf (sub B16 [1, 1, 1, 1, 1, 1, 0])) ((opsOf (sub B16 [1, 1, 1, 1, 1, 1, 0])).toList.drop 3), .seq (sub B16 [1, 1, 1, 0, 1, 4, 4, 1, 1, 0, 4, 1, 1, 0, 1, 2, 1])], [(2, .lp 0 0), (45, .agg [.io .i64 y0, .io .i64 y1, .io .i64 y2, .io .i64 y3, .io .i64 y4, .io .i64 y5, .io .i64 y6, .io .i64 y7, .io .i64 y8, .bo (y9 == 1)]), (46, .lp 1 0)], [([.v (.int .i64 0), .v (.int .i64 0), .v (.int .i64 0), .v (.int .i64 0), .v (.int .i64 0), .v (.int .i64 0), .v (.int .i64 0), .v (.int .i64 0), .v (.int .i64 0), .v (.bool false)], 24), ([.sl A n1 c1, .io .i64 q9], 103)]⟩ (by kernel_rfl) (by kernel_rfl) ?_
                                              refine At.call (RowF.stable) 44 [.lp 1 0] (.io .i64 q9) (by kernel_rfl) (by kernel_rfl) (by kernel_rfl) (fun ρ _ w1 hi _ => place_any A n1 c1 q9 (nth ρ 1) w1 (hi.mem.cells 1 _ _ rfl)) ?_
                                              refine At.toJ (RowF.stable) RowF.fewer 20 300 [2, 3, 4] 1 ⟨.exit .ret, [], [(2, .lp 0 0), (3, .io .i64 q9), (4, .v (.int .i64 0))], [([.io .i64 y0, .io .i64 y1, .io .i64 y2, .io .i64 y3, .io .i64 y4, .io .i64 y5, .io .i64 y6, .io .i64 y7, .io .i64 y8, .bo (y9 == 1)], 24)]⟩ (by kernel_rfl) (by kernel_rfl) ?_
                                              refine At.ret (by kernel_rfl) (.tup [.agg [.io .i64 y0, .io .i64 y1, .io .i64 y2, .io .i64 y3, .io .i64 y4, .io .i64 y5, .io .i64 y6, .io .i64 y7, .io .i64 y8, .bo (y9 == 1)], .io .i64 q9, .v (.int .i64 0)]) (by kernel_rfl) ?_
                                              have hq : readL 10 bs 0 = some ([y0, y1, y2, y3, y4, y5, y6, y7, y8, y9], q9) := by subst_vars; rw [readL_s hR0 hx0, readL_s hR1 hx1, readL_s hR2 hx2, readL_s hR3 hx3, readL_s hR4 hx4, readL_s hR5 hx5, readL_s hR6 hx6, readL_s hR7 hx7, readL_s hR8 hx8, readL_s hR9 hx9]; rfl
                                              intro ρ w9 hm hf
                                              refine ⟨?_, hm.below⟩
                                              rw [hq]
                                              simp only [BEq.rfl, Bool.true_and, Bool.and_true] at b1
                                              simp only [readV, b0, b1, cond_true, cond_false]
                                              rfl

end Go.Proofs.YtiehnigbcfkcdaaGreatDoor
