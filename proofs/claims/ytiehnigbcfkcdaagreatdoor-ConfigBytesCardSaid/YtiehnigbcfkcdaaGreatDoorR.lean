import Derived.Test.YtiehnigbcfkcdaaGreatDoorB
import Derived.Test.YtiehnigbcfkcdaaGreatDoorSxQ
set_option linter.unusedSimpArgs false
set_option linter.unusedVariables false
namespace Go.Proofs.YtiehnigbcfkcdaaGreatDoor
open Go.RowKit Go.Sx

/-- The seven low bits of a byte. -/
def rdB (b : Nat) : Int := IntKind.u64.wrap (IntKind.u8.wrap ↑(BitVec.ofInt IntKind.u8.bits (b : Int) &&& BitVec.ofInt IntKind.u8.bits 127).toNat)
def rdS (b : Nat) (sh : Int) : Int := IntKind.u64.wrap (rdB b * 2 ^ (min sh.toNat IntKind.u64.bits))
def rdX (x : Int) (b : Nat) (sh : Int) : Int := IntKind.u64.wrap ↑(BitVec.ofInt IntKind.u64.bits x ||| BitVec.ofInt IntKind.u64.bits (rdS b sh)).toNat
/-- What the Reader reads of bytes: error, number, place behind. -/
def rd : List Nat → Int → Int → Int → Int × Int × Int
  | [], at', _, _ => (110, 0, at')
  | b :: l, at', x, sh => bif (sh == 63) && ((b : Int) != 1) then (111, 0, at') else bif decide ((b : Int) > 127) then rd l (at' + 1) (rdX x b sh) (sh + 7) else bif ((b : Int) == 0) && decide (sh > 0) then (111, 0, at') else (0, rdX x b sh, at' + 1)
theorem byte_at {w : World} {base n c : Nat} {a : Addr} {bs : List Nat} (hr : w.ownsRow base 5 1 (.slice (some a) n c) n (bv bs)) (hbs : ∀ b ∈ bs, b < 256) {j : Nat} (hj : j < n) : ∃ b, bs[j]? = some b ∧ b < 256 := by
  have h1 : (bv bs).length = n * 1 := hr.1
  simp only [bv, List.length_map] at h1
  have hl : j < bs.length := by omega
  exact ⟨bs[j], List.getElem?_eq_getElem hl, hbs _ (List.getElem_mem hl)⟩
theorem row_cell {w : World} {ρ : List Nat} {base n c : Nat} {a : Addr} {bs : List Nat} (hr : Row base 5 1 (some a) n c (bv bs) ρ w) {j b : Nat} (hb : bs[j]? = some b) (hj : j < n) : w.cell? (a.add (j * 1)) = some (.int .u8 (b : Int)) := by
  obtain ⟨g, hg, hc⟩ := hr.cell (j := j) (by omega)
  injection hg with hg
  subst hg
  rw [add_ok, Nat.mul_one, Nat.zero_add, hc]
  simp [bv, hb]
noncomputable def B43 : Code := (Tryz.f43.body).getD .skip
structure RdSt where
  bad : Bool
  x : Int
  at' : Int
  sh : Int
def labRd (s : RdSt) : Nat := match s.bad with | true => 1 | false => 0
def frRd (s : RdSt) : Fr := match s.bad with
  | true => []
  | false => [(0, .lp 0 0), (4, .io .u64 s.x), (5, .io .i64 s.at'), (6, .io .i64 s.sh)]
def muRd (n : Nat) (s : RdSt) : Nat := match s.bad with | true => 0 | false => 1 + ((n : Int) - s.at').toNat
def locRd (a : Addr) (n c : Nat) (at0 : Int) (_ : RdSt) : Sx.Loc := [([.sl (some a) n c, .io .i64 at0], 103)]
noncomputable def restRd (s : RdSt) : Code := (findLabel (sub B43 [1, 4]) (labRd s)).getD .skip
def anySt (_ : RdSt) : Prop := True
def lessSt (n : Nat) (s s' : RdSt) : Prop := muRd n s' < muRd n s
theorem FrameR.here {w0 : World} {ok : Nat → Prop} {N : Nat} {ρ0 ρ : List Nat} {loc : Sx.Loc} {w : World} (h : FrameR w0 ok ρ0 ρ w) (hm : WInv N w0 ρ loc w) (hl : loc.length = ρ0.length) : ρ = ρ0 := by
  have h3 := h.2.2
  rw [← hl, ← hm.len, List.take_length] at h3
  exact h3
def RdPost (r base : Nat) (a : Addr) (n c : Nat) (bs : List Nat) (at0 : Int) (w : World) (R : Int × Int × Int) (e : Ending) (w' : World) : Prop :=
  e = .returned (.tuple #[.int .u64 R.2.1, .int .i64 R.1]) ∧ WInv r w [r] [([.sl (some a) n c, .io .i64 (bif R.1 == 0 then R.2.2 else at0)], 103)] w' ∧ FRow w (fun k => k ∈ [r]) [r] base 5 1 (some a) n c (bv bs) [r] w'
theorem rd_end {r base n c : Nat} {a : Addr} {bs ρ : List Nat} {at0 atv E X q : Int} {w w9 : World} {R : Int × Int × Int} {e : Ending} (hR : R = (E, X, q)) (hv : atv = bif E == 0 then q else at0) (he : e = .returned (.tuple #[.int .u64 X, .int .i64 E]))
    (hm : WInv r w ρ [([.sl (some a) n c, .io .i64 atv], 103)] w9) (hf : FRow w (fun k => k ∈ [r]) [r] base 5 1 (some a) n c (bv bs) ρ w9) : RdPost r base a n c bs at0 w R e w9 := by
  subst hR; subst hv
  obtain rfl := FrameR.here hf.1 hm rfl
  exact ⟨he, hm, hf⟩
theorem drop_at {bs : List Nat} {j b : Nat} (h : bs[j]? = some b) : bs.drop j = b :: bs.drop (j + 1) := by
  obtain ⟨hl, he⟩ := List.getElem?_eq_some_iff.1 h
  rw [List.drop_eq_getElem_cons hl, he]
theorem wrap63 {x : Int} (h0 : 0 ≤ x) (h1 : x < 9223372036854775808) : IntKind.i64.wrap x = x := by
  simp only [IntKind.wrap, IntKind.bits, IntKind.signed]
  simp
  omega
def GRd (w0 : World) (r base : Nat) (a : Addr) (n c : Nat) (bs : List Nat) (R : Int × Int × Int) (s : RdSt) (ρ : List Nat) (w : World) : Prop :=
  FRow w0 (fun k => k ∈ [r]) [r] base 5 1 (some a) n c (bv bs) ρ w ∧ ((s.bad = true → ∃ q, R = (111, 0, q)) ∧ (s.bad = false → 0 ≤ s.at' ∧ s.at' ≤ n ∧ 0 ≤ s.sh ∧ s.sh ≤ 63 ∧ s.sh % 7 = 0 ∧ rd (bs.drop s.at'.toNat) s.at' s.x s.sh = R))

set_option maxHeartbeats 4000000 in
set_option maxRecDepth 100000 in
theorem rnum_any (base : Nat) (a : Addr) (n c : Nat) (bs : List Nat) (hbs : ∀ b ∈ bs, b < 256) (at0 : Int) (h0 : 0 ≤ at0 ∧ at0 ≤ n) (hn : n ≤ 140737488355328) (r : Nat) (w : World) (hb : base ≤ w.heap.size) (hr : w.ownsRow base 5 1 (.slice (some a) n c) n (bv bs)) (hp : w.heap[r]? = some (.cells #[.slice (some a) n c, .int .i64 at0] 103)) (hbp : base ≤ r) (hnp : (Value.slice (some a) n c).ownBlock ≠ some r) :
    Calls Tryz.prog 43 #[.pointer (some ⟨r, 0, none⟩)] w (RdPost r base a n c bs at0 w (rd (bs.drop at0.toNat) at0 0 0)) := by
  generalize hR : rd (bs.drop at0.toNat) at0 0 0 = R
  have hlen : bs.length = n := by have := hr.1; simp only [bv, List.length_map] at this; omega
  refine enterG (N := r) (F := FRow w (fun k => k ∈ [r]) [r] base 5 1 (some a) n c (bv bs)) (fn := Tryz.f43) (c := B43) [.lp 0 0] [r] [([.sl (some a) n c, .io .i64 at0], 103)] Tryz.func43 rfl rfl (WInv.start1 (Nat.le_refl _) hp) ⟨FrameR.start _ [r] (by simp), hr, fun g hg hm => by simp at hm; exact hnp (hm ▸ hg)⟩ ?_
  refine At.toJ (FRow.stable) FRow.fewer 0 100 [0] 1 ⟨.code (sub B43 [1]), [], [(0, .lp 0 0)], [([.sl (some a) n c, .io .i64 at0], 103)]⟩ (by kernel_rfl) (by kernel_rfl) ?_
  have hround : ∀ (p : RdSt → Prop) (x at1 sh : Int), (∀ s, muRd n s < muRd n ⟨false, x, at1, sh⟩ → p s) → 0 ≤ at1 → at1 ≤ n → 0 ≤ sh → sh ≤ 63 → sh % 7 = 0 → rd (bs.drop at1.toNat) at1 x sh = R →
      At Tryz.prog (bodyPost Tryz.prog Tryz.f43 (RdPost r base a n c bs at0 w R)) r w Tryz.f43.ntmps (FRow w (fun k => k ∈ [r]) [r] base 5 1 (some a) n c (bv bs)) ⟨.code (sub B43 [1, 4, 1, 1, 1, 1]), [.jump (Jump r w Tryz.f43.ntmps labRd frRd (locRd a n c at0) (GRd w r base a n c bs R) p)], [(0, .lp 0 0), (4, .io .u64 x), (5, .io .i64 at1), (6, .io .i64 sh)], [([.sl (some a) n c, .io .i64 at0], 103)]⟩ := by
    intro p x at1 sh hp h1 h2 h3 h4 h5 h6
    refine At.toJ (FRow.stable) FRow.fewer 0 100 [0, 4, 5, 6, 20] 1 ⟨.code (sub B43 [1, 4, 1, 1, 1, 1, 0, 1]), [.seq (sub B43 [1, 4, 1, 1, 1, 1, 1]), .jump (Jump r w Tryz.f43.ntmps labRd frRd (locRd a n c at0) (GRd w r base a n c bs R) p)], [(0, .lp 0 0), (4, .io IntKind.u64 x), (5, .io .i64 at1), (6, .io .i64 sh), (20, .bo (at1 == (↑n : Int)))], [([.sl (some a) n c, .io .i64 at0], 103)]⟩ (by kernel_rfl) (by kernel_rfl) ?_
    rcases Bool.eq_false_or_eq_true (at1 == (↑n : Int)) with b0 | b0
    · refine At.res 20 (at1 == (↑n : Int)) true (by kernel_rfl) b0 ?_
      refine At.toJ (FRow.stable) FRow.fewer 0 100 [2, 3] 1 ⟨.exit .ret, [], [(2, .v (.int IntKind.u64 0)), (3, .v (.int .i64 110))], [([.sl (some a) n c, .io .i64 at0], 103)]⟩ (by kernel_rfl) (by kernel_rfl) ?_
      refine At.ret (by kernel_rfl) (.tup [.v (.int IntKind.u64 0), .v (.int .i64 110)]) (by kernel_rfl) ?_
      have he : at1 = n := by simpa using b0
      have hd : bs.drop at1.toNat = [] := List.drop_eq_nil_of_le (by omega)
      rw [hd] at h6
      intro ρ w9 hm hf
      exact rd_end h6.symm rfl rfl hm hf
    · refine At.res 20 (at1 == (↑n : Int)) false (by kernel_rfl) b0 ?_
      refine At.toJ (FRow.stable) FRow.fewer 0 100 [0, 4, 5, 6, 24, 25] 1 ⟨pops B43 [1, 4, 1, 1, 1, 1, 1, 0] 5, [.seq (sub B43 [1, 4, 1, 1, 1, 1, 1, 1]), .jump (Jump r w Tryz.f43.ntmps labRd frRd (locRd a n c at0) (GRd w r base a n c bs R) p)], [(0, .lp 0 0), (4, .io IntKind.u64 x), (5, .io .i64 at1), (6, .io .i64 sh), (24, .sl (some a) n c), (25, .io .i64 at1)], [([.sl (some a) n c, .io .i64 at0], 103)]⟩ (by kernel_rfl) (by kernel_rfl) ?_
      have hne : at1 ≠ n := by simpa using b0
      have hlt : at1.toNat < n := by omega
      obtain ⟨b, hbg, hbl⟩ := byte_at hr hbs hlt
      refine At.idx a n 1 (at1) (by kernel_rfl) (by omega) (by omega) FRow.stable ?_
      refine At.toJ (FRow.stable) FRow.fewer 0 100 [0, 4, 5, 6, 26] 1 ⟨pops B43 [1, 4, 1, 1, 1, 1, 1, 0] 6, [.seq (sub B43 [1, 4, 1, 1, 1, 1, 1, 1]), .jump (Jump r w Tryz.f43.ntmps labRd frRd (locRd a n c at0) (GRd w r base a n c bs R) p)], [(0, .lp 0 0), (4, .io IntKind.u64 x), (5, .io .i64 at1), (6, .io .i64 sh), (26, .v (.pointer (some (a.add (at1.toNat * 1)))))], [([.sl (some a) n c, .io .i64 at0], 103)]⟩ (by kernel_rfl) (by kernel_rfl) ?_
      refine At.ldx (a.add ((at1).toNat * 1)) (.io .u8 (b : Int)) (by kernel_rfl) FRow.stable (fun ρ w1 hm hf => row_cell hf.2 hbg hlt) ?_
      refine At.toJ (FRow.stable) FRow.fewer 0 100 [0, 4, 5, 6, 7, 32] 1 ⟨pops B43 [1, 4, 1, 1, 1, 1, 1, 1, 1, 0, 0] 3, [.seq (sub B43 [1, 4, 1, 1, 1, 1, 1, 1, 1, 0, 1]), .seq (sub B43 [1, 4, 1, 1, 1, 1, 1, 1, 1, 1]), .jump (Jump r w Tryz.f43.ntmps labRd frRd (locRd a n c at0) (GRd w r base a n c bs R) p)], [(0, .lp 0 0), (4, .io IntKind.u64 x), (5, .io .i64 (IntKind.i64.wrap (at1 + 1))), (6, .io .i64 sh), (7, .io IntKind.u8 (↑b : Int)), (32, .bo (sh == 63))], [([.sl (some a) n c, .io .i64 at0], 103)]⟩ (by kernel_rfl) (by kernel_rfl) ?_
      rcases Bool.eq_false_or_eq_true (sh == 63) with b0 | b0
      · refine At.res 32 (sh == 63) true (by kernel_rfl) b0 ?_
        refine At.toJ (FRow.stable) FRow.fewer 0 100 [0, 4, 5, 6, 7, 35] 1 ⟨.code (sub B43 [1, 4, 1, 1, 1, 1, 1, 1, 1, 0, 1]), [.seq (sub B43 [1, 4, 1, 1, 1, 1, 1, 1, 1, 1]), .jump (Jump r w Tryz.f43.ntmps labRd frRd (locRd a n c at0) (GRd w r base a n c bs R) p)], [(0, .lp 0 0), (4, .io IntKind.u64 x), (5, .io .i64 (IntKind.i64.wrap (at1 + 1))), (6, .io .i64 sh), (7, .io IntKind.u8 (↑b : Int)), (35, .bo ((↑b : Int) != 1))], [([.sl (some a) n c, .io .i64 at0], 103)]⟩ (by kernel_rfl) (by kernel_rfl) ?_
        rcases Bool.eq_false_or_eq_true ((↑b : Int) != 1) with b1 | b1
        · refine At.res 35 ((↑b : Int) != 1) true (by kernel_rfl) b1 ?_
          refine At.toJ (FRow.stable) FRow.fewer 0 100 [0, 4, 5, 6] 1 ⟨.exit (.goto 1), [.jump (Jump r w Tryz.f43.ntmps labRd frRd (locRd a n c at0) (GRd w r base a n c bs R) p)], [(0, .lp 0 0), (4, .io IntKind.u64 x), (5, .io .i64 (IntKind.i64.wrap (at1 + 1))), (6, .io .i64 sh)], [([.sl (some a) n c, .io .i64 at0], 103)]⟩ (by kernel_rfl) (by kernel_rfl) ?_
          have hst : (111, 0, at1) = R := by rw [← h6, drop_at hbg]; simp only [rd, rdX, rdS, *, Bool.not_true, Bool.not_false, Bool.true_and, Bool.false_and, Bool.and_true, Bool.and_false, cond_true, cond_false]
          refine At.jump (σ := RdSt) ⟨true, x, at1, sh⟩ rfl rfl rfl (by unfold subFr; kernel_rfl) rfl ?_ ?_
          · intro ρ a1 w1 hi hf
            exact ⟨hf, fun _ => ⟨_, hst.symm⟩, fun h => by cases h⟩
          · exact hp _ (by simp only [muRd]; omega)
        · refine At.res 35 ((↑b : Int) != 1) false (by kernel_rfl) b1 ?_
          refine At.toJ (FRow.stable) FRow.fewer 0 100 [0, 5, 6, 7, 36, 39, 40] 1 ⟨pops B43 [1, 4, 1, 1, 1, 1, 1, 1, 1, 1, 0] 5, [.seq (sub B43 [1, 4, 1, 1, 1, 1, 1, 1, 1, 1, 1]), .jump (Jump r w Tryz.f43.ntmps labRd frRd (locRd a n c at0) (GRd w r base a n c bs R) p)], [(0, .lp 0 0), (5, .io .i64 (IntKind.i64.wrap (at1 + 1))), (6, .io .i64 sh), (7, .io IntKind.u8 (↑b : Int)), (36, .io IntKind.u64 x), (39, .io IntKind.u64 (IntKind.u64.wrap (IntKind.u8.wrap (↑(BitVec.ofInt IntKind.u8.bits (↑b : Int) &&& BitVec.ofInt IntKind.u8.bits 127).toNat : Int)))), (40, .io .i64 sh)], [([.sl (some a) n c, .io .i64 at0], 103)]⟩ (by kernel_rfl) (by kernel_rfl) ?_
          refine At.shl .u64 (rdB b) (sh) (by kernel_rfl) (by omega) FRow.stable ?_
          refine At.toJ (FRow.stable) FRow.fewer 0 100 [0, 4, 5, 6, 7, 44] 1 ⟨.code (sub B43 [1, 4, 1, 1, 1, 1, 1, 1, 1, 1, 1, 0, 1]), [.seq (sub B43 [1, 4, 1, 1, 1, 1, 1, 1, 1, 1, 1, 1]), .jump (Jump r w Tryz.f43.ntmps labRd frRd (locRd a n c at0) (GRd w r base a n c bs R) p)], [(0, .lp 0 0), (4, .io IntKind.u64 (IntKind.u64.wrap (↑(BitVec.ofInt IntKind.u64.bits x ||| BitVec.ofInt IntKind.u64.bits (IntKind.u64.wrap (rdB b * 2 ^ min sh.toNat IntKind.u64.bits))).toNat : Int))), (5, .io .i64 (IntKind.i64.wrap (at1 + 1))), (6, .io .i64 sh), (7, .io IntKind.u8 (↑b : Int)), (44, .bo (decide ((↑b : Int) > 127)))], [([.sl (some a) n c, .io .i64 at0], 103)]⟩ (by kernel_rfl) (by kernel_rfl) ?_
          rcases Bool.eq_false_or_eq_true (decide ((↑b : Int) > 127)) with b0 | b0
          · refine At.res 44 (decide ((↑b : Int) > 127)) true (by kernel_rfl) b0 ?_
            refine At.toJ (FRow.stable) FRow.fewer 0 100 [0, 4, 5, 6] 1 ⟨.exit (.goto 0), [.jump (Jump r w Tryz.f43.ntmps labRd frRd (locRd a n c at0) (GRd w r base a n c bs R) p)], [(0, .lp 0 0), (4, .io IntKind.u64 (IntKind.u64.wrap (↑(BitVec.ofInt IntKind.u64.bits x ||| BitVec.ofInt IntKind.u64.bits (IntKind.u64.wrap (rdB b * 2 ^ min sh.toNat IntKind.u64.bits))).toNat : Int))), (5, .io .i64 (IntKind.i64.wrap (at1 + 1))), (6, .io .i64 (IntKind.i64.wrap (sh + 7)))], [([.sl (some a) n c, .io .i64 at0], 103)]⟩ (by kernel_rfl) (by kernel_rfl) ?_
            have hw : IntKind.i64.wrap (at1 + 1) = at1 + 1 := wrap63 (by omega) (by omega)
            have hst : rd (bs.drop (at1.toNat + 1)) (at1 + 1) (rdX x b sh) (sh + 7) = R := by rw [← h6, drop_at hbg]; simp only [rd, *, Bool.not_true, Bool.not_false, Bool.true_and, Bool.false_and, Bool.and_true, Bool.and_false, cond_true, cond_false]
            have h63 : sh ≤ 56 := by
              have hb1 : (127 : Int) < b := by simpa using b0
              by_cases h63 : sh = 63
              · have : (sh == 63) = true := by simp [h63]
                first | (simp_all; done) | (simp_all; omega)
              · omega
            have hw2 : IntKind.i64.wrap (sh + 7) = sh + 7 := wrap63 (by omega) (by omega)
            refine At.jump (σ := RdSt) ⟨false, rdX x b sh, IntKind.i64.wrap (at1 + 1), IntKind.i64.wrap (sh + 7)⟩ rfl rfl rfl (by unfold subFr; kernel_rfl) rfl ?_ ?_
            · intro ρ a1 w1 hi hf
              have ht : (at1 + 1).toNat = at1.toNat + 1 := by omega
              exact ⟨hf, fun h => (by cases h), fun _ => ⟨by simp only [hw]; omega, by simp only [hw]; omega, by simp only [hw2]; omega, by simp only [hw2]; omega, by simp only [hw2]; omega, by simp only [hw, hw2, ht]; exact hst⟩⟩
            · exact hp _ (by simp only [muRd, hw]; omega)
          · refine At.res 44 (decide ((↑b : Int) > 127)) false (by kernel_rfl) b0 ?_
            refine At.toJ (FRow.stable) FRow.fewer 0 100 [0, 4, 5, 6, 49] 1 ⟨pops B43 [1, 4, 1, 1, 1, 1, 1, 1, 1, 1, 1, 1, 0, 0] 3, [.seq (sub B43 [1, 4, 1, 1, 1, 1, 1, 1, 1, 1, 1, 1, 0, 1]), .seq (sub B43 [1, 4, 1, 1, 1, 1, 1, 1, 1, 1, 1, 1, 1]), .jump (Jump r w Tryz.f43.ntmps labRd frRd (locRd a n c at0) (GRd w r base a n c bs R) p)], [(0, .lp 0 0), (4, .io IntKind.u64 (IntKind.u64.wrap (↑(BitVec.ofInt IntKind.u64.bits x ||| BitVec.ofInt IntKind.u64.bits (IntKind.u64.wrap (rdB b * 2 ^ min sh.toNat IntKind.u64.bits))).toNat : Int))), (5, .io .i64 (IntKind.i64.wrap (at1 + 1))), (6, .io .i64 sh), (49, .bo ((↑b : Int) == 0))], [([.sl (some a) n c, .io .i64 at0], 103)]⟩ (by kernel_rfl) (by kernel_rfl) ?_
            rcases Bool.eq_false_or_eq_true ((↑b : Int) == 0) with b1 | b1
            · refine At.res 49 ((↑b : Int) == 0) true (by kernel_rfl) b1 ?_
              refine At.toJ (FRow.stable) FRow.fewer 0 100 [0, 4, 5, 6, 52] 1 ⟨.code (sub B43 [1, 4, 1, 1, 1, 1, 1, 1, 1, 1, 1, 1, 0, 1]), [.seq (sub B43 [1, 4, 1, 1, 1, 1, 1, 1, 1, 1, 1, 1, 1]), .jump (Jump r w Tryz.f43.ntmps labRd frRd (locRd a n c at0) (GRd w r base a n c bs R) p)], [(0, .lp 0 0), (4, .io IntKind.u64 (IntKind.u64.wrap (↑(BitVec.ofInt IntKind.u64.bits x ||| BitVec.ofInt IntKind.u64.bits (IntKind.u64.wrap (rdB b * 2 ^ min sh.toNat IntKind.u64.bits))).toNat : Int))), (5, .io .i64 (IntKind.i64.wrap (at1 + 1))), (6, .io .i64 sh), (52, .bo (decide (sh > 0)))], [([.sl (some a) n c, .io .i64 at0], 103)]⟩ (by kernel_rfl) (by kernel_rfl) ?_
              rcases Bool.eq_false_or_eq_true (decide (sh > 0)) with b2 | b2
              · refine At.res 52 (decide (sh > 0)) true (by kernel_rfl) b2 ?_
                refine At.toJ (FRow.stable) FRow.fewer 0 100 [0, 4, 5, 6] 1 ⟨.exit (.goto 1), [.jump (Jump r w Tryz.f43.ntmps labRd frRd (locRd a n c at0) (GRd w r base a n c bs R) p)], [(0, .lp 0 0), (4, .io IntKind.u64 (IntKind.u64.wrap (↑(BitVec.ofInt IntKind.u64.bits x ||| BitVec.ofInt IntKind.u64.bits (IntKind.u64.wrap (rdB b * 2 ^ min sh.toNat IntKind.u64.bits))).toNat : Int))), (5, .io .i64 (IntKind.i64.wrap (at1 + 1))), (6, .io .i64 sh)], [([.sl (some a) n c, .io .i64 at0], 103)]⟩ (by kernel_rfl) (by kernel_rfl) ?_
                have hst : (111, 0, at1) = R := by rw [← h6, drop_at hbg]; simp only [rd, rdX, rdS, *, Bool.not_true, Bool.not_false, Bool.true_and, Bool.false_and, Bool.and_true, Bool.and_false, cond_true, cond_false]
                refine At.jump (σ := RdSt) ⟨true, x, at1, sh⟩ rfl rfl rfl (by unfold subFr; kernel_rfl) rfl ?_ ?_
                · intro ρ a1 w1 hi hf
                  exact ⟨hf, fun _ => ⟨_, hst.symm⟩, fun h => by cases h⟩
                · exact hp _ (by simp only [muRd]; omega)
              · refine At.res 52 (decide (sh > 0)) false (by kernel_rfl) b2 ?_
                refine At.toJ (FRow.stable) FRow.fewer 0 100 [2, 3] 1 ⟨.exit .ret, [], [(2, .io IntKind.u64 (IntKind.u64.wrap (↑(BitVec.ofInt IntKind.u64.bits x ||| BitVec.ofInt IntKind.u64.bits (IntKind.u64.wrap (rdB b * 2 ^ min sh.toNat IntKind.u64.bits))).toNat : Int))), (3, .v (.int .i64 0))], [([.sl (some a) n c, .io .i64 (IntKind.i64.wrap (at1 + 1))], 103)]⟩ (by kernel_rfl) (by kernel_rfl) ?_
                refine At.ret (by kernel_rfl) (.tup [.io IntKind.u64 (IntKind.u64.wrap (↑(BitVec.ofInt IntKind.u64.bits x ||| BitVec.ofInt IntKind.u64.bits (IntKind.u64.wrap (rdB b * 2 ^ min sh.toNat IntKind.u64.bits))).toNat : Int)), .v (.int .i64 0)]) (by kernel_rfl) ?_
                have hw : IntKind.i64.wrap (at1 + 1) = at1 + 1 := wrap63 (by omega) (by omega)
                have hst : (0, rdX x b sh, at1 + 1) = R := by rw [← h6, drop_at hbg]; simp only [rd, *, Bool.not_true, Bool.not_false, Bool.true_and, Bool.false_and, Bool.and_true, Bool.and_false, cond_true, cond_false]
                intro ρ w9 hm hf
                exact rd_end hst.symm hw rfl hm hf
            · refine At.res 49 ((↑b : Int) == 0) false (by kernel_rfl) b1 ?_
              refine At.toJ (FRow.stable) FRow.fewer 0 100 [2, 3] 1 ⟨.exit .ret, [], [(2, .io IntKind.u64 (IntKind.u64.wrap (↑(BitVec.ofInt IntKind.u64.bits x ||| BitVec.ofInt IntKind.u64.bits (IntKind.u64.wrap (rdB b * 2 ^ min sh.toNat IntKind.u64.bits))).toNat : Int))), (3, .v (.int .i64 0))], [([.sl (some a) n c, .io .i64 (IntKind.i64.wrap (at1 + 1))], 103)]⟩ (by kernel_rfl) (by kernel_rfl) ?_
              refine At.ret (by kernel_rfl) (.tup [.io IntKind.u64 (IntKind.u64.wrap (↑(BitVec.ofInt IntKind.u64.bits x ||| BitVec.ofInt IntKind.u64.bits (IntKind.u64.wrap (rdB b * 2 ^ min sh.toNat IntKind.u64.bits))).toNat : Int)), .v (.int .i64 0)]) (by kernel_rfl) ?_
              have hw : IntKind.i64.wrap (at1 + 1) = at1 + 1 := wrap63 (by omega) (by omega)
              have hst : (0, rdX x b sh, at1 + 1) = R := by rw [← h6, drop_at hbg]; simp only [rd, *, Bool.not_true, Bool.not_false, Bool.true_and, Bool.false_and, Bool.and_true, Bool.and_false, cond_true, cond_false]
              intro ρ w9 hm hf
              exact rd_end hst.symm hw rfl hm hf
      · refine At.res 32 (sh == 63) false (by kernel_rfl) b0 ?_
        refine At.toJ (FRow.stable) FRow.fewer 0 100 [0, 5, 6, 7, 36, 39, 40] 1 ⟨pops B43 [1, 4, 1, 1, 1, 1, 1, 1, 1, 1, 0] 5, [.seq (sub B43 [1, 4, 1, 1, 1, 1, 1, 1, 1, 1, 1]), .jump (Jump r w Tryz.f43.ntmps labRd frRd (locRd a n c at0) (GRd w r base a n c bs R) p)], [(0, .lp 0 0), (5, .io .i64 (IntKind.i64.wrap (at1 + 1))), (6, .io .i64 sh), (7, .io IntKind.u8 (↑b : Int)), (36, .io IntKind.u64 x), (39, .io IntKind.u64 (IntKind.u64.wrap (IntKind.u8.wrap (↑(BitVec.ofInt IntKind.u8.bits (↑b : Int) &&& BitVec.ofInt IntKind.u8.bits 127).toNat : Int)))), (40, .io .i64 sh)], [([.sl (some a) n c, .io .i64 at0], 103)]⟩ (by kernel_rfl) (by kernel_rfl) ?_
        refine At.shl .u64 (rdB b) (sh) (by kernel_rfl) (by omega) FRow.stable ?_
        refine At.toJ (FRow.stable) FRow.fewer 0 100 [0, 4, 5, 6, 7, 44] 1 ⟨.code (sub B43 [1, 4, 1, 1, 1, 1, 1, 1, 1, 1, 1, 0, 1]), [.seq (sub B43 [1, 4, 1, 1, 1, 1, 1, 1, 1, 1, 1, 1]), .jump (Jump r w Tryz.f43.ntmps labRd frRd (locRd a n c at0) (GRd w r base a n c bs R) p)], [(0, .lp 0 0), (4, .io IntKind.u64 (IntKind.u64.wrap (↑(BitVec.ofInt IntKind.u64.bits x ||| BitVec.ofInt IntKind.u64.bits (IntKind.u64.wrap (rdB b * 2 ^ min sh.toNat IntKind.u64.bits))).toNat : Int))), (5, .io .i64 (IntKind.i64.wrap (at1 + 1))), (6, .io .i64 sh), (7, .io IntKind.u8 (↑b : Int)), (44, .bo (decide ((↑b : Int) > 127)))], [([.sl (some a) n c, .io .i64 at0], 103)]⟩ (by kernel_rfl) (by kernel_rfl) ?_
        rcases Bool.eq_false_or_eq_true (decide ((↑b : Int) > 127)) with b0 | b0
        · refine At.res 44 (decide ((↑b : Int) > 127)) true (by kernel_rfl) b0 ?_
          refine At.toJ (FRow.stable) FRow.fewer 0 100 [0, 4, 5, 6] 1 ⟨.exit (.goto 0), [.jump (Jump r w Tryz.f43.ntmps labRd frRd (locRd a n c at0) (GRd w r base a n c bs R) p)], [(0, .lp 0 0), (4, .io IntKind.u64 (IntKind.u64.wrap (↑(BitVec.ofInt IntKind.u64.bits x ||| BitVec.ofInt IntKind.u64.bits (IntKind.u64.wrap (rdB b * 2 ^ min sh.toNat IntKind.u64.bits))).toNat : Int))), (5, .io .i64 (IntKind.i64.wrap (at1 + 1))), (6, .io .i64 (IntKind.i64.wrap (sh + 7)))], [([.sl (some a) n c, .io .i64 at0], 103)]⟩ (by kernel_rfl) (by kernel_rfl) ?_
          have hw : IntKind.i64.wrap (at1 + 1) = at1 + 1 := wrap63 (by omega) (by omega)
          have hst : rd (bs.drop (at1.toNat + 1)) (at1 + 1) (rdX x b sh) (sh + 7) = R := by rw [← h6, drop_at hbg]; simp only [rd, *, Bool.not_true, Bool.not_false, Bool.true_and, Bool.false_and, Bool.and_true, Bool.and_false, cond_true, cond_false]
          have h63 : sh ≤ 56 := by
            have hb1 : (127 : Int) < b := by simpa using b0
            by_cases h63 : sh = 63
            · have : (sh == 63) = true := by simp [h63]
              first | (simp_all; done) | (simp_all; omega)
            · omega
          have hw2 : IntKind.i64.wrap (sh + 7) = sh + 7 := wrap63 (by omega) (by omega)
          refine At.jump (σ := RdSt) ⟨false, rdX x b sh, IntKind.i64.wrap (at1 + 1), IntKind.i64.wrap (sh + 7)⟩ rfl rfl rfl (by unfold subFr; kernel_rfl) rfl ?_ ?_
          · intro ρ a1 w1 hi hf
            have ht : (at1 + 1).toNat = at1.toNat + 1 := by omega
            exact ⟨hf, fun h => (by cases h), fun _ => ⟨by simp only [hw]; omega, by simp only [hw]; omega, by simp only [hw2]; omega, by simp only [hw2]; omega, by simp only [hw2]; omega, by simp only [hw, hw2, ht]; exact hst⟩⟩
          · exact hp _ (by simp only [muRd, hw]; omega)
        · refine At.res 44 (decide ((↑b : Int) > 127)) false (by kernel_rfl) b0 ?_
          refine At.toJ (FRow.stable) FRow.fewer 0 100 [0, 4, 5, 6, 49] 1 ⟨pops B43 [1, 4, 1, 1, 1, 1, 1, 1, 1, 1, 1, 1, 0, 0] 3, [.seq (sub B43 [1, 4, 1, 1, 1, 1, 1, 1, 1, 1, 1, 1, 0, 1]), .seq (sub B43 [1, 4, 1, 1, 1, 1, 1, 1, 1, 1, 1, 1, 1]), .jump (Jump r w Tryz.f43.ntmps labRd frRd (locRd a n c at0) (GRd w r base a n c bs R) p)], [(0, .lp 0 0), (4, .io IntKind.u64 (IntKind.u64.wrap (↑(BitVec.ofInt IntKind.u64.bits x ||| BitVec.ofInt IntKind.u64.bits (IntKind.u64.wrap (rdB b * 2 ^ min sh.toNat IntKind.u64.bits))).toNat : Int))), (5, .io .i64 (IntKind.i64.wrap (at1 + 1))), (6, .io .i64 sh), (49, .bo ((↑b : Int) == 0))], [([.sl (some a) n c, .io .i64 at0], 103)]⟩ (by kernel_rfl) (by kernel_rfl) ?_
          rcases Bool.eq_false_or_eq_true ((↑b : Int) == 0) with b1 | b1
          · refine At.res 49 ((↑b : Int) == 0) true (by kernel_rfl) b1 ?_
            refine At.toJ (FRow.stable) FRow.fewer 0 100 [0, 4, 5, 6, 52] 1 ⟨.code (sub B43 [1, 4, 1, 1, 1, 1, 1, 1, 1, 1, 1, 1, 0, 1]), [.seq (sub B43 [1, 4, 1, 1, 1, 1, 1, 1, 1, 1, 1, 1, 1]), .jump (Jump r w Tryz.f43.ntmps labRd frRd (locRd a n c at0) (GRd w r base a n c bs R) p)], [(0, .lp 0 0), (4, .io IntKind.u64 (IntKind.u64.wrap (↑(BitVec.ofInt IntKind.u64.bits x ||| BitVec.ofInt IntKind.u64.bits (IntKind.u64.wrap (rdB b * 2 ^ min sh.toNat IntKind.u64.bits))).toNat : Int))), (5, .io .i64 (IntKind.i64.wrap (at1 + 1))), (6, .io .i64 sh), (52, .bo (decide (sh > 0)))], [([.sl (some a) n c, .io .i64 at0], 103)]⟩ (by kernel_rfl) (by kernel_rfl) ?_
            rcases Bool.eq_false_or_eq_true (decide (sh > 0)) with b2 | b2
            · refine At.res 52 (decide (sh > 0)) true (by kernel_rfl) b2 ?_
              refine At.toJ (FRow.stable) FRow.fewer 0 100 [0, 4, 5, 6] 1 ⟨.exit (.goto 1), [.jump (Jump r w Tryz.f43.ntmps labRd frRd (locRd a n c at0) (GRd w r base a n c bs R) p)], [(0, .lp 0 0), (4, .io IntKind.u64 (IntKind.u64.wrap (↑(BitVec.ofInt IntKind.u64.bits x ||| BitVec.ofInt IntKind.u64.bits (IntKind.u64.wrap (rdB b * 2 ^ min sh.toNat IntKind.u64.bits))).toNat : Int))), (5, .io .i64 (IntKind.i64.wrap (at1 + 1))), (6, .io .i64 sh)], [([.sl (some a) n c, .io .i64 at0], 103)]⟩ (by kernel_rfl) (by kernel_rfl) ?_
              have hst : (111, 0, at1) = R := by rw [← h6, drop_at hbg]; simp only [rd, rdX, rdS, *, Bool.not_true, Bool.not_false, Bool.true_and, Bool.false_and, Bool.and_true, Bool.and_false, cond_true, cond_false]
              refine At.jump (σ := RdSt) ⟨true, x, at1, sh⟩ rfl rfl rfl (by unfold subFr; kernel_rfl) rfl ?_ ?_
              · intro ρ a1 w1 hi hf
                exact ⟨hf, fun _ => ⟨_, hst.symm⟩, fun h => by cases h⟩
              · exact hp _ (by simp only [muRd]; omega)
            · refine At.res 52 (decide (sh > 0)) false (by kernel_rfl) b2 ?_
              refine At.toJ (FRow.stable) FRow.fewer 0 100 [2, 3] 1 ⟨.exit .ret, [], [(2, .io IntKind.u64 (IntKind.u64.wrap (↑(BitVec.ofInt IntKind.u64.bits x ||| BitVec.ofInt IntKind.u64.bits (IntKind.u64.wrap (rdB b * 2 ^ min sh.toNat IntKind.u64.bits))).toNat : Int))), (3, .v (.int .i64 0))], [([.sl (some a) n c, .io .i64 (IntKind.i64.wrap (at1 + 1))], 103)]⟩ (by kernel_rfl) (by kernel_rfl) ?_
              refine At.ret (by kernel_rfl) (.tup [.io IntKind.u64 (IntKind.u64.wrap (↑(BitVec.ofInt IntKind.u64.bits x ||| BitVec.ofInt IntKind.u64.bits (IntKind.u64.wrap (rdB b * 2 ^ min sh.toNat IntKind.u64.bits))).toNat : Int)), .v (.int .i64 0)]) (by kernel_rfl) ?_
              have hw : IntKind.i64.wrap (at1 + 1) = at1 + 1 := wrap63 (by omega) (by omega)
              have hst : (0, rdX x b sh, at1 + 1) = R := by rw [← h6, drop_at hbg]; simp only [rd, *, Bool.not_true, Bool.not_false, Bool.true_and, Bool.false_and, Bool.and_true, Bool.and_false, cond_true, cond_false]
              intro ρ w9 hm hf
              exact rd_end hst.symm hw rfl hm hf
          · refine At.res 49 ((↑b : Int) == 0) false (by kernel_rfl) b1 ?_
            refine At.toJ (FRow.stable) FRow.fewer 0 100 [2, 3] 1 ⟨.exit .ret, [], [(2, .io IntKind.u64 (IntKind.u64.wrap (↑(BitVec.ofInt IntKind.u64.bits x ||| BitVec.ofInt IntKind.u64.bits (IntKind.u64.wrap (rdB b * 2 ^ min sh.toNat IntKind.u64.bits))).toNat : Int))), (3, .v (.int .i64 0))], [([.sl (some a) n c, .io .i64 (IntKind.i64.wrap (at1 + 1))], 103)]⟩ (by kernel_rfl) (by kernel_rfl) ?_
            refine At.ret (by kernel_rfl) (.tup [.io IntKind.u64 (IntKind.u64.wrap (↑(BitVec.ofInt IntKind.u64.bits x ||| BitVec.ofInt IntKind.u64.bits (IntKind.u64.wrap (rdB b * 2 ^ min sh.toNat IntKind.u64.bits))).toNat : Int)), .v (.int .i64 0)]) (by kernel_rfl) ?_
            have hw : IntKind.i64.wrap (at1 + 1) = at1 + 1 := wrap63 (by omega) (by omega)
            have hst : (0, rdX x b sh, at1 + 1) = R := by rw [← h6, drop_at hbg]; simp only [rd, *, Bool.not_true, Bool.not_false, Bool.true_and, Bool.false_and, Bool.and_true, Bool.and_false, cond_true, cond_false]
            intro ρ w9 hm hf
            exact rd_end hst.symm hw rfl hm hf
  refine At.scope (σ := RdSt) (sub B43 [1, 4]) labRd restRd frRd (locRd a n c at0) (GRd w r base a n c bs R) (muRd n) (by kernel_rfl) (fun s => by rcases s with ⟨_ | _, _, _, _⟩ <;> kernel_rfl) ?_ ?_
  · refine At.toJ FRow.stable FRow.fewer 0 28 [0, 4, 5, 6] 1 ⟨.code (sub B43 [1, 4, 1, 1, 1, 1]), [.jump (Jump r w Tryz.f43.ntmps labRd frRd (locRd a n c at0) (GRd w r base a n c bs R) (fun _ => True))], [(0, .lp 0 0), (4, .v (.int .u64 0)), (5, .io .i64 at0), (6, .v (.int .i64 0))], [([.sl (some a) n c, .io .i64 at0], 103)]⟩ (by kernel_rfl) (by kernel_rfl) ?_
    refine At.canon ⟨.code (sub B43 [1, 4, 1, 1, 1, 1]), [.jump (Jump r w Tryz.f43.ntmps labRd frRd (locRd a n c at0) (GRd w r base a n c bs R) (fun _ => True))], [(0, .lp 0 0), (4, .io .u64 0), (5, .io .i64 at0), (6, .io .i64 0)], [([.sl (some a) n c, .io .i64 at0], 103)]⟩ rfl ?_
    exact hround _ 0 at0 0 (fun _ _ => trivial) h0.1 h0.2 (by omega) (by omega) (by omega) hR
  · rintro ⟨_ | _, x, at1, sh⟩
    · refine At.pure fun hpp => ?_
      obtain ⟨h1, h2, h3, h4, h5, h6⟩ := hpp.2 rfl
      simp only at h1 h2 h3 h4 h5 h6
      refine At.toJ FRow.stable FRow.fewer 0 3 [0, 4, 5, 6] 1 ⟨.code (sub B43 [1, 4, 1, 1, 1, 1]), [.jump (Jump r w Tryz.f43.ntmps labRd frRd (locRd a n c at0) (GRd w r base a n c bs R) (fun x' => muRd n x' < muRd n ⟨false, x, at1, sh⟩))], [(0, .lp 0 0), (4, .io .u64 x), (5, .io .i64 at1), (6, .io .i64 sh)], [([.sl (some a) n c, .io .i64 at0], 103)]⟩ (by kernel_rfl) (by kernel_rfl) ?_
      exact hround _ x at1 sh (fun _ h => h) h1 h2 h3 h4 h5 h6
    · refine At.pure fun hpp => ?_
      obtain ⟨q, hq⟩ := hpp.1 rfl
      show At _ _ _ _ _ _ ⟨.code (restRd ⟨true, x, at1, sh⟩), [.jump (Jump r w Tryz.f43.ntmps labRd frRd (locRd a n c at0) (GRd w r base a n c bs R) (lessSt n ⟨true, x, at1, sh⟩))], [], [([.sl (some a) n c, .io .i64 at0], 103)]⟩
      refine At.toJ (FRow.stable) FRow.fewer 0 100 [2, 3] 1 ⟨.exit .ret, [], [(2, .v (.int IntKind.u64 0)), (3, .v (.int .i64 111))], [([.sl (some a) n c, .io .i64 at0], 103)]⟩ (by kernel_rfl) (by kernel_rfl) ?_
      refine At.ret (by kernel_rfl) (.tup [.v (.int IntKind.u64 0), .v (.int .i64 111)]) (by kernel_rfl) ?_
      intro ρ w9 hm hf
      exact rd_end hq rfl rfl hm hf

end Go.Proofs.YtiehnigbcfkcdaaGreatDoor
