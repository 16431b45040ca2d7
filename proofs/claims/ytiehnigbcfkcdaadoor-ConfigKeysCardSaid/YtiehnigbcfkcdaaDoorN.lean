import Derived.Test.YtiehnigbcfkcdaaDoorK
set_option linter.unusedSimpArgs false
set_option linter.unusedVariables false
namespace Go.Proofs.YtiehnigbcfkcdaaDoor
open Go.RowKit Go.Sx

theorem add_add (a : Addr) (n m : Nat) : (a.add n).add m = a.add (n + m) := by
  unfold Addr.add
  by_cases hn : n = 0
  · subst hn; simp
  · by_cases hm : m = 0
    · subst hm; simp
    · simp [hn, hm]; omega
theorem row_cv {base n c : Nat} {A : Option Addr} {bs : List Nat} {ρ : List Nat} {w : World} (h : Row base 5 1 A n c (bv bs) ρ w) : bs.length = n ∧ (A = none → bs = []) ∧ ∀ a, A = some a → ∀ (j b : Nat), bs[j]? = some b → w.cell? (a.add j) = some (.int .u8 (b : Int)) := by
  have hl : bs.length = n := by have := h.len; simp only [bv, List.length_map] at this; omega
  refine ⟨hl, fun ha => ?_, fun a ha j b hj => ?_⟩
  · subst ha
    rcases h.1.2 with ⟨h2, h3⟩ | ⟨g, cap, cur, hv, _⟩
    · injection h2 with _ h4 _
      exact List.eq_nil_of_length_eq_zero (by omega)
    · cases hv
  · subst ha
    have := (List.getElem?_eq_some_iff.1 hj).1
    simpa using row_cell h hj (by omega)
theorem wrapu {x : Int} (h0 : 0 ≤ x) (h1 : x < 18446744073709551616) : IntKind.u64.wrap x = x := by
  simp only [IntKind.wrap, IntKind.bits, IntKind.signed]
  simp
  omega
theorem pow128 : ∀ k : Nat, k < 8 → (128 : Int) ^ k ≤ 562949953421312
  | 0, _ | 1, _ | 2, _ | 3, _ | 4, _ | 5, _ | 6, _ | 7, _ => by decide
  | k + 8, h => by omega
theorem r_mul {v : Nat} {wt : Int} (hw : 0 ≤ wt) : 0 ≤ ((v % 128 : Nat) : Int) * wt ∧ ((v % 128 : Nat) : Int) * wt ≤ 127 * wt :=
  ⟨Int.mul_nonneg (by omega) hw, Int.mul_le_mul_of_nonneg_right (by omega) hw⟩
theorem r_step {v : Nat} {x wt : Int} (hx0 : 0 ≤ x) (hx : x < wt) (hwt : wt ≤ 562949953421312) : IntKind.u64.wrap (x + IntKind.u64.wrap (IntKind.u64.wrap ((v : Int).tmod 128) * wt)) = x + ((v % 128 : Nat) : Int) * wt := by
  have h1 : (v : Int).tmod 128 = ((v % 128 : Nat) : Int) := by
    rw [Int.tmod_eq_emod_of_nonneg (by omega)]
    omega
  rw [h1, wrapu (x := ((v % 128 : Nat) : Int)) (by omega) (by omega)]
  obtain ⟨h2, h3⟩ := r_mul (v := v) (wt := wt) (by omega)
  rw [wrapu (x := ((v % 128 : Nat) : Int) * wt) h2 (by omega), wrapu (by omega) (by omega)]


def frRn (s : NumSt) : Fr := [(0, .io .u64 s.x), (3, .sl s.A s.n s.c)]
def GRn (w0 : World) (base : Nat) (l : List Value) (k : Nat) (s : NumSt) (ρ : List Nat) (w : World) : Prop :=
  RowF w0 (fun _ => False) [] base 5 1 s.A s.n s.c s.xs ρ w ∧ (0 ≤ s.x ∧ s.x < 18446744073709551616 ∧ s.xs ++ bv (leb s.x.toNat) = l ∧ s.n + (leb s.x.toNat).length = k)
theorem r_byte {y : Int} (h : 0 ≤ y) : IntKind.u8.wrap (IntKind.u8.wrap (y.tmod 128) + 128) = ((y.toNat % 128 + 128 : Nat) : Int) := by
  rw [Int.tmod_eq_emod_of_nonneg h]
  simp only [IntKind.wrap, IntKind.bits, IntKind.signed]
  simp
  omega
theorem r_quo {y : Int} (h : 0 ≤ y) (h2 : y < 18446744073709551616) : IntKind.u64.wrap (y.tdiv 128) = ((y.toNat / 128 : Nat) : Int) := by
  rw [Int.tdiv_eq_ediv_of_nonneg h]
  simp only [IntKind.wrap, IntKind.bits, IntKind.signed]
  simp
  omega

noncomputable def B62 : Code := (Tryd.f62.body).getD .skip
set_option maxHeartbeats 4000000 in
set_option maxRecDepth 100000 in
theorem rnumber_any (x : Int) (hx : 0 ≤ x) (hx2 : x < 18446744073709551616) (w : World) (hn : (leb x.toNat).length ≤ 140737488355328) :
    Calls Tryd.prog 62 #[.int .u64 x] w fun e w' => ∃ A' n' c', e = .returned (.slice A' n' c') ∧ RowF w (fun _ => False) [] w.heap.size 5 1 A' n' c' (bv (leb x.toNat)) [] w' := by
  refine enterF (N := w.heap.size) (F := RowF w (fun _ => False) [] w.heap.size 5 1 none 0 0 []) (fn := Tryd.f62) (c := B62) [.io .u64 x] Tryd.func62 rfl rfl (Nat.le_refl _) ⟨⟨⟨World.ownsRow_nil _ _ _ _, by simp [Value.ownBlock]⟩, Nat.le_refl _⟩, FrameR.start _ [] (by simp), by simp [Value.ownBlock]⟩ ?_
  refine At.toJ (RowF.stable) RowF.fewer 0 100 [0, 3] 0 ⟨.code (sub B62 [1, 1, 0, 4]), [.block 0, .seq (sub B62 [1, 1, 1])], [(0, .io IntKind.u64 x), (3, .v (.slice none 0 0))], []⟩ (by kernel_rfl) (by kernel_rfl) ?_
  refine At.slFr _ rfl ?_
  refine At.loop (σ := NumSt) (sub B62 [1,1,0,4,4]) frRn (fun _ => []) (GRn w w.heap.size ([] ++ bv (leb x.toNat)) (0 + (leb x.toNat).length)) (fun s => s.x.toNat) ⟨none, 0, 0, [], x⟩ (by kernel_rfl) (by unfold subFr; kernel_rfl) (by kernel_rfl) (fun _ _ _ _ h => ⟨h, hx, hx2, rfl, rfl⟩) ?_
  rw [List.nil_append, Nat.zero_add]
  generalize hl : bv (leb x.toNat) = l
  generalize hk : (leb x.toNat).length = k at hn ⊢
  clear hx hx2 hl hk
  rintro ⟨A, n, c, ys, y⟩
  refine At.pure fun ⟨hy, hy2, hl, hk⟩ => ?_
  simp only at hy hy2 hl hk ⊢
  have hpos := leb_pos y.toNat
  refine At.toJ (RowF.stable) RowF.fewer 0 100 [0, 3, 5] 0 ⟨.code (sub B62 [1, 1, 0, 4, 4, 0, 1]), [.seq (sub B62 [1, 1, 0, 4, 4, 1]), .next (Sx.Next w.heap.size w Tryd.f62.ntmps frRn (fun x => []) (GRn w w.heap.size l k) (fun s => s.x.toNat) (NumSt.mk A n c ys y)), .block 0, .seq (sub B62 [1, 1, 1])], [(0, .io IntKind.u64 y), (3, .sl A n c), (5, .bo (decide ((NumSt.mk A n c ys y).x > 127)))], []⟩ (by kernel_rfl) (by kernel_rfl) ?_
  rcases Bool.eq_false_or_eq_true (decide ((NumSt.mk A n c ys y).x > 127)) with b0 | b0
  · refine At.res 5 (decide ((NumSt.mk A n c ys y).x > 127)) true (by kernel_rfl) b0 ?_
    refine At.toJ (RowF.stable) RowF.fewer 0 100 [0, 6, 11] 1 ⟨pops B62 [1, 1, 0, 4, 4, 1, 4, 0] 6, [.seq (sub B62 [1, 1, 0, 4, 4, 1, 4, 1]), .block 1, .next (Sx.Next w.heap.size w Tryd.f62.ntmps frRn (fun x => []) (GRn w w.heap.size l k) (fun s => s.x.toNat) (NumSt.mk A n c ys y)), .block 0, .seq (sub B62 [1, 1, 1])], [(0, .io IntKind.u64 y), (6, .sl A n c), (11, .ls 0 0 1 1)], [([.io IntKind.u8 (IntKind.u8.wrap (IntKind.u8.wrap (y.tmod 128) + 128))], 5)]⟩ (by kernel_rfl) (by kernel_rfl) ?_
    refine At.app (34) (5) (1) (1) (A) (n) (c) (1) ([.io IntKind.u8 (IntKind.u8.wrap (IntKind.u8.wrap (y.tmod 128) + 128))]) _ _ _ _ ([.int IntKind.u8 (IntKind.u8.wrap (IntKind.u8.wrap (y.tmod 128) + 128))]) (by kernel_rfl) (fun ρ => by kernel_rfl) (by first | omega | (simp only [Go.maxLen]; omega)) (by first | omega | (simp only [Go.maxLen]; omega)) (by first | omega | (simp only [Go.maxLen]; omega)) fun A1 c1 => ?_
    refine At.toJ (RowF.stable) RowF.fewer 0 100 [0, 3] 0 ⟨.exit .normal, [.next (Sx.Next w.heap.size w Tryd.f62.ntmps frRn (fun x => []) (GRn w w.heap.size l k) (fun s => s.x.toNat) (NumSt.mk A n c ys y)), .block 0, .seq (sub B62 [1, 1, 1])], [(0, .io IntKind.u64 (IntKind.u64.wrap (y.tdiv 128))), (3, .sl A1 (n + 1) c1)], []⟩ (by kernel_rfl) (by kernel_rfl) ?_
    have hy127 : 127 < y := by simpa using b0
    have hbig : leb y.toNat = _ := leb_big (x := y.toNat) (by omega)
    rw [r_byte hy, r_quo hy hy2]
    refine At.next (σ := NumSt) (NumSt.mk A1 (n + 1) c1 (ys ++ [.int .u8 ((y.toNat % 128 + 128 : Nat) : Int)]) ((y.toNat / 128 : Nat) : Int)) rfl rfl (by unfold subFr; kernel_rfl) (by kernel_rfl) ?_ ?_
    · intro ρ a w hi hf
      refine ⟨hf, ?_, ?_, ?_, ?_⟩
      · simp only; omega
      · simp only; omega
      · simp only [Int.toNat_natCast, List.append_assoc, List.cons_append, List.nil_append]
        rw [← hl, hbig, bv_cons]
      · simp only [Int.toNat_natCast]
        rw [← hk, hbig, List.length_cons]; omega
    · simp only [Int.toNat_natCast]; omega
  · refine At.res 5 (decide ((NumSt.mk A n c ys y).x > 127)) false (by kernel_rfl) b0 ?_
    refine At.toJ (RowF.stable) RowF.fewer 0 100 [15, 18] 1 ⟨pops B62 [1, 1, 1, 0] 4, [.seq (sub B62 [1, 1, 1, 1])], [(15, .sl A n c), (18, .ls 0 0 1 1)], [([.io IntKind.u8 (IntKind.u8.wrap y)], 5)]⟩ (by kernel_rfl) (by kernel_rfl) ?_
    refine At.app (34) (5) (1) (1) (A) (n) (c) (1) ([.io IntKind.u8 (IntKind.u8.wrap y)]) _ _ _ _ ([.int IntKind.u8 (IntKind.u8.wrap y)]) (by kernel_rfl) (fun ρ => by kernel_rfl) (by first | omega | (simp only [Go.maxLen]; omega)) (by first | omega | (simp only [Go.maxLen]; omega)) (by first | omega | (simp only [Go.maxLen]; omega)) fun A2 c2 => ?_
    refine At.toJ (RowF.stable) RowF.fewer 0 100 [2] 0 ⟨.exit .ret, [], [(2, .sl A2 (n + 1) c2)], []⟩ (by kernel_rfl) (by kernel_rfl) ?_
    refine At.ret (by kernel_rfl) (.sl A2 (n + 1) c2) (by kernel_rfl) ?_
    have hy127 : ¬ 127 < y := by simpa using b0
    have hsm : leb y.toNat = _ := leb_small (x := y.toNat) (by omega)
    have hlow : IntKind.u8.wrap y = (y.toNat : Int) := by rw [byte_low hy]; omega
    intro ρ w9 _ hf
    refine ⟨_, _, _, rfl, ?_⟩
    rw [hlow] at hf
    rw [← hl, hsm]
    exact RowF.fewer _ _ 0 (Nat.zero_le _) hf


/-- What the reference reads of bytes: the number, the place behind it, and whether it is written in the one form. -/
def rf : Nat → List Nat → Int → Int → Int → List Nat → Int × Int × Bool
  | 0, _, _, _, _, _ => (0, 0, false)
  | _ + 1, [], _, _, _, _ => (0, 0, false)
  | f + 1, b :: l, i, x, wt, seen => bif decide ((b : Int) < 128) then (x + ((b % 128 : Nat) : Int) * wt, i + 1, ((strOf (leb (x + ((b % 128 : Nat) : Int) * wt).toNat)).toList == (strOf (seen ++ [b])).toList)) else rf f l (i + 1) (x + ((b % 128 : Nat) : Int) * wt) (wt * 128) (seen ++ [b])
theorem rf_cons (f b : Nat) (l : List Nat) (i x wt : Int) (seen : List Nat) : rf (f + 1) (b :: l) i x wt seen = bif decide ((b : Int) < 128) then (x + ((b % 128 : Nat) : Int) * wt, i + 1, ((strOf (leb (x + ((b % 128 : Nat) : Int) * wt).toNat)).toList == (strOf (seen ++ [b])).toList)) else rf f l (i + 1) (x + ((b % 128 : Nat) : Int) * wt) (wt * 128) (seen ++ [b]) := rfl
structure RfSt where
  i : Int
  x : Int
  wt : Int
  seen : List Nat
def frRf (B : Option Addr) (n c : Nat) (at0 : Int) (s : RfSt) : Fr := [(0, .sl B n c), (1, .io .i64 at0), (7, .io .u64 s.x), (8, .io .u64 s.wt), (9, .io .i64 s.i)]
def GRf (w0 : World) (bs : List Nat) (at0 : Int) (R : Int × Int × Bool) (s : RfSt) (ρ : List Nat) (w : World) : Prop :=
  FrameR w0 (fun _ => False) [] ρ w ∧ (s.i = at0 + s.seen.length ∧ s.seen.length ≤ 8 ∧ (bs.drop at0.toNat).take s.seen.length = s.seen ∧ s.wt = 128 ^ s.seen.length ∧ 0 ≤ s.x ∧ s.x < s.wt ∧ rf (8 - s.seen.length) (bs.drop s.i.toNat) s.i s.x s.wt s.seen = R)

noncomputable def B37 : Code := (Tryd.f37.body).getD .skip
set_option maxHeartbeats 4000000 in
set_option maxRecDepth 100000 in
theorem rread_any (B : Option Addr) (n c : Nat) (bs : List Nat) (hbs : ∀ b ∈ bs, b < 256) (at0 : Int) (h0 : 0 ≤ at0 ∧ at0 ≤ n) (hn : n ≤ 140737488355320) (hc : n ≤ c) (w : World) (hb : SlB w B n bs) :
    Calls Tryd.prog 37 #[.slice B n c, .int .i64 at0] w fun e w' => e = .returned (.tuple #[.int .i64 (IntKind.i64.wrap (rf 8 (bs.drop at0.toNat) at0 0 1 []).1), .int .i64 (rf 8 (bs.drop at0.toNat) at0 0 1 []).2.1, .bool (rf 8 (bs.drop at0.toNat) at0 0 1 []).2.2]) ∧ Below w.heap.size w w' := by
  generalize hR : rf 8 (bs.drop at0.toNat) at0 0 1 [] = R
  refine enterF (N := w.heap.size) (F := FrameR w (fun _ => False) []) (fn := Tryd.f37) (c := B37) [.sl B n c, .io .i64 at0] Tryd.func37 rfl rfl (Nat.le_refl _) (FrameR.start _ [] (by simp)) ?_
  refine At.toJ (FrameR.stable) FrameR.fewer 0 100 [0, 1, 7, 8, 9] 0 ⟨.code (sub B37 [1, 1, 1, 0, 1, 4]), [.block 0, .seq (sub B37 [1, 1, 1, 1])], [(0, .sl B n c), (1, .io .i64 at0), (7, .v (.int IntKind.u64 0)), (8, .v (.int IntKind.u64 1)), (9, .io .i64 at0)], []⟩ (by kernel_rfl) (by kernel_rfl) ?_
  refine At.canon _ rfl ?_
  refine At.loop (σ := RfSt) (sub B37 [1,1,1,0,1,4,4]) (frRf B n c at0) (fun _ => []) (GRf w bs at0 R) (fun s => 8 - s.seen.length) ⟨at0, 0, 1, []⟩ (by kernel_rfl) (by unfold subFr; kernel_rfl) (by kernel_rfl) (fun _ _ _ _ h => ⟨h, by simp, by simp, by simp, by simp, by simp, by simp, by simpa using hR⟩) ?_
  rintro ⟨i, x, wt, seen⟩
  refine At.pure fun ⟨h1, h2, h3, h4, h5, h6, h7⟩ => ?_
  simp only at h1 h2 h3 h4 h5 h6 h7 ⊢
  have hl := hb.1
  refine At.toJ (FrameR.stable) FrameR.fewer 0 100 [0, 1, 7, 8, 9, 15] 0 ⟨pops B37 [1, 1, 1, 0, 1, 4, 4, 0, 0] 5, [.seq (sub B37 [1, 1, 1, 0, 1, 4, 4, 0, 1]), .seq (sub B37 [1, 1, 1, 0, 1, 4, 4, 1]), .next (Sx.Next w.heap.size w Tryd.f37.ntmps (frRf B n c at0) (fun x => []) (GRf w bs at0 R) (fun s => 8 - s.seen.length) (RfSt.mk i x wt seen)), .block 0, .seq (sub B37 [1, 1, 1, 1])], [(0, .sl B n c), (1, .io .i64 at0), (7, .io IntKind.u64 x), (8, .io IntKind.u64 wt), (9, .io .i64 i), (15, .bo (decide ((RfSt.mk i x wt seen).i < (↑n : Int))))], []⟩ (by kernel_rfl) (by kernel_rfl) ?_
  rcases Bool.eq_false_or_eq_true (decide ((RfSt.mk i x wt seen).i < (↑n : Int))) with b0 | b0
  · refine At.res 15 (decide ((RfSt.mk i x wt seen).i < (↑n : Int))) true (by kernel_rfl) b0 ?_
    refine At.toJ (FrameR.stable) FrameR.fewer 0 100 [0, 1, 7, 8, 9, 20] 0 ⟨.code (sub B37 [1, 1, 1, 0, 1, 4, 4, 0, 1]), [.seq (sub B37 [1, 1, 1, 0, 1, 4, 4, 1]), .next (Sx.Next w.heap.size w Tryd.f37.ntmps (frRf B n c at0) (fun x => []) (GRf w bs at0 R) (fun s => 8 - s.seen.length) (RfSt.mk i x wt seen)), .block 0, .seq (sub B37 [1, 1, 1, 1])], [(0, .sl B n c), (1, .io .i64 at0), (7, .io IntKind.u64 x), (8, .io IntKind.u64 wt), (9, .io .i64 i), (20, .bo (decide (i < IntKind.i64.wrap (at0 + 8))))], []⟩ (by kernel_rfl) (by kernel_rfl) ?_
    rcases Bool.eq_false_or_eq_true (decide (i < IntKind.i64.wrap (at0 + 8))) with b1 | b1
    · refine At.res 20 (decide (i < IntKind.i64.wrap (at0 + 8))) true (by kernel_rfl) b1 ?_
      refine At.toJ (FrameR.stable) FrameR.fewer 0 100 [0, 1, 8, 9, 23, 24, 25] 0 ⟨pops B37 [1, 1, 1, 0, 1, 4, 4, 1, 0, 4, 0] 3, [.seq (sub B37 [1, 1, 1, 0, 1, 4, 4, 1, 0, 4, 1]), .block 1, .seq (sub B37 [1, 1, 1, 0, 1, 4, 4, 1, 1]), .next (Sx.Next w.heap.size w Tryd.f37.ntmps (frRf B n c at0) (fun x => []) (GRf w bs at0 R) (fun s => 8 - s.seen.length) (RfSt.mk i x wt seen)), .block 0, .seq (sub B37 [1, 1, 1, 1])], [(0, .sl B n c), (1, .io .i64 at0), (8, .io IntKind.u64 wt), (9, .io .i64 i), (23, .io IntKind.u64 x), (24, .sl B n c), (25, .io .i64 i)], []⟩ (by kernel_rfl) (by kernel_rfl) ?_
      have hi : i < n := of_decide_eq_true b0
      have h8 : i < at0 + 8 := by rw [wrap63 (by omega) (by omega)] at b1; exact of_decide_eq_true b1
      have hk : seen.length < 8 := by omega
      have hi0 : 0 ≤ i := by omega
      obtain ⟨a, rfl⟩ : ∃ a, B = some a := by
        cases B with
        | none => have := hb.2.1 rfl; subst this; simp at hl; omega
        | some a => exact ⟨a, rfl⟩
      have hlt : i.toNat < bs.length := by omega
      obtain ⟨v, hv⟩ : ∃ v, bs[i.toNat]? = some v := ⟨_, List.getElem?_eq_getElem hlt⟩
      have hv256 : v < 256 := hbs v (List.mem_of_getElem? hv)
      refine At.idx a n 1 i (by kernel_rfl) hi0 (by omega) FrameR.stable ?_
      refine At.toJ (FrameR.stable) FrameR.fewer 0 100 [0, 1, 8, 9, 23, 26] 0 ⟨pops B37 [1, 1, 1, 0, 1, 4, 4, 1, 0, 4, 0] 4, [.seq (sub B37 [1, 1, 1, 0, 1, 4, 4, 1, 0, 4, 1]), .block 1, .seq (sub B37 [1, 1, 1, 0, 1, 4, 4, 1, 1]), .next (Sx.Next w.heap.size w Tryd.f37.ntmps (frRf (some a) n c at0) (fun x => []) (GRf w bs at0 R) (fun s => 8 - s.seen.length) (RfSt.mk i x wt seen)), .block 0, .seq (sub B37 [1, 1, 1, 1])], [(0, .sl (some a) n c), (1, .io .i64 at0), (8, .io IntKind.u64 wt), (9, .io .i64 i), (23, .io IntKind.u64 x), (26, .v (.pointer (some (a.add (i.toNat * 1)))))], []⟩ (by kernel_rfl) (by kernel_rfl) ?_
      refine At.ldx (a.add (i.toNat * 1)) (.io .u8 (v : Int)) (by kernel_rfl) FrameR.stable (fun ρ w1 hm hf => by rw [Nat.mul_one]; exact (hb.below hm.below).2.2 a rfl _ _ hv) ?_
      refine At.toJ (FrameR.stable) FrameR.fewer 0 100 [0, 1, 7, 8, 9, 35, 36] 0 ⟨pops B37 [1, 1, 1, 0, 1, 4, 4, 1, 0, 4, 1, 1, 0] 2, [.seq (sub B37 [1, 1, 1, 0, 1, 4, 4, 1, 0, 4, 1, 1, 1]), .block 1, .seq (sub B37 [1, 1, 1, 0, 1, 4, 4, 1, 1]), .next (Sx.Next w.heap.size w Tryd.f37.ntmps (frRf (some a) n c at0) (fun x => []) (GRf w bs at0 R) (fun s => 8 - s.seen.length) (RfSt.mk i x wt seen)), .block 0, .seq (sub B37 [1, 1, 1, 1])], [(0, .sl (some a) n c), (1, .io .i64 at0), (7, .io IntKind.u64 (IntKind.u64.wrap (x + IntKind.u64.wrap (IntKind.u64.wrap ((↑v : Int).tmod 128) * wt)))), (8, .io IntKind.u64 (IntKind.u64.wrap (wt * 128))), (9, .io .i64 i), (35, .sl (some a) n c), (36, .io .i64 i)], []⟩ (by kernel_rfl) (by kernel_rfl) ?_
      refine At.idx a n 1 i (by kernel_rfl) hi0 (by omega) FrameR.stable ?_
      refine At.toJ (FrameR.stable) FrameR.fewer 0 100 [0, 1, 7, 8, 9, 37] 0 ⟨pops B37 [1, 1, 1, 0, 1, 4, 4, 1, 0, 4, 1, 1, 0] 3, [.seq (sub B37 [1, 1, 1, 0, 1, 4, 4, 1, 0, 4, 1, 1, 1]), .block 1, .seq (sub B37 [1, 1, 1, 0, 1, 4, 4, 1, 1]), .next (Sx.Next w.heap.size w Tryd.f37.ntmps (frRf (some a) n c at0) (fun x => []) (GRf w bs at0 R) (fun s => 8 - s.seen.length) (RfSt.mk i x wt seen)), .block 0, .seq (sub B37 [1, 1, 1, 1])], [(0, .sl (some a) n c), (1, .io .i64 at0), (7, .io IntKind.u64 (IntKind.u64.wrap (x + IntKind.u64.wrap (IntKind.u64.wrap ((↑v : Int).tmod 128) * wt)))), (8, .io IntKind.u64 (IntKind.u64.wrap (wt * 128))), (9, .io .i64 i), (37, .v (.pointer (some (a.add (i.toNat * 1)))))], []⟩ (by kernel_rfl) (by kernel_rfl) ?_
      refine At.ldx (a.add (i.toNat * 1)) (.io .u8 (v : Int)) (by kernel_rfl) FrameR.stable (fun ρ w1 hm hf => by rw [Nat.mul_one]; exact (hb.below hm.below).2.2 a rfl _ _ hv) ?_
      refine At.toJ (FrameR.stable) FrameR.fewer 0 100 [0, 1, 7, 8, 9, 39] 0 ⟨.code (sub B37 [1, 1, 1, 0, 1, 4, 4, 1, 0, 4, 1, 1, 1]), [.block 1, .seq (sub B37 [1, 1, 1, 0, 1, 4, 4, 1, 1]), .next (Sx.Next w.heap.size w Tryd.f37.ntmps (frRf (some a) n c at0) (fun x => []) (GRf w bs at0 R) (fun s => 8 - s.seen.length) (RfSt.mk i x wt seen)), .block 0, .seq (sub B37 [1, 1, 1, 1])], [(0, .sl (some a) n c), (1, .io .i64 at0), (7, .io IntKind.u64 (IntKind.u64.wrap (x + IntKind.u64.wrap (IntKind.u64.wrap ((↑v : Int).tmod 128) * wt)))), (8, .io IntKind.u64 (IntKind.u64.wrap (wt * 128))), (9, .io .i64 i), (39, .bo (decide ((↑v : Int) < 128)))], []⟩ (by kernel_rfl) (by kernel_rfl) ?_
      rcases Bool.eq_false_or_eq_true (decide ((↑v : Int) < 128)) with b0 | b0
      · refine At.res 39 (decide ((↑v : Int) < 128)) true (by kernel_rfl) b0 ?_
        refine At.toJ (FrameR.stable) FrameR.fewer 0 100 [0, 1, 7, 9] 0 ⟨.any (opsOf (sub B37 [1, 1, 1, 0, 1, 4, 4, 1, 0, 4, 1, 1, 1, 2, 0])) 17 [], [.seq (sub B37 [1, 1, 1, 0, 1, 4, 4, 1, 0, 4, 1, 1, 1, 2, 1]), .block 1, .seq (sub B37 [1, 1, 1, 0, 1, 4, 4, 1, 1]), .next (Sx.Next w.heap.size w Tryd.f37.ntmps (frRf (some a) n c at0) (fun x => []) (GRf w bs at0 R) (fun s => 8 - s.seen.length) (RfSt.mk i x wt seen)), .block 0, .seq (sub B37 [1, 1, 1, 1])], [(0, .sl (some a) n c), (1, .io .i64 at0), (7, .io IntKind.u64 (IntKind.u64.wrap (x + IntKind.u64.wrap (IntKind.u64.wrap ((↑v : Int).tmod 128) * wt)))), (9, .io .i64 i)], []⟩ (by kernel_rfl) (by kernel_rfl) ?_
        have hwt : wt ≤ 562949953421312 := by rw [h4]; exact pow128 _ hk
        rw [r_step h5 h6 hwt]
        obtain ⟨hm1, hm2⟩ := r_mul (v := v) (wt := wt) (by omega)
        have hdr : bs.drop i.toNat = v :: bs.drop (i.toNat + 1) := drop_at hv
        have h8k : 8 - seen.length = (7 - seen.length) + 1 := by omega
        have hk' : (bs.drop at0.toNat)[seen.length]? = some v := by rw [List.getElem?_drop, show at0.toNat + seen.length = i.toNat by omega]; exact hv
        have hseen : (bs.drop at0.toNat).take (seen.length + 1) = seen ++ [v] := by rw [List.take_add_one, h3, hk']; rfl
        have hw1 : IntKind.i64.wrap (i + 1) = i + 1 := wrap63 (by omega) (by omega)
        rw [hdr, h8k] at h7
        rw [rf_cons, b0] at h7

        simp only [cond_true] at h7
        generalize hy : x + ((v % 128 : Nat) : Int) * wt = y at h7 ⊢
        have hy0 : 0 ≤ y := by omega
        have hy1 : y < 72057594037927936 := by omega
        have hly : (leb y.toNat).length ≤ 140737488355328 := Nat.le_trans (leb_len 9 (by omega)) (by omega)
        have hpart : ∀ (j b : Nat), (seen ++ [v])[j]? = some b → bs[at0.toNat + j]? = some b := fun j b hj => by
          rw [← hseen] at hj
          have hjl := (List.getElem?_eq_some_iff.1 hj).1
          rw [List.getElem?_take] at hj
          split at hj
          · rw [List.getElem?_drop] at hj
            exact hj
          · cases hj
        refine At.cutN (σ := Unit) (fun _ => [(4, .io .i64 (IntKind.i64.wrap y)), (5, .io .i64 (IntKind.i64.wrap (i + 1))), (6, .bo ((strOf (leb y.toNat)).toList == (strOf (seen ++ [v])).toList))]) (fun _ => []) (fun _ => FrameR w (fun _ => False) []) rfl ?_ (fun _ => ?_)
        · refine At.mono (F' := RowF w (fun _ => False) [] w.heap.size 5 1 none 0 0 []) (fun ρ w1 h => ⟨⟨⟨World.ownsRow_nil _ _ _ _, by simp [Value.ownBlock]⟩, h.1.size⟩, h, by simp [Value.ownBlock]⟩) ?_
          refine At.purify0 (fun e a w h => h.1) 20 ?_
          refine At.slFirst (fun e a w h => h.1) 11 (some a) n c (some at0) (IntKind.i64.wrap (i + 1)) 1 (.sl (some (a.add (at0.toNat * 1))) ((i + 1).toNat - at0.toNat) (c - at0.toNat)) (by kernel_rfl) (by kernel_rfl) (by simp only [Option.getD_some]; omega) (by simp only [Option.getD_some]; rw [hw1]; omega) (by rw [hw1]; omega) (fun ρ => ?_) ?_
          · rw [hw1]
            simp only [SV.den, Option.getD_some]
            rw [if_neg (by omega)]
            rfl
          refine At.purify0 (fun e a w h => h.1) 20 ?_
          refine At.toJ (RowF.stable) RowF.fewer 0 100 [41, 43, 44, 51] 0 ⟨.any (opsOf (sub B37 [1, 1, 1, 0, 1, 4, 4, 1, 0, 4, 1, 1, 1, 2, 0])) 7 [11, 10, 9, 8, 7, 4, 3, 2, 1, 0], [], [(41, .io .i64 (IntKind.i64.wrap y)), (43, .io .i64 (IntKind.i64.wrap (i + 1))), (44, .io IntKind.u64 y), (51, .sl (some (a.add (at0.toNat * 1))) ((i + 1).toNat - at0.toNat) (c - at0.toNat))], []⟩ (by kernel_rfl) (by kernel_rfl) ?_
          refine At.fork [5, 12] rfl (by kernel_rfl) rfl (allOf.cons ?_ (allOf.cons ?_ allOf.nil))
          · refine At.toJ (RowF.stable) RowF.fewer 0 100 [41, 43, 44, 51] 0 ⟨.ops (opsOf (sub B37 [1, 1, 1, 0, 1, 4, 4, 1, 0, 4, 1, 1, 1, 2, 0])) (((opsOf (sub B37 [1, 1, 1, 0, 1, 4, 4, 1, 0, 4, 1, 1, 1, 2, 0])).toList.drop 5).take 1), [.any (opsOf (sub B37 [1, 1, 1, 0, 1, 4, 4, 1, 0, 4, 1, 1, 1, 2, 0])) 6 [5, 11, 10, 9, 8, 7, 4, 3, 2, 1, 0]], [(41, .io .i64 (IntKind.i64.wrap y)), (43, .io .i64 (IntKind.i64.wrap (i + 1))), (44, .io IntKind.u64 y), (51, .sl (some (a.add (at0.toNat * 1))) ((i + 1).toNat - at0.toNat) (c - at0.toNat))], []⟩ (by kernel_rfl) (by kernel_rfl) ?_
            refine At.mkrow (base := w.heap.size) (e := 5) (size := 1) 62 [.io IntKind.u64 y] (fun _ => False) [] (bv (leb y.toNat)) (by kernel_rfl) (by kernel_rfl) (by kernel_rfl) (by kernel_rfl) (by kernel_rfl) (fun ρ w h => h.2.1) (Nat.le_refl _) (fun ρ w1 hm hf => rnumber_any y hy0 (by omega) w1 hly) ?_
            intro A1 n1 c1
            refine At.toJ (RowF.stable) RowF.fewer 0 100 [41, 43, 45, 51] 0 ⟨.any (opsOf (sub B37 [1, 1, 1, 0, 1, 4, 4, 1, 0, 4, 1, 1, 1, 2, 0])) 6 [5, 11, 10, 9, 8, 7, 4, 3, 2, 1, 0], [], [(41, .io .i64 (IntKind.i64.wrap y)), (43, .io .i64 (IntKind.i64.wrap (i + 1))), (45, .sl A1 n1 c1), (51, .sl (some (a.add (at0.toNat * 1))) ((i + 1).toNat - at0.toNat) (c - at0.toNat))], []⟩ (by kernel_rfl) (by kernel_rfl) ?_
            refine At.fork [6, 12, 14] rfl (by kernel_rfl) rfl (allOf.cons ?_ (allOf.cons ?_ (allOf.cons ?_ allOf.nil)))
            · refine At.toJ (RowF.stable) RowF.fewer 0 100 [41, 43, 45, 51] 0 ⟨.ops (opsOf (sub B37 [1, 1, 1, 0, 1, 4, 4, 1, 0, 4, 1, 1, 1, 2, 0])) (((opsOf (sub B37 [1, 1, 1, 0, 1, 4, 4, 1, 0, 4, 1, 1, 1, 2, 0])).toList.drop 6).take 1), [.any (opsOf (sub B37 [1, 1, 1, 0, 1, 4, 4, 1, 0, 4, 1, 1, 1, 2, 0])) 5 [6, 5, 11, 10, 9, 8, 7, 4, 3, 2, 1, 0]], [(41, .io .i64 (IntKind.i64.wrap y)), (43, .io .i64 (IntKind.i64.wrap (i + 1))), (45, .sl A1 n1 c1), (51, .sl (some (a.add (at0.toNat * 1))) ((i + 1).toNat - at0.toNat) (c - at0.toNat))], []⟩ (by kernel_rfl) (by kernel_rfl) ?_
              refine At.cvy A1 n1 c1 (leb y.toNat) (.so (strOf (leb y.toNat))) (by kernel_rfl) RowF.stable (fun ρ => rfl) (fun ρ w1 hm hf => row_cv hf.1.1) ?_
              refine At.toJ (RowF.stable) RowF.fewer 0 100 [41, 43, 46, 51] 0 ⟨.any (opsOf (sub B37 [1, 1, 1, 0, 1, 4, 4, 1, 0, 4, 1, 1, 1, 2, 0])) 5 [6, 5, 11, 10, 9, 8, 7, 4, 3, 2, 1, 0], [], [(41, .io .i64 (IntKind.i64.wrap y)), (43, .io .i64 (IntKind.i64.wrap (i + 1))), (46, .so (strOf (leb y.toNat))), (51, .sl (some (a.add (at0.toNat * 1))) ((i + 1).toNat - at0.toNat) (c - at0.toNat))], []⟩ (by kernel_rfl) (by kernel_rfl) ?_
              refine At.fork [12, 14] rfl (by kernel_rfl) rfl (allOf.cons ?_ (allOf.cons ?_ allOf.nil))
              · refine At.toJ (RowF.stable) RowF.fewer 0 100 [41, 43, 46, 51] 0 ⟨.ops (opsOf (sub B37 [1, 1, 1, 0, 1, 4, 4, 1, 0, 4, 1, 1, 1, 2, 0])) (((opsOf (sub B37 [1, 1, 1, 0, 1, 4, 4, 1, 0, 4, 1, 1, 1, 2, 0])).toList.drop 12).take 1), [.any (opsOf (sub B37 [1, 1, 1, 0, 1, 4, 4, 1, 0, 4, 1, 1, 1, 2, 0])) 4 [12, 6, 5, 11, 10, 9, 8, 7, 4, 3, 2, 1, 0]], [(41, .io .i64 (IntKind.i64.wrap y)), (43, .io .i64 (IntKind.i64.wrap (i + 1))), (46, .so (strOf (leb y.toNat))), (51, .sl (some (a.add (at0.toNat * 1))) ((i + 1).toNat - at0.toNat) (c - at0.toNat))], []⟩ (by kernel_rfl) (by kernel_rfl) ?_
                refine At.cvy (some (a.add (at0.toNat * 1))) ((i + 1).toNat - at0.toNat) (c - at0.toNat) (seen ++ [v]) (.so (strOf (seen ++ [v]))) (by kernel_rfl) RowF.stable (fun ρ => rfl) (fun ρ w1 hm hf => ⟨by simp only [List.length_append, List.length_singleton]; omega, fun h => (by cases h), fun a' ha' j b hj => ?_⟩) ?_
                · cases ha'
                  rw [Nat.mul_one, add_add]
                  exact (hb.below hm.below).2.2 a rfl _ _ (hpart j b hj)
                refine At.toJ (RowF.stable) RowF.fewer 0 100 [41, 43, 46, 52] 0 ⟨.any (opsOf (sub B37 [1, 1, 1, 0, 1, 4, 4, 1, 0, 4, 1, 1, 1, 2, 0])) 4 [12, 6, 5, 11, 10, 9, 8, 7, 4, 3, 2, 1, 0], [], [(41, .io .i64 (IntKind.i64.wrap y)), (43, .io .i64 (IntKind.i64.wrap (i + 1))), (46, .so (strOf (leb y.toNat))), (52, .so (strOf (seen ++ [v])))], []⟩ (by kernel_rfl) (by kernel_rfl) ?_
                refine At.fork [13, 14] rfl (by kernel_rfl) rfl (allOf.cons ?_ (allOf.cons ?_ allOf.nil))
                · refine At.toJ (RowF.stable) RowF.fewer 0 100 [4, 5, 6] 0 ⟨.exit .normal, [], [(4, .io .i64 (IntKind.i64.wrap y)), (5, .io .i64 (IntKind.i64.wrap (i + 1))), (6, .bo ((strOf (leb y.toNat)).toList == (strOf (seen ++ [v])).toList))], []⟩ (by kernel_rfl) (by kernel_rfl) ?_
                  exact At.fin () rfl rfl (by unfold subFr; kernel_rfl) rfl (fun _ _ _ _ h => h.2.1)
                · refine At.toJ (RowF.stable) RowF.fewer 0 100 [4, 43, 46, 52] 0 ⟨.any (opsOf (sub B37 [1, 1, 1, 0, 1, 4, 4, 1, 0, 4, 1, 1, 1, 2, 0])) 3 [14, 12, 6, 5, 11, 10, 9, 8, 7, 4, 3, 2, 1, 0], [], [(4, .io .i64 (IntKind.i64.wrap y)), (43, .io .i64 (IntKind.i64.wrap (i + 1))), (46, .so (strOf (leb y.toNat))), (52, .so (strOf (seen ++ [v])))], []⟩ (by kernel_rfl) (by kernel_rfl) ?_
                  refine At.fork [13, 15] rfl (by kernel_rfl) rfl (allOf.cons ?_ (allOf.cons ?_ allOf.nil))
                  · refine At.toJ (RowF.stable) RowF.fewer 0 100 [4, 5, 6] 0 ⟨.exit .normal, [], [(4, .io .i64 (IntKind.i64.wrap y)), (5, .io .i64 (IntKind.i64.wrap (i + 1))), (6, .bo ((strOf (leb y.toNat)).toList == (strOf (seen ++ [v])).toList))], []⟩ (by kernel_rfl) (by kernel_rfl) ?_
                    exact At.fin () rfl rfl (by unfold subFr; kernel_rfl) rfl (fun _ _ _ _ h => h.2.1)
                  · refine At.toJ (RowF.stable) RowF.fewer 0 100 [4, 5, 6] 0 ⟨.exit .normal, [], [(4, .io .i64 (IntKind.i64.wrap y)), (5, .io .i64 (IntKind.i64.wrap (i + 1))), (6, .bo ((strOf (leb y.toNat)).toList == (strOf (seen ++ [v])).toList))], []⟩ (by kernel_rfl) (by kernel_rfl) ?_
                    exact At.fin () rfl rfl (by unfold subFr; kernel_rfl) rfl (fun _ _ _ _ h => h.2.1)
              · refine At.toJ (RowF.stable) RowF.fewer 0 100 [4, 43, 46, 51] 0 ⟨.any (opsOf (sub B37 [1, 1, 1, 0, 1, 4, 4, 1, 0, 4, 1, 1, 1, 2, 0])) 4 [14, 6, 5, 11, 10, 9, 8, 7, 4, 3, 2, 1, 0], [], [(4, .io .i64 (IntKind.i64.wrap y)), (43, .io .i64 (IntKind.i64.wrap (i + 1))), (46, .so (strOf (leb y.toNat))), (51, .sl (some (a.add (at0.toNat * 1))) ((i + 1).toNat - at0.toNat) (c - at0.toNat))], []⟩ (by kernel_rfl) (by kernel_rfl) ?_
                refine At.fork [12, 15] rfl (by kernel_rfl) rfl (allOf.cons ?_ (allOf.cons ?_ allOf.nil))
                · refine At.toJ (RowF.stable) RowF.fewer 0 100 [4, 43, 46, 51] 0 ⟨.ops (opsOf (sub B37 [1, 1, 1, 0, 1, 4, 4, 1, 0, 4, 1, 1, 1, 2, 0])) (((opsOf (sub B37 [1, 1, 1, 0, 1, 4, 4, 1, 0, 4, 1, 1, 1, 2, 0])).toList.drop 12).take 1), [.any (opsOf (sub B37 [1, 1, 1, 0, 1, 4, 4, 1, 0, 4, 1, 1, 1, 2, 0])) 3 [12, 14, 6, 5, 11, 10, 9, 8, 7, 4, 3, 2, 1, 0]], [(4, .io .i64 (IntKind.i64.wrap y)), (43, .io .i64 (IntKind.i64.wrap (i + 1))), (46, .so (strOf (leb y.toNat))), (51, .sl (some (a.add (at0.toNat * 1))) ((i + 1).toNat - at0.toNat) (c - at0.toNat))], []⟩ (by kernel_rfl) (by kernel_rfl) ?_
                  refine At.cvy (some (a.add (at0.toNat * 1))) ((i + 1).toNat - at0.toNat) (c - at0.toNat) (seen ++ [v]) (.so (strOf (seen ++ [v]))) (by kernel_rfl) RowF.stable (fun ρ => rfl) (fun ρ w1 hm hf => ⟨by simp only [List.length_append, List.length_singleton]; omega, fun h => (by cases h), fun a' ha' j b hj => ?_⟩) ?_
                  · cases ha'
                    rw [Nat.mul_one, add_add]
                    exact (hb.below hm.below).2.2 a rfl _ _ (hpart j b hj)
                  refine At.toJ (RowF.stable) RowF.fewer 0 100 [4, 43, 46, 52] 0 ⟨.any (opsOf (sub B37 [1, 1, 1, 0, 1, 4, 4, 1, 0, 4, 1, 1, 1, 2, 0])) 3 [12, 14, 6, 5, 11, 10, 9, 8, 7, 4, 3, 2, 1, 0], [], [(4, .io .i64 (IntKind.i64.wrap y)), (43, .io .i64 (IntKind.i64.wrap (i + 1))), (46, .so (strOf (leb y.toNat))), (52, .so (strOf (seen ++ [v])))], []⟩ (by kernel_rfl) (by kernel_rfl) ?_
                  refine At.fork [13, 15] rfl (by kernel_rfl) rfl (allOf.cons ?_ (allOf.cons ?_ allOf.nil))
                  · refine At.toJ (RowF.stable) RowF.fewer 0 100 [4, 5, 6] 0 ⟨.exit .normal, [], [(4, .io .i64 (IntKind.i64.wrap y)), (5, .io .i64 (IntKind.i64.wrap (i + 1))), (6, .bo ((strOf (leb y.toNat)).toList == (strOf (seen ++ [v])).toList))], []⟩ (by kernel_rfl) (by kernel_rfl) ?_
                    exact At.fin () rfl rfl (by unfold subFr; kernel_rfl) rfl (fun _ _ _ _ h => h.2.1)
                  · refine At.toJ (RowF.stable) RowF.fewer 0 100 [4, 5, 6] 0 ⟨.exit .normal, [], [(4, .io .i64 (IntKind.i64.wrap y)), (5, .io .i64 (IntKind.i64.wrap (i + 1))), (6, .bo ((strOf (leb y.toNat)).toList == (strOf (seen ++ [v])).toList))], []⟩ (by kernel_rfl) (by kernel_rfl) ?_
                    exact At.fin () rfl rfl (by unfold subFr; kernel_rfl) rfl (fun _ _ _ _ h => h.2.1)
                · refine At.toJ (RowF.stable) RowF.fewer 0 100 [4, 5, 46, 51] 0 ⟨.ops (opsOf (sub B37 [1, 1, 1, 0, 1, 4, 4, 1, 0, 4, 1, 1, 1, 2, 0])) (((opsOf (sub B37 [1, 1, 1, 0, 1, 4, 4, 1, 0, 4, 1, 1, 1, 2, 0])).toList.drop 12).take 1), [.any (opsOf (sub B37 [1, 1, 1, 0, 1, 4, 4, 1, 0, 4, 1, 1, 1, 2, 0])) 2 [12, 15, 14, 6, 5, 11, 10, 9, 8, 7, 4, 3, 2, 1, 0]], [(4, .io .i64 (IntKind.i64.wrap y)), (5, .io .i64 (IntKind.i64.wrap (i + 1))), (46, .so (strOf (leb y.toNat))), (51, .sl (some (a.add (at0.toNat * 1))) ((i + 1).toNat - at0.toNat) (c - at0.toNat))], []⟩ (by kernel_rfl) (by kernel_rfl) ?_
                  refine At.cvy (some (a.add (at0.toNat * 1))) ((i + 1).toNat - at0.toNat) (c - at0.toNat) (seen ++ [v]) (.so (strOf (seen ++ [v]))) (by kernel_rfl) RowF.stable (fun ρ => rfl) (fun ρ w1 hm hf => ⟨by simp only [List.length_append, List.length_singleton]; omega, fun h => (by cases h), fun a' ha' j b hj => ?_⟩) ?_
                  · cases ha'
                    rw [Nat.mul_one, add_add]
                    exact (hb.below hm.below).2.2 a rfl _ _ (hpart j b hj)
                  refine At.toJ (RowF.stable) RowF.fewer 0 100 [4, 5, 6] 0 ⟨.exit .normal, [], [(4, .io .i64 (IntKind.i64.wrap y)), (5, .io .i64 (IntKind.i64.wrap (i + 1))), (6, .bo ((strOf (leb y.toNat)).toList == (strOf (seen ++ [v])).toList))], []⟩ (by kernel_rfl) (by kernel_rfl) ?_
                  exact At.fin () rfl rfl (by unfold subFr; kernel_rfl) rfl (fun _ _ _ _ h => h.2.1)
            · refine At.toJ (RowF.stable) RowF.fewer 0 100 [41, 43, 45, 51] 0 ⟨.ops (opsOf (sub B37 [1, 1, 1, 0, 1, 4, 4, 1, 0, 4, 1, 1, 1, 2, 0])) (((opsOf (sub B37 [1, 1, 1, 0, 1, 4, 4, 1, 0, 4, 1, 1, 1, 2, 0])).toList.drop 12).take 1), [.any (opsOf (sub B37 [1, 1, 1, 0, 1, 4, 4, 1, 0, 4, 1, 1, 1, 2, 0])) 5 [12, 5, 11, 10, 9, 8, 7, 4, 3, 2, 1, 0]], [(41, .io .i64 (IntKind.i64.wrap y)), (43, .io .i64 (IntKind.i64.wrap (i + 1))), (45, .sl A1 n1 c1), (51, .sl (some (a.add (at0.toNat * 1))) ((i + 1).toNat - at0.toNat) (c - at0.toNat))], []⟩ (by kernel_rfl) (by kernel_rfl) ?_
              refine At.cvy (some (a.add (at0.toNat * 1))) ((i + 1).toNat - at0.toNat) (c - at0.toNat) (seen ++ [v]) (.so (strOf (seen ++ [v]))) (by kernel_rfl) RowF.stable (fun ρ => rfl) (fun ρ w1 hm hf => ⟨by simp only [List.length_append, List.length_singleton]; omega, fun h => (by cases h), fun a' ha' j b hj => ?_⟩) ?_
              · cases ha'
                rw [Nat.mul_one, add_add]
                exact (hb.below hm.below).2.2 a rfl _ _ (hpart j b hj)
              refine At.toJ (RowF.stable) RowF.fewer 0 100 [41, 43, 45, 52] 0 ⟨.any (opsOf (sub B37 [1, 1, 1, 0, 1, 4, 4, 1, 0, 4, 1, 1, 1, 2, 0])) 5 [12, 5, 11, 10, 9, 8, 7, 4, 3, 2, 1, 0], [], [(41, .io .i64 (IntKind.i64.wrap y)), (43, .io .i64 (IntKind.i64.wrap (i + 1))), (45, .sl A1 n1 c1), (52, .so (strOf (seen ++ [v])))], []⟩ (by kernel_rfl) (by kernel_rfl) ?_
              refine At.fork [6, 14] rfl (by kernel_rfl) rfl (allOf.cons ?_ (allOf.cons ?_ allOf.nil))
              · refine At.toJ (RowF.stable) RowF.fewer 0 100 [41, 43, 45, 52] 0 ⟨.ops (opsOf (sub B37 [1, 1, 1, 0, 1, 4, 4, 1, 0, 4, 1, 1, 1, 2, 0])) (((opsOf (sub B37 [1, 1, 1, 0, 1, 4, 4, 1, 0, 4, 1, 1, 1, 2, 0])).toList.drop 6).take 1), [.any (opsOf (sub B37 [1, 1, 1, 0, 1, 4, 4, 1, 0, 4, 1, 1, 1, 2, 0])) 4 [6, 12, 5, 11, 10, 9, 8, 7, 4, 3, 2, 1, 0]], [(41, .io .i64 (IntKind.i64.wrap y)), (43, .io .i64 (IntKind.i64.wrap (i + 1))), (45, .sl A1 n1 c1), (52, .so (strOf (seen ++ [v])))], []⟩ (by kernel_rfl) (by kernel_rfl) ?_
                refine At.cvy A1 n1 c1 (leb y.toNat) (.so (strOf (leb y.toNat))) (by kernel_rfl) RowF.stable (fun ρ => rfl) (fun ρ w1 hm hf => row_cv hf.1.1) ?_
                refine At.toJ (RowF.stable) RowF.fewer 0 100 [41, 43, 46, 52] 0 ⟨.any (opsOf (sub B37 [1, 1, 1, 0, 1, 4, 4, 1, 0, 4, 1, 1, 1, 2, 0])) 4 [6, 12, 5, 11, 10, 9, 8, 7, 4, 3, 2, 1, 0], [], [(41, .io .i64 (IntKind.i64.wrap y)), (43, .io .i64 (IntKind.i64.wrap (i + 1))), (46, .so (strOf (leb y.toNat))), (52, .so (strOf (seen ++ [v])))], []⟩ (by kernel_rfl) (by kernel_rfl) ?_
                refine At.fork [13, 14] rfl (by kernel_rfl) rfl (allOf.cons ?_ (allOf.cons ?_ allOf.nil))
                · refine At.toJ (RowF.stable) RowF.fewer 0 100 [4, 5, 6] 0 ⟨.exit .normal, [], [(4, .io .i64 (IntKind.i64.wrap y)), (5, .io .i64 (IntKind.i64.wrap (i + 1))), (6, .bo ((strOf (leb y.toNat)).toList == (strOf (seen ++ [v])).toList))], []⟩ (by kernel_rfl) (by kernel_rfl) ?_
                  exact At.fin () rfl rfl (by unfold subFr; kernel_rfl) rfl (fun _ _ _ _ h => h.2.1)
                · refine At.toJ (RowF.stable) RowF.fewer 0 100 [4, 43, 46, 52] 0 ⟨.any (opsOf (sub B37 [1, 1, 1, 0, 1, 4, 4, 1, 0, 4, 1, 1, 1, 2, 0])) 3 [14, 6, 12, 5, 11, 10, 9, 8, 7, 4, 3, 2, 1, 0], [], [(4, .io .i64 (IntKind.i64.wrap y)), (43, .io .i64 (IntKind.i64.wrap (i + 1))), (46, .so (strOf (leb y.toNat))), (52, .so (strOf (seen ++ [v])))], []⟩ (by kernel_rfl) (by kernel_rfl) ?_
                  refine At.fork [13, 15] rfl (by kernel_rfl) rfl (allOf.cons ?_ (allOf.cons ?_ allOf.nil))
                  · refine At.toJ (RowF.stable) RowF.fewer 0 100 [4, 5, 6] 0 ⟨.exit .normal, [], [(4, .io .i64 (IntKind.i64.wrap y)), (5, .io .i64 (IntKind.i64.wrap (i + 1))), (6, .bo ((strOf (leb y.toNat)).toList == (strOf (seen ++ [v])).toList))], []⟩ (by kernel_rfl) (by kernel_rfl) ?_
                    exact At.fin () rfl rfl (by unfold subFr; kernel_rfl) rfl (fun _ _ _ _ h => h.2.1)
                  · refine At.toJ (RowF.stable) RowF.fewer 0 100 [4, 5, 6] 0 ⟨.exit .normal, [], [(4, .io .i64 (IntKind.i64.wrap y)), (5, .io .i64 (IntKind.i64.wrap (i + 1))), (6, .bo ((strOf (leb y.toNat)).toList == (strOf (seen ++ [v])).toList))], []⟩ (by kernel_rfl) (by kernel_rfl) ?_
                    exact At.fin () rfl rfl (by unfold subFr; kernel_rfl) rfl (fun _ _ _ _ h => h.2.1)
              · refine At.toJ (RowF.stable) RowF.fewer 0 100 [4, 43, 45, 52] 0 ⟨.any (opsOf (sub B37 [1, 1, 1, 0, 1, 4, 4, 1, 0, 4, 1, 1, 1, 2, 0])) 4 [14, 12, 5, 11, 10, 9, 8, 7, 4, 3, 2, 1, 0], [], [(4, .io .i64 (IntKind.i64.wrap y)), (43, .io .i64 (IntKind.i64.wrap (i + 1))), (45, .sl A1 n1 c1), (52, .so (strOf (seen ++ [v])))], []⟩ (by kernel_rfl) (by kernel_rfl) ?_
                refine At.fork [6, 15] rfl (by kernel_rfl) rfl (allOf.cons ?_ (allOf.cons ?_ allOf.nil))
                · refine At.toJ (RowF.stable) RowF.fewer 0 100 [4, 43, 45, 52] 0 ⟨.ops (opsOf (sub B37 [1, 1, 1, 0, 1, 4, 4, 1, 0, 4, 1, 1, 1, 2, 0])) (((opsOf (sub B37 [1, 1, 1, 0, 1, 4, 4, 1, 0, 4, 1, 1, 1, 2, 0])).toList.drop 6).take 1), [.any (opsOf (sub B37 [1, 1, 1, 0, 1, 4, 4, 1, 0, 4, 1, 1, 1, 2, 0])) 3 [6, 14, 12, 5, 11, 10, 9, 8, 7, 4, 3, 2, 1, 0]], [(4, .io .i64 (IntKind.i64.wrap y)), (43, .io .i64 (IntKind.i64.wrap (i + 1))), (45, .sl A1 n1 c1), (52, .so (strOf (seen ++ [v])))], []⟩ (by kernel_rfl) (by kernel_rfl) ?_
                  refine At.cvy A1 n1 c1 (leb y.toNat) (.so (strOf (leb y.toNat))) (by kernel_rfl) RowF.stable (fun ρ => rfl) (fun ρ w1 hm hf => row_cv hf.1.1) ?_
                  refine At.toJ (RowF.stable) RowF.fewer 0 100 [4, 43, 46, 52] 0 ⟨.any (opsOf (sub B37 [1, 1, 1, 0, 1, 4, 4, 1, 0, 4, 1, 1, 1, 2, 0])) 3 [6, 14, 12, 5, 11, 10, 9, 8, 7, 4, 3, 2, 1, 0], [], [(4, .io .i64 (IntKind.i64.wrap y)), (43, .io .i64 (IntKind.i64.wrap (i + 1))), (46, .so (strOf (leb y.toNat))), (52, .so (strOf (seen ++ [v])))], []⟩ (by kernel_rfl) (by kernel_rfl) ?_
                  refine At.fork [13, 15] rfl (by kernel_rfl) rfl (allOf.cons ?_ (allOf.cons ?_ allOf.nil))
                  · refine At.toJ (RowF.stable) RowF.fewer 0 100 [4, 5, 6] 0 ⟨.exit .normal, [], [(4, .io .i64 (IntKind.i64.wrap y)), (5, .io .i64 (IntKind.i64.wrap (i + 1))), (6, .bo ((strOf (leb y.toNat)).toList == (strOf (seen ++ [v])).toList))], []⟩ (by kernel_rfl) (by kernel_rfl) ?_
                    exact At.fin () rfl rfl (by unfold subFr; kernel_rfl) rfl (fun _ _ _ _ h => h.2.1)
                  · refine At.toJ (RowF.stable) RowF.fewer 0 100 [4, 5, 6] 0 ⟨.exit .normal, [], [(4, .io .i64 (IntKind.i64.wrap y)), (5, .io .i64 (IntKind.i64.wrap (i + 1))), (6, .bo ((strOf (leb y.toNat)).toList == (strOf (seen ++ [v])).toList))], []⟩ (by kernel_rfl) (by kernel_rfl) ?_
                    exact At.fin () rfl rfl (by unfold subFr; kernel_rfl) rfl (fun _ _ _ _ h => h.2.1)
                · refine At.toJ (RowF.stable) RowF.fewer 0 100 [4, 5, 45, 52] 0 ⟨.ops (opsOf (sub B37 [1, 1, 1, 0, 1, 4, 4, 1, 0, 4, 1, 1, 1, 2, 0])) (((opsOf (sub B37 [1, 1, 1, 0, 1, 4, 4, 1, 0, 4, 1, 1, 1, 2, 0])).toList.drop 6).take 1), [.any (opsOf (sub B37 [1, 1, 1, 0, 1, 4, 4, 1, 0, 4, 1, 1, 1, 2, 0])) 2 [6, 15, 14, 12, 5, 11, 10, 9, 8, 7, 4, 3, 2, 1, 0]], [(4, .io .i64 (IntKind.i64.wrap y)), (5, .io .i64 (IntKind.i64.wrap (i + 1))), (45, .sl A1 n1 c1), (52, .so (strOf (seen ++ [v])))], []⟩ (by kernel_rfl) (by kernel_rfl) ?_
                  refine At.cvy A1 n1 c1 (leb y.toNat) (.so (strOf (leb y.toNat))) (by kernel_rfl) RowF.stable (fun ρ => rfl) (fun ρ w1 hm hf => row_cv hf.1.1) ?_
                  refine At.toJ (RowF.stable) RowF.fewer 0 100 [4, 5, 6] 0 ⟨.exit .normal, [], [(4, .io .i64 (IntKind.i64.wrap y)), (5, .io .i64 (IntKind.i64.wrap (i + 1))), (6, .bo ((strOf (leb y.toNat)).toList == (strOf (seen ++ [v])).toList))], []⟩ (by kernel_rfl) (by kernel_rfl) ?_
                  exact At.fin () rfl rfl (by unfold subFr; kernel_rfl) rfl (fun _ _ _ _ h => h.2.1)
            · refine At.toJ (RowF.stable) RowF.fewer 0 100 [4, 43, 45, 51] 0 ⟨.any (opsOf (sub B37 [1, 1, 1, 0, 1, 4, 4, 1, 0, 4, 1, 1, 1, 2, 0])) 5 [14, 5, 11, 10, 9, 8, 7, 4, 3, 2, 1, 0], [], [(4, .io .i64 (IntKind.i64.wrap y)), (43, .io .i64 (IntKind.i64.wrap (i + 1))), (45, .sl A1 n1 c1), (51, .sl (some (a.add (at0.toNat * 1))) ((i + 1).toNat - at0.toNat) (c - at0.toNat))], []⟩ (by kernel_rfl) (by kernel_rfl) ?_
              refine At.fork [6, 12, 15] rfl (by kernel_rfl) rfl (allOf.cons ?_ (allOf.cons ?_ (allOf.cons ?_ allOf.nil)))
              · refine At.toJ (RowF.stable) RowF.fewer 0 100 [4, 43, 45, 51] 0 ⟨.ops (opsOf (sub B37 [1, 1, 1, 0, 1, 4, 4, 1, 0, 4, 1, 1, 1, 2, 0])) (((opsOf (sub B37 [1, 1, 1, 0, 1, 4, 4, 1, 0, 4, 1, 1, 1, 2, 0])).toList.drop 6).take 1), [.any (opsOf (sub B37 [1, 1, 1, 0, 1, 4, 4, 1, 0, 4, 1, 1, 1, 2, 0])) 4 [6, 14, 5, 11, 10, 9, 8, 7, 4, 3, 2, 1, 0]], [(4, .io .i64 (IntKind.i64.wrap y)), (43, .io .i64 (IntKind.i64.wrap (i + 1))), (45, .sl A1 n1 c1), (51, .sl (some (a.add (at0.toNat * 1))) ((i + 1).toNat - at0.toNat) (c - at0.toNat))], []⟩ (by kernel_rfl) (by kernel_rfl) ?_
                refine At.cvy A1 n1 c1 (leb y.toNat) (.so (strOf (leb y.toNat))) (by kernel_rfl) RowF.stable (fun ρ => rfl) (fun ρ w1 hm hf => row_cv hf.1.1) ?_
                refine At.toJ (RowF.stable) RowF.fewer 0 100 [4, 43, 46, 51] 0 ⟨.any (opsOf (sub B37 [1, 1, 1, 0, 1, 4, 4, 1, 0, 4, 1, 1, 1, 2, 0])) 4 [6, 14, 5, 11, 10, 9, 8, 7, 4, 3, 2, 1, 0], [], [(4, .io .i64 (IntKind.i64.wrap y)), (43, .io .i64 (IntKind.i64.wrap (i + 1))), (46, .so (strOf (leb y.toNat))), (51, .sl (some (a.add (at0.toNat * 1))) ((i + 1).toNat - at0.toNat) (c - at0.toNat))], []⟩ (by kernel_rfl) (by kernel_rfl) ?_
                refine At.fork [12, 15] rfl (by kernel_rfl) rfl (allOf.cons ?_ (allOf.cons ?_ allOf.nil))
                · refine At.toJ (RowF.stable) RowF.fewer 0 100 [4, 43, 46, 51] 0 ⟨.ops (opsOf (sub B37 [1, 1, 1, 0, 1, 4, 4, 1, 0, 4, 1, 1, 1, 2, 0])) (((opsOf (sub B37 [1, 1, 1, 0, 1, 4, 4, 1, 0, 4, 1, 1, 1, 2, 0])).toList.drop 12).take 1), [.any (opsOf (sub B37 [1, 1, 1, 0, 1, 4, 4, 1, 0, 4, 1, 1, 1, 2, 0])) 3 [12, 6, 14, 5, 11, 10, 9, 8, 7, 4, 3, 2, 1, 0]], [(4, .io .i64 (IntKind.i64.wrap y)), (43, .io .i64 (IntKind.i64.wrap (i + 1))), (46, .so (strOf (leb y.toNat))), (51, .sl (some (a.add (at0.toNat * 1))) ((i + 1).toNat - at0.toNat) (c - at0.toNat))], []⟩ (by kernel_rfl) (by kernel_rfl) ?_
                  refine At.cvy (some (a.add (at0.toNat * 1))) ((i + 1).toNat - at0.toNat) (c - at0.toNat) (seen ++ [v]) (.so (strOf (seen ++ [v]))) (by kernel_rfl) RowF.stable (fun ρ => rfl) (fun ρ w1 hm hf => ⟨by simp only [List.length_append, List.length_singleton]; omega, fun h => (by cases h), fun a' ha' j b hj => ?_⟩) ?_
                  · cases ha'
                    rw [Nat.mul_one, add_add]
                    exact (hb.below hm.below).2.2 a rfl _ _ (hpart j b hj)
                  refine At.toJ (RowF.stable) RowF.fewer 0 100 [4, 43, 46, 52] 0 ⟨.any (opsOf (sub B37 [1, 1, 1, 0, 1, 4, 4, 1, 0, 4, 1, 1, 1, 2, 0])) 3 [12, 6, 14, 5, 11, 10, 9, 8, 7, 4, 3, 2, 1, 0], [], [(4, .io .i64 (IntKind.i64.wrap y)), (43, .io .i64 (IntKind.i64.wrap (i + 1))), (46, .so (strOf (leb y.toNat))), (52, .so (strOf (seen ++ [v])))], []⟩ (by kernel_rfl) (by kernel_rfl) ?_
                  refine At.fork [13, 15] rfl (by kernel_rfl) rfl (allOf.cons ?_ (allOf.cons ?_ allOf.nil))
                  · refine At.toJ (RowF.stable) RowF.fewer 0 100 [4, 5, 6] 0 ⟨.exit .normal, [], [(4, .io .i64 (IntKind.i64.wrap y)), (5, .io .i64 (IntKind.i64.wrap (i + 1))), (6, .bo ((strOf (leb y.toNat)).toList == (strOf (seen ++ [v])).toList))], []⟩ (by kernel_rfl) (by kernel_rfl) ?_
                    exact At.fin () rfl rfl (by unfold subFr; kernel_rfl) rfl (fun _ _ _ _ h => h.2.1)
                  · refine At.toJ (RowF.stable) RowF.fewer 0 100 [4, 5, 6] 0 ⟨.exit .normal, [], [(4, .io .i64 (IntKind.i64.wrap y)), (5, .io .i64 (IntKind.i64.wrap (i + 1))), (6, .bo ((strOf (leb y.toNat)).toList == (strOf (seen ++ [v])).toList))], []⟩ (by kernel_rfl) (by kernel_rfl) ?_
                    exact At.fin () rfl rfl (by unfold subFr; kernel_rfl) rfl (fun _ _ _ _ h => h.2.1)
                · refine At.toJ (RowF.stable) RowF.fewer 0 100 [4, 5, 46, 51] 0 ⟨.ops (opsOf (sub B37 [1, 1, 1, 0, 1, 4, 4, 1, 0, 4, 1, 1, 1, 2, 0])) (((opsOf (sub B37 [1, 1, 1, 0, 1, 4, 4, 1, 0, 4, 1, 1, 1, 2, 0])).toList.drop 12).take 1), [.any (opsOf (sub B37 [1, 1, 1, 0, 1, 4, 4, 1, 0, 4, 1, 1, 1, 2, 0])) 2 [12, 15, 6, 14, 5, 11, 10, 9, 8, 7, 4, 3, 2, 1, 0]], [(4, .io .i64 (IntKind.i64.wrap y)), (5, .io .i64 (IntKind.i64.wrap (i + 1))), (46, .so (strOf (leb y.toNat))), (51, .sl (some (a.add (at0.toNat * 1))) ((i + 1).toNat - at0.toNat) (c - at0.toNat))], []⟩ (by kernel_rfl) (by kernel_rfl) ?_
                  refine At.cvy (some (a.add (at0.toNat * 1))) ((i + 1).toNat - at0.toNat) (c - at0.toNat) (seen ++ [v]) (.so (strOf (seen ++ [v]))) (by kernel_rfl) RowF.stable (fun ρ => rfl) (fun ρ w1 hm hf => ⟨by simp only [List.length_append, List.length_singleton]; omega, fun h => (by cases h), fun a' ha' j b hj => ?_⟩) ?_
                  · cases ha'
                    rw [Nat.mul_one, add_add]
                    exact (hb.below hm.below).2.2 a rfl _ _ (hpart j b hj)
                  refine At.toJ (RowF.stable) RowF.fewer 0 100 [4, 5, 6] 0 ⟨.exit .normal, [], [(4, .io .i64 (IntKind.i64.wrap y)), (5, .io .i64 (IntKind.i64.wrap (i + 1))), (6, .bo ((strOf (leb y.toNat)).toList == (strOf (seen ++ [v])).toList))], []⟩ (by kernel_rfl) (by kernel_rfl) ?_
                  exact At.fin () rfl rfl (by unfold subFr; kernel_rfl) rfl (fun _ _ _ _ h => h.2.1)
              · refine At.toJ (RowF.stable) RowF.fewer 0 100 [4, 43, 45, 51] 0 ⟨.ops (opsOf (sub B37 [1, 1, 1, 0, 1, 4, 4, 1, 0, 4, 1, 1, 1, 2, 0])) (((opsOf (sub B37 [1, 1, 1, 0, 1, 4, 4, 1, 0, 4, 1, 1, 1, 2, 0])).toList.drop 12).take 1), [.any (opsOf (sub B37 [1, 1, 1, 0, 1, 4, 4, 1, 0, 4, 1, 1, 1, 2, 0])) 4 [12, 14, 5, 11, 10, 9, 8, 7, 4, 3, 2, 1, 0]], [(4, .io .i64 (IntKind.i64.wrap y)), (43, .io .i64 (IntKind.i64.wrap (i + 1))), (45, .sl A1 n1 c1), (51, .sl (some (a.add (at0.toNat * 1))) ((i + 1).toNat - at0.toNat) (c - at0.toNat))], []⟩ (by kernel_rfl) (by kernel_rfl) ?_
                refine At.cvy (some (a.add (at0.toNat * 1))) ((i + 1).toNat - at0.toNat) (c - at0.toNat) (seen ++ [v]) (.so (strOf (seen ++ [v]))) (by kernel_rfl) RowF.stable (fun ρ => rfl) (fun ρ w1 hm hf => ⟨by simp only [List.length_append, List.length_singleton]; omega, fun h => (by cases h), fun a' ha' j b hj => ?_⟩) ?_
                · cases ha'
                  rw [Nat.mul_one, add_add]
                  exact (hb.below hm.below).2.2 a rfl _ _ (hpart j b hj)
                refine At.toJ (RowF.stable) RowF.fewer 0 100 [4, 43, 45, 52] 0 ⟨.any (opsOf (sub B37 [1, 1, 1, 0, 1, 4, 4, 1, 0, 4, 1, 1, 1, 2, 0])) 4 [12, 14, 5, 11, 10, 9, 8, 7, 4, 3, 2, 1, 0], [], [(4, .io .i64 (IntKind.i64.wrap y)), (43, .io .i64 (IntKind.i64.wrap (i + 1))), (45, .sl A1 n1 c1), (52, .so (strOf (seen ++ [v])))], []⟩ (by kernel_rfl) (by kernel_rfl) ?_
                refine At.fork [6, 15] rfl (by kernel_rfl) rfl (allOf.cons ?_ (allOf.cons ?_ allOf.nil))
                · refine At.toJ (RowF.stable) RowF.fewer 0 100 [4, 43, 45, 52] 0 ⟨.ops (opsOf (sub B37 [1, 1, 1, 0, 1, 4, 4, 1, 0, 4, 1, 1, 1, 2, 0])) (((opsOf (sub B37 [1, 1, 1, 0, 1, 4, 4, 1, 0, 4, 1, 1, 1, 2, 0])).toList.drop 6).take 1), [.any (opsOf (sub B37 [1, 1, 1, 0, 1, 4, 4, 1, 0, 4, 1, 1, 1, 2, 0])) 3 [6, 12, 14, 5, 11, 10, 9, 8, 7, 4, 3, 2, 1, 0]], [(4, .io .i64 (IntKind.i64.wrap y)), (43, .io .i64 (IntKind.i64.wrap (i + 1))), (45, .sl A1 n1 c1), (52, .so (strOf (seen ++ [v])))], []⟩ (by kernel_rfl) (by kernel_rfl) ?_
                  refine At.cvy A1 n1 c1 (leb y.toNat) (.so (strOf (leb y.toNat))) (by kernel_rfl) RowF.stable (fun ρ => rfl) (fun ρ w1 hm hf => row_cv hf.1.1) ?_
                  refine At.toJ (RowF.stable) RowF.fewer 0 100 [4, 43, 46, 52] 0 ⟨.any (opsOf (sub B37 [1, 1, 1, 0, 1, 4, 4, 1, 0, 4, 1, 1, 1, 2, 0])) 3 [6, 12, 14, 5, 11, 10, 9, 8, 7, 4, 3, 2, 1, 0], [], [(4, .io .i64 (IntKind.i64.wrap y)), (43, .io .i64 (IntKind.i64.wrap (i + 1))), (46, .so (strOf (leb y.toNat))), (52, .so (strOf (seen ++ [v])))], []⟩ (by kernel_rfl) (by kernel_rfl) ?_
                  refine At.fork [13, 15] rfl (by kernel_rfl) rfl (allOf.cons ?_ (allOf.cons ?_ allOf.nil))
                  · refine At.toJ (RowF.stable) RowF.fewer 0 100 [4, 5, 6] 0 ⟨.exit .normal, [], [(4, .io .i64 (IntKind.i64.wrap y)), (5, .io .i64 (IntKind.i64.wrap (i + 1))), (6, .bo ((strOf (leb y.toNat)).toList == (strOf (seen ++ [v])).toList))], []⟩ (by kernel_rfl) (by kernel_rfl) ?_
                    exact At.fin () rfl rfl (by unfold subFr; kernel_rfl) rfl (fun _ _ _ _ h => h.2.1)
                  · refine At.toJ (RowF.stable) RowF.fewer 0 100 [4, 5, 6] 0 ⟨.exit .normal, [], [(4, .io .i64 (IntKind.i64.wrap y)), (5, .io .i64 (IntKind.i64.wrap (i + 1))), (6, .bo ((strOf (leb y.toNat)).toList == (strOf (seen ++ [v])).toList))], []⟩ (by kernel_rfl) (by kernel_rfl) ?_
                    exact At.fin () rfl rfl (by unfold subFr; kernel_rfl) rfl (fun _ _ _ _ h => h.2.1)
                · refine At.toJ (RowF.stable) RowF.fewer 0 100 [4, 5, 45, 52] 0 ⟨.ops (opsOf (sub B37 [1, 1, 1, 0, 1, 4, 4, 1, 0, 4, 1, 1, 1, 2, 0])) (((opsOf (sub B37 [1, 1, 1, 0, 1, 4, 4, 1, 0, 4, 1, 1, 1, 2, 0])).toList.drop 6).take 1), [.any (opsOf (sub B37 [1, 1, 1, 0, 1, 4, 4, 1, 0, 4, 1, 1, 1, 2, 0])) 2 [6, 15, 12, 14, 5, 11, 10, 9, 8, 7, 4, 3, 2, 1, 0]], [(4, .io .i64 (IntKind.i64.wrap y)), (5, .io .i64 (IntKind.i64.wrap (i + 1))), (45, .sl A1 n1 c1), (52, .so (strOf (seen ++ [v])))], []⟩ (by kernel_rfl) (by kernel_rfl) ?_
                  refine At.cvy A1 n1 c1 (leb y.toNat) (.so (strOf (leb y.toNat))) (by kernel_rfl) RowF.stable (fun ρ => rfl) (fun ρ w1 hm hf => row_cv hf.1.1) ?_
                  refine At.toJ (RowF.stable) RowF.fewer 0 100 [4, 5, 6] 0 ⟨.exit .normal, [], [(4, .io .i64 (IntKind.i64.wrap y)), (5, .io .i64 (IntKind.i64.wrap (i + 1))), (6, .bo ((strOf (leb y.toNat)).toList == (strOf (seen ++ [v])).toList))], []⟩ (by kernel_rfl) (by kernel_rfl) ?_
                  exact At.fin () rfl rfl (by unfold subFr; kernel_rfl) rfl (fun _ _ _ _ h => h.2.1)
              · refine At.toJ (RowF.stable) RowF.fewer 0 100 [4, 5, 45, 51] 0 ⟨.any (opsOf (sub B37 [1, 1, 1, 0, 1, 4, 4, 1, 0, 4, 1, 1, 1, 2, 0])) 4 [15, 14, 5, 11, 10, 9, 8, 7, 4, 3, 2, 1, 0], [], [(4, .io .i64 (IntKind.i64.wrap y)), (5, .io .i64 (IntKind.i64.wrap (i + 1))), (45, .sl A1 n1 c1), (51, .sl (some (a.add (at0.toNat * 1))) ((i + 1).toNat - at0.toNat) (c - at0.toNat))], []⟩ (by kernel_rfl) (by kernel_rfl) ?_
                refine At.fork [6, 12] rfl (by kernel_rfl) rfl (allOf.cons ?_ (allOf.cons ?_ allOf.nil))
                · refine At.toJ (RowF.stable) RowF.fewer 0 100 [4, 5, 45, 51] 0 ⟨.ops (opsOf (sub B37 [1, 1, 1, 0, 1, 4, 4, 1, 0, 4, 1, 1, 1, 2, 0])) (((opsOf (sub B37 [1, 1, 1, 0, 1, 4, 4, 1, 0, 4, 1, 1, 1, 2, 0])).toList.drop 6).take 1), [.any (opsOf (sub B37 [1, 1, 1, 0, 1, 4, 4, 1, 0, 4, 1, 1, 1, 2, 0])) 3 [6, 15, 14, 5, 11, 10, 9, 8, 7, 4, 3, 2, 1, 0]], [(4, .io .i64 (IntKind.i64.wrap y)), (5, .io .i64 (IntKind.i64.wrap (i + 1))), (45, .sl A1 n1 c1), (51, .sl (some (a.add (at0.toNat * 1))) ((i + 1).toNat - at0.toNat) (c - at0.toNat))], []⟩ (by kernel_rfl) (by kernel_rfl) ?_
                  refine At.cvy A1 n1 c1 (leb y.toNat) (.so (strOf (leb y.toNat))) (by kernel_rfl) RowF.stable (fun ρ => rfl) (fun ρ w1 hm hf => row_cv hf.1.1) ?_
                  refine At.toJ (RowF.stable) RowF.fewer 0 100 [4, 5, 46, 51] 0 ⟨.ops (opsOf (sub B37 [1, 1, 1, 0, 1, 4, 4, 1, 0, 4, 1, 1, 1, 2, 0])) (((opsOf (sub B37 [1, 1, 1, 0, 1, 4, 4, 1, 0, 4, 1, 1, 1, 2, 0])).toList.drop 12).take 1), [.any (opsOf (sub B37 [1, 1, 1, 0, 1, 4, 4, 1, 0, 4, 1, 1, 1, 2, 0])) 2 [12, 6, 15, 14, 5, 11, 10, 9, 8, 7, 4, 3, 2, 1, 0]], [(4, .io .i64 (IntKind.i64.wrap y)), (5, .io .i64 (IntKind.i64.wrap (i + 1))), (46, .so (strOf (leb y.toNat))), (51, .sl (some (a.add (at0.toNat * 1))) ((i + 1).toNat - at0.toNat) (c - at0.toNat))], []⟩ (by kernel_rfl) (by kernel_rfl) ?_
                  refine At.cvy (some (a.add (at0.toNat * 1))) ((i + 1).toNat - at0.toNat) (c - at0.toNat) (seen ++ [v]) (.so (strOf (seen ++ [v]))) (by kernel_rfl) RowF.stable (fun ρ => rfl) (fun ρ w1 hm hf => ⟨by simp only [List.length_append, List.length_singleton]; omega, fun h => (by cases h), fun a' ha' j b hj => ?_⟩) ?_
                  · cases ha'
                    rw [Nat.mul_one, add_add]
                    exact (hb.below hm.below).2.2 a rfl _ _ (hpart j b hj)
                  refine At.toJ (RowF.stable) RowF.fewer 0 100 [4, 5, 6] 0 ⟨.exit .normal, [], [(4, .io .i64 (IntKind.i64.wrap y)), (5, .io .i64 (IntKind.i64.wrap (i + 1))), (6, .bo ((strOf (leb y.toNat)).toList == (strOf (seen ++ [v])).toList))], []⟩ (by kernel_rfl) (by kernel_rfl) ?_
                  exact At.fin () rfl rfl (by unfold subFr; kernel_rfl) rfl (fun _ _ _ _ h => h.2.1)
                · refine At.toJ (RowF.stable) RowF.fewer 0 100 [4, 5, 45, 51] 0 ⟨.ops (opsOf (sub B37 [1, 1, 1, 0, 1, 4, 4, 1, 0, 4, 1, 1, 1, 2, 0])) (((opsOf (sub B37 [1, 1, 1, 0, 1, 4, 4, 1, 0, 4, 1, 1, 1, 2, 0])).toList.drop 12).take 1), [.any (opsOf (sub B37 [1, 1, 1, 0, 1, 4, 4, 1, 0, 4, 1, 1, 1, 2, 0])) 3 [12, 15, 14, 5, 11, 10, 9, 8, 7, 4, 3, 2, 1, 0]], [(4, .io .i64 (IntKind.i64.wrap y)), (5, .io .i64 (IntKind.i64.wrap (i + 1))), (45, .sl A1 n1 c1), (51, .sl (some (a.add (at0.toNat * 1))) ((i + 1).toNat - at0.toNat) (c - at0.toNat))], []⟩ (by kernel_rfl) (by kernel_rfl) ?_
                  refine At.cvy (some (a.add (at0.toNat * 1))) ((i + 1).toNat - at0.toNat) (c - at0.toNat) (seen ++ [v]) (.so (strOf (seen ++ [v]))) (by kernel_rfl) RowF.stable (fun ρ => rfl) (fun ρ w1 hm hf => ⟨by simp only [List.length_append, List.length_singleton]; omega, fun h => (by cases h), fun a' ha' j b hj => ?_⟩) ?_
                  · cases ha'
                    rw [Nat.mul_one, add_add]
                    exact (hb.below hm.below).2.2 a rfl _ _ (hpart j b hj)
                  refine At.toJ (RowF.stable) RowF.fewer 0 100 [4, 5, 45, 52] 0 ⟨.ops (opsOf (sub B37 [1, 1, 1, 0, 1, 4, 4, 1, 0, 4, 1, 1, 1, 2, 0])) (((opsOf (sub B37 [1, 1, 1, 0, 1, 4, 4, 1, 0, 4, 1, 1, 1, 2, 0])).toList.drop 6).take 1), [.any (opsOf (sub B37 [1, 1, 1, 0, 1, 4, 4, 1, 0, 4, 1, 1, 1, 2, 0])) 2 [6, 12, 15, 14, 5, 11, 10, 9, 8, 7, 4, 3, 2, 1, 0]], [(4, .io .i64 (IntKind.i64.wrap y)), (5, .io .i64 (IntKind.i64.wrap (i + 1))), (45, .sl A1 n1 c1), (52, .so (strOf (seen ++ [v])))], []⟩ (by kernel_rfl) (by kernel_rfl) ?_
                  refine At.cvy A1 n1 c1 (leb y.toNat) (.so (strOf (leb y.toNat))) (by kernel_rfl) RowF.stable (fun ρ => rfl) (fun ρ w1 hm hf => row_cv hf.1.1) ?_
                  refine At.toJ (RowF.stable) RowF.fewer 0 100 [4, 5, 6] 0 ⟨.exit .normal, [], [(4, .io .i64 (IntKind.i64.wrap y)), (5, .io .i64 (IntKind.i64.wrap (i + 1))), (6, .bo ((strOf (leb y.toNat)).toList == (strOf (seen ++ [v])).toList))], []⟩ (by kernel_rfl) (by kernel_rfl) ?_
                  exact At.fin () rfl rfl (by unfold subFr; kernel_rfl) rfl (fun _ _ _ _ h => h.2.1)
          · refine At.toJ (RowF.stable) RowF.fewer 0 100 [41, 43, 44, 51] 0 ⟨.ops (opsOf (sub B37 [1, 1, 1, 0, 1, 4, 4, 1, 0, 4, 1, 1, 1, 2, 0])) (((opsOf (sub B37 [1, 1, 1, 0, 1, 4, 4, 1, 0, 4, 1, 1, 1, 2, 0])).toList.drop 12).take 1), [.any (opsOf (sub B37 [1, 1, 1, 0, 1, 4, 4, 1, 0, 4, 1, 1, 1, 2, 0])) 6 [12, 11, 10, 9, 8, 7, 4, 3, 2, 1, 0]], [(41, .io .i64 (IntKind.i64.wrap y)), (43, .io .i64 (IntKind.i64.wrap (i + 1))), (44, .io IntKind.u64 y), (51, .sl (some (a.add (at0.toNat * 1))) ((i + 1).toNat - at0.toNat) (c - at0.toNat))], []⟩ (by kernel_rfl) (by kernel_rfl) ?_
            refine At.cvy (some (a.add (at0.toNat * 1))) ((i + 1).toNat - at0.toNat) (c - at0.toNat) (seen ++ [v]) (.so (strOf (seen ++ [v]))) (by kernel_rfl) RowF.stable (fun ρ => rfl) (fun ρ w1 hm hf => ⟨by simp only [List.length_append, List.length_singleton]; omega, fun h => (by cases h), fun a' ha' j b hj => ?_⟩) ?_
            · cases ha'
              rw [Nat.mul_one, add_add]
              exact (hb.below hm.below).2.2 a rfl _ _ (hpart j b hj)
            refine At.toJ (RowF.stable) RowF.fewer 0 100 [41, 43, 44, 52] 0 ⟨.ops (opsOf (sub B37 [1, 1, 1, 0, 1, 4, 4, 1, 0, 4, 1, 1, 1, 2, 0])) (((opsOf (sub B37 [1, 1, 1, 0, 1, 4, 4, 1, 0, 4, 1, 1, 1, 2, 0])).toList.drop 5).take 1), [.any (opsOf (sub B37 [1, 1, 1, 0, 1, 4, 4, 1, 0, 4, 1, 1, 1, 2, 0])) 5 [5, 12, 11, 10, 9, 8, 7, 4, 3, 2, 1, 0]], [(41, .io .i64 (IntKind.i64.wrap y)), (43, .io .i64 (IntKind.i64.wrap (i + 1))), (44, .io IntKind.u64 y), (52, .so (strOf (seen ++ [v])))], []⟩ (by kernel_rfl) (by kernel_rfl) ?_
            refine At.mkrow (base := w.heap.size) (e := 5) (size := 1) 62 [.io IntKind.u64 y] (fun _ => False) [] (bv (leb y.toNat)) (by kernel_rfl) (by kernel_rfl) (by kernel_rfl) (by kernel_rfl) (by kernel_rfl) (fun ρ w h => h.2.1) (Nat.le_refl _) (fun ρ w1 hm hf => rnumber_any y hy0 (by omega) w1 hly) ?_
            intro A1 n1 c1
            refine At.toJ (RowF.stable) RowF.fewer 0 100 [41, 43, 45, 52] 0 ⟨.any (opsOf (sub B37 [1, 1, 1, 0, 1, 4, 4, 1, 0, 4, 1, 1, 1, 2, 0])) 5 [5, 12, 11, 10, 9, 8, 7, 4, 3, 2, 1, 0], [], [(41, .io .i64 (IntKind.i64.wrap y)), (43, .io .i64 (IntKind.i64.wrap (i + 1))), (45, .sl A1 n1 c1), (52, .so (strOf (seen ++ [v])))], []⟩ (by kernel_rfl) (by kernel_rfl) ?_
            refine At.fork [6, 14] rfl (by kernel_rfl) rfl (allOf.cons ?_ (allOf.cons ?_ allOf.nil))
            · refine At.toJ (RowF.stable) RowF.fewer 0 100 [41, 43, 45, 52] 0 ⟨.ops (opsOf (sub B37 [1, 1, 1, 0, 1, 4, 4, 1, 0, 4, 1, 1, 1, 2, 0])) (((opsOf (sub B37 [1, 1, 1, 0, 1, 4, 4, 1, 0, 4, 1, 1, 1, 2, 0])).toList.drop 6).take 1), [.any (opsOf (sub B37 [1, 1, 1, 0, 1, 4, 4, 1, 0, 4, 1, 1, 1, 2, 0])) 4 [6, 5, 12, 11, 10, 9, 8, 7, 4, 3, 2, 1, 0]], [(41, .io .i64 (IntKind.i64.wrap y)), (43, .io .i64 (IntKind.i64.wrap (i + 1))), (45, .sl A1 n1 c1), (52, .so (strOf (seen ++ [v])))], []⟩ (by kernel_rfl) (by kernel_rfl) ?_
              refine At.cvy A1 n1 c1 (leb y.toNat) (.so (strOf (leb y.toNat))) (by kernel_rfl) RowF.stable (fun ρ => rfl) (fun ρ w1 hm hf => row_cv hf.1.1) ?_
              refine At.toJ (RowF.stable) RowF.fewer 0 100 [41, 43, 46, 52] 0 ⟨.any (opsOf (sub B37 [1, 1, 1, 0, 1, 4, 4, 1, 0, 4, 1, 1, 1, 2, 0])) 4 [6, 5, 12, 11, 10, 9, 8, 7, 4, 3, 2, 1, 0], [], [(41, .io .i64 (IntKind.i64.wrap y)), (43, .io .i64 (IntKind.i64.wrap (i + 1))), (46, .so (strOf (leb y.toNat))), (52, .so (strOf (seen ++ [v])))], []⟩ (by kernel_rfl) (by kernel_rfl) ?_
              refine At.fork [13, 14] rfl (by kernel_rfl) rfl (allOf.cons ?_ (allOf.cons ?_ allOf.nil))
              · refine At.toJ (RowF.stable) RowF.fewer 0 100 [4, 5, 6] 0 ⟨.exit .normal, [], [(4, .io .i64 (IntKind.i64.wrap y)), (5, .io .i64 (IntKind.i64.wrap (i + 1))), (6, .bo ((strOf (leb y.toNat)).toList == (strOf (seen ++ [v])).toList))], []⟩ (by kernel_rfl) (by kernel_rfl) ?_
                exact At.fin () rfl rfl (by unfold subFr; kernel_rfl) rfl (fun _ _ _ _ h => h.2.1)
              · refine At.toJ (RowF.stable) RowF.fewer 0 100 [4, 43, 46, 52] 0 ⟨.any (opsOf (sub B37 [1, 1, 1, 0, 1, 4, 4, 1, 0, 4, 1, 1, 1, 2, 0])) 3 [14, 6, 5, 12, 11, 10, 9, 8, 7, 4, 3, 2, 1, 0], [], [(4, .io .i64 (IntKind.i64.wrap y)), (43, .io .i64 (IntKind.i64.wrap (i + 1))), (46, .so (strOf (leb y.toNat))), (52, .so (strOf (seen ++ [v])))], []⟩ (by kernel_rfl) (by kernel_rfl) ?_
                refine At.fork [13, 15] rfl (by kernel_rfl) rfl (allOf.cons ?_ (allOf.cons ?_ allOf.nil))
                · refine At.toJ (RowF.stable) RowF.fewer 0 100 [4, 5, 6] 0 ⟨.exit .normal, [], [(4, .io .i64 (IntKind.i64.wrap y)), (5, .io .i64 (IntKind.i64.wrap (i + 1))), (6, .bo ((strOf (leb y.toNat)).toList == (strOf (seen ++ [v])).toList))], []⟩ (by kernel_rfl) (by kernel_rfl) ?_
                  exact At.fin () rfl rfl (by unfold subFr; kernel_rfl) rfl (fun _ _ _ _ h => h.2.1)
                · refine At.toJ (RowF.stable) RowF.fewer 0 100 [4, 5, 6] 0 ⟨.exit .normal, [], [(4, .io .i64 (IntKind.i64.wrap y)), (5, .io .i64 (IntKind.i64.wrap (i + 1))), (6, .bo ((strOf (leb y.toNat)).toList == (strOf (seen ++ [v])).toList))], []⟩ (by kernel_rfl) (by kernel_rfl) ?_
                  exact At.fin () rfl rfl (by unfold subFr; kernel_rfl) rfl (fun _ _ _ _ h => h.2.1)
            · refine At.toJ (RowF.stable) RowF.fewer 0 100 [4, 43, 45, 52] 0 ⟨.any (opsOf (sub B37 [1, 1, 1, 0, 1, 4, 4, 1, 0, 4, 1, 1, 1, 2, 0])) 4 [14, 5, 12, 11, 10, 9, 8, 7, 4, 3, 2, 1, 0], [], [(4, .io .i64 (IntKind.i64.wrap y)), (43, .io .i64 (IntKind.i64.wrap (i + 1))), (45, .sl A1 n1 c1), (52, .so (strOf (seen ++ [v])))], []⟩ (by kernel_rfl) (by kernel_rfl) ?_
              refine At.fork [6, 15] rfl (by kernel_rfl) rfl (allOf.cons ?_ (allOf.cons ?_ allOf.nil))
              · refine At.toJ (RowF.stable) RowF.fewer 0 100 [4, 43, 45, 52] 0 ⟨.ops (opsOf (sub B37 [1, 1, 1, 0, 1, 4, 4, 1, 0, 4, 1, 1, 1, 2, 0])) (((opsOf (sub B37 [1, 1, 1, 0, 1, 4, 4, 1, 0, 4, 1, 1, 1, 2, 0])).toList.drop 6).take 1), [.any (opsOf (sub B37 [1, 1, 1, 0, 1, 4, 4, 1, 0, 4, 1, 1, 1, 2, 0])) 3 [6, 14, 5, 12, 11, 10, 9, 8, 7, 4, 3, 2, 1, 0]], [(4, .io .i64 (IntKind.i64.wrap y)), (43, .io .i64 (IntKind.i64.wrap (i + 1))), (45, .sl A1 n1 c1), (52, .so (strOf (seen ++ [v])))], []⟩ (by kernel_rfl) (by kernel_rfl) ?_
                refine At.cvy A1 n1 c1 (leb y.toNat) (.so (strOf (leb y.toNat))) (by kernel_rfl) RowF.stable (fun ρ => rfl) (fun ρ w1 hm hf => row_cv hf.1.1) ?_
                refine At.toJ (RowF.stable) RowF.fewer 0 100 [4, 43, 46, 52] 0 ⟨.any (opsOf (sub B37 [1, 1, 1, 0, 1, 4, 4, 1, 0, 4, 1, 1, 1, 2, 0])) 3 [6, 14, 5, 12, 11, 10, 9, 8, 7, 4, 3, 2, 1, 0], [], [(4, .io .i64 (IntKind.i64.wrap y)), (43, .io .i64 (IntKind.i64.wrap (i + 1))), (46, .so (strOf (leb y.toNat))), (52, .so (strOf (seen ++ [v])))], []⟩ (by kernel_rfl) (by kernel_rfl) ?_
                refine At.fork [13, 15] rfl (by kernel_rfl) rfl (allOf.cons ?_ (allOf.cons ?_ allOf.nil))
                · refine At.toJ (RowF.stable) RowF.fewer 0 100 [4, 5, 6] 0 ⟨.exit .normal, [], [(4, .io .i64 (IntKind.i64.wrap y)), (5, .io .i64 (IntKind.i64.wrap (i + 1))), (6, .bo ((strOf (leb y.toNat)).toList == (strOf (seen ++ [v])).toList))], []⟩ (by kernel_rfl) (by kernel_rfl) ?_
                  exact At.fin () rfl rfl (by unfold subFr; kernel_rfl) rfl (fun _ _ _ _ h => h.2.1)
                · refine At.toJ (RowF.stable) RowF.fewer 0 100 [4, 5, 6] 0 ⟨.exit .normal, [], [(4, .io .i64 (IntKind.i64.wrap y)), (5, .io .i64 (IntKind.i64.wrap (i + 1))), (6, .bo ((strOf (leb y.toNat)).toList == (strOf (seen ++ [v])).toList))], []⟩ (by kernel_rfl) (by kernel_rfl) ?_
                  exact At.fin () rfl rfl (by unfold subFr; kernel_rfl) rfl (fun _ _ _ _ h => h.2.1)
              · refine At.toJ (RowF.stable) RowF.fewer 0 100 [4, 5, 45, 52] 0 ⟨.ops (opsOf (sub B37 [1, 1, 1, 0, 1, 4, 4, 1, 0, 4, 1, 1, 1, 2, 0])) (((opsOf (sub B37 [1, 1, 1, 0, 1, 4, 4, 1, 0, 4, 1, 1, 1, 2, 0])).toList.drop 6).take 1), [.any (opsOf (sub B37 [1, 1, 1, 0, 1, 4, 4, 1, 0, 4, 1, 1, 1, 2, 0])) 2 [6, 15, 14, 5, 12, 11, 10, 9, 8, 7, 4, 3, 2, 1, 0]], [(4, .io .i64 (IntKind.i64.wrap y)), (5, .io .i64 (IntKind.i64.wrap (i + 1))), (45, .sl A1 n1 c1), (52, .so (strOf (seen ++ [v])))], []⟩ (by kernel_rfl) (by kernel_rfl) ?_
                refine At.cvy A1 n1 c1 (leb y.toNat) (.so (strOf (leb y.toNat))) (by kernel_rfl) RowF.stable (fun ρ => rfl) (fun ρ w1 hm hf => row_cv hf.1.1) ?_
                refine At.toJ (RowF.stable) RowF.fewer 0 100 [4, 5, 6] 0 ⟨.exit .normal, [], [(4, .io .i64 (IntKind.i64.wrap y)), (5, .io .i64 (IntKind.i64.wrap (i + 1))), (6, .bo ((strOf (leb y.toNat)).toList == (strOf (seen ++ [v])).toList))], []⟩ (by kernel_rfl) (by kernel_rfl) ?_
                exact At.fin () rfl rfl (by unfold subFr; kernel_rfl) rfl (fun _ _ _ _ h => h.2.1)
        · refine At.toJ (FrameR.stable) FrameR.fewer 0 100 [4, 5, 6] 0 ⟨.exit .ret, [], [(4, .io .i64 (IntKind.i64.wrap y)), (5, .io .i64 (IntKind.i64.wrap (i + 1))), (6, .bo ((strOf (leb y.toNat)).toList == (strOf (seen ++ [v])).toList))], []⟩ (by kernel_rfl) (by kernel_rfl) ?_
          refine At.ret (by kernel_rfl) (.tup [.io .i64 (IntKind.i64.wrap y), .io .i64 (IntKind.i64.wrap (i + 1)), .bo ((strOf (leb y.toNat)).toList == (strOf (seen ++ [v])).toList)]) (by kernel_rfl) ?_
          intro ρ w9 hm hf
          exact ⟨by rw [← h7, hw1]; rfl, hm.below⟩
      · refine At.res 39 (decide ((↑v : Int) < 128)) false (by kernel_rfl) b0 ?_
        refine At.toJ (FrameR.stable) FrameR.fewer 0 100 [0, 1, 7, 8, 9] 0 ⟨.exit .normal, [.next (Sx.Next w.heap.size w Tryd.f37.ntmps (frRf (some a) n c at0) (fun x => []) (GRf w bs at0 R) (fun s => 8 - s.seen.length) (RfSt.mk i x wt seen)), .block 0, .seq (sub B37 [1, 1, 1, 1])], [(0, .sl (some a) n c), (1, .io .i64 at0), (7, .io IntKind.u64 (IntKind.u64.wrap (x + IntKind.u64.wrap (IntKind.u64.wrap ((↑v : Int).tmod 128) * wt)))), (8, .io IntKind.u64 (IntKind.u64.wrap (wt * 128))), (9, .io .i64 (IntKind.i64.wrap (i + 1)))], []⟩ (by kernel_rfl) (by kernel_rfl) ?_
        have hwt : wt ≤ 562949953421312 := by rw [h4]; exact pow128 _ hk
        rw [r_step h5 h6 hwt]
        obtain ⟨hm1, hm2⟩ := r_mul (v := v) (wt := wt) (by omega)
        have hdr : bs.drop i.toNat = v :: bs.drop (i.toNat + 1) := drop_at hv
        have h8k : 8 - seen.length = (7 - seen.length) + 1 := by omega
        have hk' : (bs.drop at0.toNat)[seen.length]? = some v := by rw [List.getElem?_drop, show at0.toNat + seen.length = i.toNat by omega]; exact hv
        have hseen : (bs.drop at0.toNat).take (seen.length + 1) = seen ++ [v] := by rw [List.take_add_one, h3, hk']; rfl
        have hw1 : IntKind.i64.wrap (i + 1) = i + 1 := wrap63 (by omega) (by omega)
        rw [hdr, h8k] at h7
        rw [rf_cons, b0] at h7

        simp only [cond_false] at h7
        rw [hw1, wrapu (x := wt * 128) (by omega) (by omega)]
        refine At.next (σ := RfSt) (RfSt.mk (i + 1) (x + ((v % 128 : Nat) : Int) * wt) (wt * 128) (seen ++ [v])) rfl rfl (by unfold subFr; kernel_rfl) (by kernel_rfl) ?_ ?_
        · intro ρ a w hi hf
          have hl1 : (seen ++ [v]).length = seen.length + 1 := by simp
          refine ⟨hf, ?_, ?_, ?_, ?_, ?_, ?_, ?_⟩
          · simp only [hl1]; omega
          · simp only [hl1]; omega
          · simp only [hl1]; exact hseen
          · simp only [hl1]; rw [Int.pow_succ, ← h4]
          · simp only; omega
          · simp only; omega
          · simp only [hl1]
            rw [show 8 - (seen.length + 1) = 7 - seen.length by omega, show (i + 1).toNat = i.toNat + 1 by omega]
            exact h7
        · simp only [List.length_append, List.length_singleton]; omega
    · refine At.res 20 (decide (i < IntKind.i64.wrap (at0 + 8))) false (by kernel_rfl) b1 ?_
      refine At.toJ (FrameR.stable) FrameR.fewer 0 100 [4, 5, 6] 0 ⟨.exit .ret, [], [(4, .v (.int .i64 0)), (5, .v (.int .i64 0)), (6, .v (.bool false))], []⟩ (by kernel_rfl) (by kernel_rfl) ?_
      refine At.ret (by kernel_rfl) (.tup [.v (.int .i64 0), .v (.int .i64 0), .v (.bool false)]) (by kernel_rfl) ?_
      have h8 : ¬ i < at0 + 8 := by rw [wrap63 (by omega) (by omega)] at b1; exact of_decide_eq_false b1
      have hk : seen.length = 8 := by omega
      rw [hk] at h7
      intro ρ w9 hm hf
      exact ⟨by rw [← h7]; rfl, hm.below⟩
  · refine At.res 15 (decide ((RfSt.mk i x wt seen).i < (↑n : Int))) false (by kernel_rfl) b0 ?_
    refine At.toJ (FrameR.stable) FrameR.fewer 0 100 [4, 5, 6] 0 ⟨.exit .ret, [], [(4, .v (.int .i64 0)), (5, .v (.int .i64 0)), (6, .v (.bool false))], []⟩ (by kernel_rfl) (by kernel_rfl) ?_
    refine At.ret (by kernel_rfl) (.tup [.v (.int .i64 0), .v (.int .i64 0), .v (.bool false)]) (by kernel_rfl) ?_
    have hi : ¬ i < n := of_decide_eq_false b0
    have hd : bs.drop i.toNat = [] := List.drop_eq_nil_of_le (by omega)
    rw [hd] at h7
    intro ρ w9 hm hf
    refine ⟨?_, hm.below⟩
    rw [← h7]
    cases 8 - seen.length <;> rfl

end Go.Proofs.YtiehnigbcfkcdaaDoor
