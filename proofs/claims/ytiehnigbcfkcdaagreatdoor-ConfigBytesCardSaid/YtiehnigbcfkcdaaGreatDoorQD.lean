import Derived.Test.YtiehnigbcfkcdaaGreatDoorQC
import Derived.Test.YtiehnigbcfkcdaaGreatDoorPB
set_option linter.unusedSimpArgs false
set_option linter.unusedVariables false
namespace Go.Proofs.YtiehnigbcfkcdaaGreatDoor
open Go.RowKit Go.Sx

theorem wrapu {x : Int} (h0 : 0 ≤ x) (h1 : x < 18446744073709551616) : IntKind.u64.wrap x = x := by
  simp only [IntKind.wrap, IntKind.bits, IntKind.signed]
  simp
  omega
theorem pow128 : ∀ k : Nat, k < 8 → (128 : Int) ^ k ≤ 562949953421312
  | 0, _ | 1, _ | 2, _ | 3, _ | 4, _ | 5, _ | 6, _ | 7, _ => by decide
  | k + 8, h => by omega
theorem r_mul {v : Nat} {wt : Int} (hw : 0 ≤ wt) : 0 ≤ ((v % 128 : Nat) : Int) * wt ∧ ((v % 128 : Nat) : Int) * wt ≤ 127 * wt :=
  ⟨Int.mul_nonneg (by omega) hw, Int.mul_le_mul_of_nonneg_right (by omega) hw⟩
theorem r_step {v : Nat} {x wt : Int} (hx0 : 0 ≤ x) (hx : x < wt) (hwt : wt ≤ 562949953421312) : IntKind.u64.wrap (x + IntKind.u64.wrap (IntKind.u64.wrap ((v : Int).tmod 128) * wt)) = x + ((v % 128 : Nat) : Int) * wt := by
  have h1 : (v : Int).tmod 128 = ((v % 128 : Nat) : Int) := by
    rw [Int.tmod_eq_emod_of_nonneg (by omega)]
    omega
  rw [h1, wrapu (x := ((v % 128 : Nat) : Int)) (by omega) (by omega)]
  obtain ⟨h2, h3⟩ := r_mul (v := v) (wt := wt) (by omega)
  rw [wrapu (x := ((v % 128 : Nat) : Int) * wt) h2 (by omega), wrapu (by omega) (by omega)]


def frRn (s : NumSt) : Fr := [(0, .io .u64 s.x), (3, .sl s.A s.n s.c)]
def GRn (w0 : World) (base : Nat) (l : List Value) (k : Nat) (s : NumSt) (ρ : List Nat) (w : World) : Prop :=
  RowF w0 (fun _ => False) [] base 5 1 s.A s.n s.c s.xs ρ w ∧ (0 ≤ s.x ∧ s.x < 18446744073709551616 ∧ s.xs ++ bv (leb s.x.toNat) = l ∧ s.n + (leb s.x.toNat).length = k)
theorem r_byte {y : Int} (h : 0 ≤ y) : IntKind.u8.wrap (IntKind.u8.wrap (y.tmod 128) + 128) = ((y.toNat % 128 + 128 : Nat) : Int) := by
  rw [Int.tmod_eq_emod_of_nonneg h]
  simp only [IntKind.wrap, IntKind.bits, IntKind.signed]
  simp
  omega
theorem r_quo {y : Int} (h : 0 ≤ y) (h2 : y < 18446744073709551616) : IntKind.u64.wrap (y.tdiv 128) = ((y.toNat / 128 : Nat) : Int) := by
  rw [Int.tdiv_eq_ediv_of_nonneg h]
  simp only [IntKind.wrap, IntKind.bits, IntKind.signed]
  simp
  omega

noncomputable def B39 : Code := (Tryz.f39.body).getD .skip
set_option maxHeartbeats 4000000 in
set_option maxRecDepth 100000 in
theorem rnumber_any (x : Int) (hx : 0 ≤ x) (hx2 : x < 18446744073709551616) (w : World) (hn : (leb x.toNat).length ≤ 140737488355328) :
    Calls Tryz.prog 39 #[.int .u64 x] w fun e w' => ∃ A' n' c', e = .returned (.slice A' n' c') ∧ RowF w (fun _ => False) [] w.heap.size 5 1 A' n' c' (bv (leb x.toNat)) [] w' := by
  refine enterF (N := w.heap.size) (F := RowF w (fun _ => False) [] w.heap.size 5 1 none 0 0 []) (fn := Tryz.f39) (c := B39) [.io .u64 x] Tryz.func39 rfl rfl (Nat.le_refl _) ⟨⟨⟨World.ownsRow_nil _ _ _ _, by simp [Value.ownBlock]⟩, Nat.le_refl _⟩, FrameR.start _ [] (by simp), by simp [Value.ownBlock]⟩ ?_
  refine At.toJ (RowF.stable) RowF.fewer 0 100 [0, 3] 0 ⟨.code (sub B39 [1, 1, 0, 4]), [.block 0, .seq (sub B39 [1, 1, 1])], [(0, .io IntKind.u64 x), (3, .v (.slice none 0 0))], []⟩ (by kernel_rfl) (by kernel_rfl) ?_
  refine At.slFr _ rfl ?_
  refine At.loop (σ := NumSt) (sub B39 [1,1,0,4,4]) frRn (fun _ => []) (GRn w w.heap.size ([] ++ bv (leb x.toNat)) (0 + (leb x.toNat).length)) (fun s => s.x.toNat) ⟨none, 0, 0, [], x⟩ (by kernel_rfl) (by unfold subFr; kernel_rfl) (by kernel_rfl) (fun _ _ _ _ h => ⟨h, hx, hx2, rfl, rfl⟩) ?_
  rw [List.nil_append, Nat.zero_add]
  generalize hl : bv (leb x.toNat) = l
  generalize hk : (leb x.toNat).length = k at hn ⊢
  clear hx hx2 hl hk
  rintro ⟨A, n, c, ys, y⟩
  refine At.pure fun ⟨hy, hy2, hl, hk⟩ => ?_
  simp only at hy hy2 hl hk ⊢
  have hpos := leb_pos y.toNat
  refine At.toJ (RowF.stable) RowF.fewer 0 100 [0, 3, 5] 0 ⟨.code (sub B39 [1, 1, 0, 4, 4, 0, 1]), [.seq (sub B39 [1, 1, 0, 4, 4, 1]), .next (Sx.Next w.heap.size w Tryz.f39.ntmps frRn (fun x => []) (GRn w w.heap.size l k) (fun s => s.x.toNat) (NumSt.mk A n c ys y)), .block 0, .seq (sub B39 [1, 1, 1])], [(0, .io IntKind.u64 y), (3, .sl A n c), (5, .bo (decide ((NumSt.mk A n c ys y).x > 127)))], []⟩ (by kernel_rfl) (by kernel_rfl) ?_
  rcases Bool.eq_false_or_eq_true (decide ((NumSt.mk A n c ys y).x > 127)) with b0 | b0
  · refine At.res 5 (decide ((NumSt.mk A n c ys y).x > 127)) true (by kernel_rfl) b0 ?_
    refine At.toJ (RowF.stable) RowF.fewer 0 100 [0, 6, 11] 1 ⟨pops B39 [1, 1, 0, 4, 4, 1, 4, 0] 6, [.seq (sub B39 [1, 1, 0, 4, 4, 1, 4, 1]), .block 1, .next (Sx.Next w.heap.size w Tryz.f39.ntmps frRn (fun x => []) (GRn w w.heap.size l k) (fun s => s.x.toNat) (NumSt.mk A n c ys y)), .block 0, .seq (sub B39 [1, 1, 1])], [(0, .io IntKind.u64 y), (6, .sl A n c), (11, .ls 0 0 1 1)], [([.io IntKind.u8 (IntKind.u8.wrap (IntKind.u8.wrap (y.tmod 128) + 128))], 5)]⟩ (by kernel_rfl) (by kernel_rfl) ?_
    refine At.app (33) (5) (1) (1) (A) (n) (c) (1) ([.io IntKind.u8 (IntKind.u8.wrap (IntKind.u8.wrap (y.tmod 128) + 128))]) _ _ _ _ ([.int IntKind.u8 (IntKind.u8.wrap (IntKind.u8.wrap (y.tmod 128) + 128))]) (by kernel_rfl) (fun ρ => by kernel_rfl) (by first | omega | (simp only [Go.maxLen]; omega)) (by first | omega | (simp only [Go.maxLen]; omega)) (by first | omega | (simp only [Go.maxLen]; omega)) fun A1 c1 => ?_
    refine At.toJ (RowF.stable) RowF.fewer 0 100 [0, 3] 0 ⟨.exit .normal, [.next (Sx.Next w.heap.size w Tryz.f39.ntmps frRn (fun x => []) (GRn w w.heap.size l k) (fun s => s.x.toNat) (NumSt.mk A n c ys y)), .block 0, .seq (sub B39 [1, 1, 1])], [(0, .io IntKind.u64 (IntKind.u64.wrap (y.tdiv 128))), (3, .sl A1 (n + 1) c1)], []⟩ (by kernel_rfl) (by kernel_rfl) ?_
    have hy127 : 127 < y := by simpa using b0
    have hbig : leb y.toNat = _ := leb_big (x := y.toNat) (by omega)
    rw [r_byte hy, r_quo hy hy2]
    refine At.next (σ := NumSt) (NumSt.mk A1 (n + 1) c1 (ys ++ [.int .u8 ((y.toNat % 128 + 128 : Nat) : Int)]) ((y.toNat / 128 : Nat) : Int)) rfl rfl (by unfold subFr; kernel_rfl) (by kernel_rfl) ?_ ?_
    · intro ρ a w hi hf
      refine ⟨hf, ?_, ?_, ?_, ?_⟩
      · simp only; omega
      · simp only; omega
      · simp only [Int.toNat_natCast, List.append_assoc, List.cons_append, List.nil_append]
        rw [← hl, hbig, bv_cons]
      · simp only [Int.toNat_natCast]
        rw [← hk, hbig, List.length_cons]; omega
    · simp only [Int.toNat_natCast]; omega
  · refine At.res 5 (decide ((NumSt.mk A n c ys y).x > 127)) false (by kernel_rfl) b0 ?_
    refine At.toJ (RowF.stable) RowF.fewer 0 100 [15, 18] 1 ⟨pops B39 [1, 1, 1, 0] 4, [.seq (sub B39 [1, 1, 1, 1])], [(15, .sl A n c), (18, .ls 0 0 1 1)], [([.io IntKind.u8 (IntKind.u8.wrap y)], 5)]⟩ (by kernel_rfl) (by kernel_rfl) ?_
    refine At.app (33) (5) (1) (1) (A) (n) (c) (1) ([.io IntKind.u8 (IntKind.u8.wrap y)]) _ _ _ _ ([.int IntKind.u8 (IntKind.u8.wrap y)]) (by kernel_rfl) (fun ρ => by kernel_rfl) (by first | omega | (simp only [Go.maxLen]; omega)) (by first | omega | (simp only [Go.maxLen]; omega)) (by first | omega | (simp only [Go.maxLen]; omega)) fun A2 c2 => ?_
    refine At.toJ (RowF.stable) RowF.fewer 0 100 [2] 0 ⟨.exit .ret, [], [(2, .sl A2 (n + 1) c2)], []⟩ (by kernel_rfl) (by kernel_rfl) ?_
    refine At.ret (by kernel_rfl) (.sl A2 (n + 1) c2) (by kernel_rfl) ?_
    have hy127 : ¬ 127 < y := by simpa using b0
    have hsm : leb y.toNat = _ := leb_small (x := y.toNat) (by omega)
    have hlow : IntKind.u8.wrap y = (y.toNat : Int) := by rw [byte_low hy]; omega
    intro ρ w9 _ hf
    refine ⟨_, _, _, rfl, ?_⟩
    rw [hlow] at hf
    rw [← hl, hsm]
    exact RowF.fewer _ _ 0 (Nat.zero_le _) hf


theorem bv_ne {l : List Nat} (h : 1 ≤ l.length) : bv l ≠ [] := by
  intro e
  have := congrArg List.length e
  simp only [bv, List.length_map, List.length_nil] at this
  omega
theorem ent_some {w0 w : World} {A B : Option Addr} {n c : Nat} {ys : List Value} {ρ : List Nat} (h : EntV w0 A n c (B, ys) ρ w) : ∃ b, B = some b := by
  obtain ⟨b, e, _⟩ := h
  exact ⟨_, e⟩
theorem ent_src {w0 w : World} {A : Option Addr} {b : Addr} {n c : Nat} {ys : List Value} {ρ : List Nat} (h : EntV w0 A n c (some b, ys) ρ w) : Src w b ys := by
  obtain ⟨b', e, _, _, _, _, hs⟩ := h
  simp only [Option.some.injEq] at e
  subst e
  exact hs

noncomputable def B13 : Code := (Tryz.f13.body).getD .skip
set_option maxHeartbeats 4000000 in
set_option maxRecDepth 100000 in
theorem rbytes_any (g s k sz sl of gp lt ea : Int) (d : Bool) (w : World) :
    Calls Tryz.prog 13 #[.agg #[.int .i64 g, .int .i64 s, .int .i64 k, .int .i64 sz, .int .i64 sl, .int .i64 of, .int .i64 gp, .int .i64 lt, .int .i64 ea, .bool d]] w fun e w' => ∃ A' n' c', e = .returned (.slice A' n' c') ∧ RowF w (fun _ => False) [] w.heap.size 5 1 A' n' c' (bv (nums [g, s, k, sz, sl, of, gp, lt, ea, (bif d then 1 else 0)])) [] w' := by
  refine enterF (N := w.heap.size) (F := FrameR w (fun _ => False) []) (fn := Tryz.f13) (c := B13) [.agg (cfgL g s k sz sl of gp lt ea d)] Tryz.func13 rfl rfl (Nat.le_refl _) (FrameR.start _ [] (by simp)) ?_
  refine At.toJ (FrameR.stable) FrameR.fewer 20 300 [6] 0 ⟨pops B13 [1, 0] 1, [.seq (sub B13 [1, 1])], [(6, .agg [.io .i64 g, .io .i64 s, .io .i64 k, .io .i64 sz, .io .i64 sl, .io .i64 of, .io .i64 gp, .io .i64 lt, .io .i64 ea, .bo d])], []⟩ (by kernel_rfl) (by kernel_rfl) ?_
  refine At.call (FrameR.stable) 38 [.agg [.io .i64 g, .io .i64 s, .io .i64 k, .io .i64 sz, .io .i64 sl, .io .i64 of, .io .i64 gp, .io .i64 lt, .io .i64 ea, .bo d]] (.agg [.io .i64 g, .io .i64 s, .io .i64 k, .io .i64 sz, .io .i64 sl, .io .i64 of, .io .i64 gp, .io .i64 lt, .io .i64 ea, .io .i64 (bif d then 1 else 0)]) (by kernel_rfl) (by kernel_rfl) (by kernel_rfl) (fun _ _ w _ _ => rfields_any (g) (s) (k) (sz) (sl) (of) (gp) (lt) (ea) (d) w) ?_
  refine At.toJ (FrameR.stable) FrameR.fewer 20 300 [3, 5, 12, 16] 1 ⟨pops B13 [1, 1, 1, 0, 1, 4, 4, 1, 0, 4] 5, [.block 1, .seq (sub B13 [1, 1, 1, 0, 1, 4, 4, 1, 1]), .rounds (sub B13 [1, 1, 1, 0, 1, 4, 4]) 19, .block 0, .seq (sub B13 [1, 1, 1, 1])], [(3, .lp 0 0), (5, .v (.int .i64 0)), (12, .v (.slice none 0 0)), (16, .io IntKind.u64 (IntKind.u64.wrap g))], [([.io .i64 g, .io .i64 s, .io .i64 k, .io .i64 sz, .io .i64 sl, .io .i64 of, .io .i64 gp, .io .i64 lt, .io .i64 ea, .io .i64 (bif d then 1 else 0)], 50)]⟩ (by kernel_rfl) (by kernel_rfl) ?_
  refine At.mono (F' := RowE w (fun _ => False) [] w.heap.size 5 1 none 0 0 [] []) (fun ρ w1 h => ⟨⟨⟨⟨World.ownsRow_nil _ _ _ _, by simp [Value.ownBlock]⟩, h.1.size⟩, h, by simp [Value.ownBlock]⟩, by simp⟩) ?_

  have hpos0 := leb_pos (IntKind.u64.wrap g).toNat
  have hle0 := leb_u64 g
  refine At.mkrowE (e2 := 5) (size2 := 1) 39 [.io .u64 (IntKind.u64.wrap g)] (fun A n c => .sl A n c) (bv (leb (IntKind.u64.wrap g).toNat)) (by kernel_rfl) (by kernel_rfl) (by kernel_rfl) (by kernel_rfl) (by kernel_rfl) (bv_ne hpos0) (fun ρ w1 hm hf => rnumber_any _ (u64_pos _).1 (u64_pos _).2 w1 (by omega)) ?_
  intro B0 m0 k0
  refine At.mono (F' := fun ρ w1 => RowE w (fun _ => False) [] w.heap.size 5 1 none 0 0 [] [(B0, bv (leb (IntKind.u64.wrap g).toNat))] ρ w1 ∧ (m0 = (leb (IntKind.u64.wrap g).toNat).length ∧ ∃ b, B0 = some b)) (fun ρ w1 h => ⟨h.1, by have := h.2.1; simp only [bv, List.length_map] at this; omega, ent_some (h.1.2 _ (List.mem_singleton.2 rfl))⟩) (At.pure ?_)
  rintro ⟨hm0, b0, rfl⟩
  refine At.toJ (RowE.stable) RowE.fewer 20 300 [3, 5, 12, 17] 1 ⟨pops B13 [1, 1, 1, 0, 1, 4, 4, 1, 0, 4] 6, [.block 1, .seq (sub B13 [1, 1, 1, 0, 1, 4, 4, 1, 1]), .rounds (sub B13 [1, 1, 1, 0, 1, 4, 4]) 19, .block 0, .seq (sub B13 [1, 1, 1, 1])], [(3, .lp 0 0), (5, .v (.int .i64 0)), (12, .v (.slice none 0 0)), (17, .sl (some b0) m0 k0)], [([.io .i64 g, .io .i64 s, .io .i64 k, .io .i64 sz, .io .i64 sl, .io .i64 of, .io .i64 gp, .io .i64 lt, .io .i64 ea, .io .i64 (bif d then 1 else 0)], 50)]⟩ (by kernel_rfl) (by kernel_rfl) ?_
  refine At.appOutG 5 1 1 none 0 0 b0 m0 k0 (fun _ => False) [] w.heap.size [] (bv (leb (IntKind.u64.wrap g).toNat)) (by kernel_rfl) (by simp only [bv, List.length_map]; omega) (bv_one _) (fun ρ w1 hm hf => ⟨hf.1, ent_src (hf.2 _ (List.mem_singleton.2 rfl))⟩) (by omega) (by simp only [maxLen]; omega) (Nat.le_refl _) ?_
  intro A101 c101
  generalize hn1 : 0 + m0 = n101
  have hb1 : n101 ≤ 10 := by omega
  refine At.nameRow fun xs1 hx1 => ?_
  refine At.toJ (RowF.stable) RowF.fewer 20 300 [3, 5, 12, 16] 1 ⟨pops B13 [1, 1, 1, 0, 1, 4, 4, 1, 0, 4] 5, [.block 1, .seq (sub B13 [1, 1, 1, 0, 1, 4, 4, 1, 1]), .rounds (sub B13 [1, 1, 1, 0, 1, 4, 4]) 18, .block 0, .seq (sub B13 [1, 1, 1, 1])], [(3, .lp 0 0), (5, .v (.int .i64 1)), (12, .sl A101 n101 c101), (16, .io IntKind.u64 (IntKind.u64.wrap s))], [([.io .i64 g, .io .i64 s, .io .i64 k, .io .i64 sz, .io .i64 sl, .io .i64 of, .io .i64 gp, .io .i64 lt, .io .i64 ea, .io .i64 (bif d then 1 else 0)], 50)]⟩ (by kernel_rfl) (by kernel_rfl) ?_
  refine At.mono (F' := RowE w (fun _ => False) [] w.heap.size 5 1 A101 n101 c101 xs1 []) (fun ρ w1 h => ⟨h, by simp⟩) ?_

  have hpos1 := leb_pos (IntKind.u64.wrap s).toNat
  have hle1 := leb_u64 s
  refine At.mkrowE (e2 := 5) (size2 := 1) 39 [.io .u64 (IntKind.u64.wrap s)] (fun A n c => .sl A n c) (bv (leb (IntKind.u64.wrap s).toNat)) (by kernel_rfl) (by kernel_rfl) (by kernel_rfl) (by kernel_rfl) (by kernel_rfl) (bv_ne hpos1) (fun ρ w1 hm hf => rnumber_any _ (u64_pos _).1 (u64_pos _).2 w1 (by omega)) ?_
  intro B1 m1 k1
  refine At.mono (F' := fun ρ w1 => RowE w (fun _ => False) [] w.heap.size 5 1 A101 n101 c101 xs1 [(B1, bv (leb (IntKind.u64.wrap s).toNat))] ρ w1 ∧ (m1 = (leb (IntKind.u64.wrap s).toNat).length ∧ ∃ b, B1 = some b)) (fun ρ w1 h => ⟨h.1, by have := h.2.1; simp only [bv, List.length_map] at this; omega, ent_some (h.1.2 _ (List.mem_singleton.2 rfl))⟩) (At.pure ?_)
  rintro ⟨hm1, b1, rfl⟩
  refine At.toJ (RowE.stable) RowE.fewer 20 300 [3, 5, 12, 17] 1 ⟨pops B13 [1, 1, 1, 0, 1, 4, 4, 1, 0, 4] 6, [.block 1, .seq (sub B13 [1, 1, 1, 0, 1, 4, 4, 1, 1]), .rounds (sub B13 [1, 1, 1, 0, 1, 4, 4]) 18, .block 0, .seq (sub B13 [1, 1, 1, 1])], [(3, .lp 0 0), (5, .v (.int .i64 1)), (12, .sl A101 n101 c101), (17, .sl (some b1) m1 k1)], [([.io .i64 g, .io .i64 s, .io .i64 k, .io .i64 sz, .io .i64 sl, .io .i64 of, .io .i64 gp, .io .i64 lt, .io .i64 ea, .io .i64 (bif d then 1 else 0)], 50)]⟩ (by kernel_rfl) (by kernel_rfl) ?_
  refine At.appOutG 5 1 1 A101 n101 c101 b1 m1 k1 (fun _ => False) [] w.heap.size xs1 (bv (leb (IntKind.u64.wrap s).toNat)) (by kernel_rfl) (by simp only [bv, List.length_map]; omega) (bv_one _) (fun ρ w1 hm hf => ⟨hf.1, ent_src (hf.2 _ (List.mem_singleton.2 rfl))⟩) (by omega) (by simp only [maxLen]; omega) (Nat.le_refl _) ?_
  intro A102 c102
  generalize hn2 : n101 + m1 = n102
  have hb2 : n102 ≤ 20 := by omega
  refine At.nameRow fun xs2 hx2 => ?_
  refine At.toJ (RowF.stable) RowF.fewer 20 300 [3, 5, 12, 16] 1 ⟨pops B13 [1, 1, 1, 0, 1, 4, 4, 1, 0, 4] 5, [.block 1, .seq (sub B13 [1, 1, 1, 0, 1, 4, 4, 1, 1]), .rounds (sub B13 [1, 1, 1, 0, 1, 4, 4]) 17, .block 0, .seq (sub B13 [1, 1, 1, 1])], [(3, .lp 0 0), (5, .v (.int .i64 2)), (12, .sl A102 n102 c102), (16, .io IntKind.u64 (IntKind.u64.wrap k))], [([.io .i64 g, .io .i64 s, .io .i64 k, .io .i64 sz, .io .i64 sl, .io .i64 of, .io .i64 gp, .io .i64 lt, .io .i64 ea, .io .i64 (bif d then 1 else 0)], 50)]⟩ (by kernel_rfl) (by kernel_rfl) ?_
  refine At.mono (F' := RowE w (fun _ => False) [] w.heap.size 5 1 A102 n102 c102 xs2 []) (fun ρ w1 h => ⟨h, by simp⟩) ?_

  have hpos2 := leb_pos (IntKind.u64.wrap k).toNat
  have hle2 := leb_u64 k
  refine At.mkrowE (e2 := 5) (size2 := 1) 39 [.io .u64 (IntKind.u64.wrap k)] (fun A n c => .sl A n c) (bv (leb (IntKind.u64.wrap k).toNat)) (by kernel_rfl) (by kernel_rfl) (by kernel_rfl) (by kernel_rfl) (by kernel_rfl) (bv_ne hpos2) (fun ρ w1 hm hf => rnumber_any _ (u64_pos _).1 (u64_pos _).2 w1 (by omega)) ?_
  intro B2 m2 k2
  refine At.mono (F' := fun ρ w1 => RowE w (fun _ => False) [] w.heap.size 5 1 A102 n102 c102 xs2 [(B2, bv (leb (IntKind.u64.wrap k).toNat))] ρ w1 ∧ (m2 = (leb (IntKind.u64.wrap k).toNat).length ∧ ∃ b, B2 = some b)) (fun ρ w1 h => ⟨h.1, by have := h.2.1; simp only [bv, List.length_map] at this; omega, ent_some (h.1.2 _ (List.mem_singleton.2 rfl))⟩) (At.pure ?_)
  rintro ⟨hm2, b2, rfl⟩
  refine At.toJ (RowE.stable) RowE.fewer 20 300 [3, 5, 12, 17] 1 ⟨pops B13 [1, 1, 1, 0, 1, 4, 4, 1, 0, 4] 6, [.block 1, .seq (sub B13 [1, 1, 1, 0, 1, 4, 4, 1, 1]), .rounds (sub B13 [1, 1, 1, 0, 1, 4, 4]) 17, .block 0, .seq (sub B13 [1, 1, 1, 1])], [(3, .lp 0 0), (5, .v (.int .i64 2)), (12, .sl A102 n102 c102), (17, .sl (some b2) m2 k2)], [([.io .i64 g, .io .i64 s, .io .i64 k, .io .i64 sz, .io .i64 sl, .io .i64 of, .io .i64 gp, .io .i64 lt, .io .i64 ea, .io .i64 (bif d then 1 else 0)], 50)]⟩ (by kernel_rfl) (by kernel_rfl) ?_
  refine At.appOutG 5 1 1 A102 n102 c102 b2 m2 k2 (fun _ => False) [] w.heap.size xs2 (bv (leb (IntKind.u64.wrap k).toNat)) (by kernel_rfl) (by simp only [bv, List.length_map]; omega) (bv_one _) (fun ρ w1 hm hf => ⟨hf.1, ent_src (hf.2 _ (List.mem_singleton.2 rfl))⟩) (by omega) (by simp only [maxLen]; omega) (Nat.le_refl _) ?_
  intro A103 c103
  generalize hn3 : n102 + m2 = n103
  have hb3 : n103 ≤ 30 := by omega
  refine At.nameRow fun xs3 hx3 => ?_
  refine At.toJ (RowF.stable) RowF.fewer 20 300 [3, 5, 12, 16] 1 ⟨pops B13 [1, 1, 1, 0, 1, 4, 4, 1, 0, 4] 5, [.block 1, .seq (sub B13 [1, 1, 1, 0, 1, 4, 4, 1, 1]), .rounds (sub B13 [1, 1, 1, 0, 1, 4, 4]) 16, .block 0, .seq (sub B13 [1, 1, 1, 1])], [(3, .lp 0 0), (5, .v (.int .i64 3)), (12, .sl A103 n103 c103), (16, .io IntKind.u64 (IntKind.u64.wrap sz))], [([.io .i64 g, .io .i64 s, .io .i64 k, .io .i64 sz, .io .i64 sl, .io .i64 of, .io .i64 gp, .io .i64 lt, .io .i64 ea, .io .i64 (bif d then 1 else 0)], 50)]⟩ (by kernel_rfl) (by kernel_rfl) ?_
  refine At.mono (F' := RowE w (fun _ => False) [] w.heap.size 5 1 A103 n103 c103 xs3 []) (fun ρ w1 h => ⟨h, by simp⟩) ?_

  have hpos3 := leb_pos (IntKind.u64.wrap sz).toNat
  have hle3 := leb_u64 sz
  refine At.mkrowE (e2 := 5) (size2 := 1) 39 [.io .u64 (IntKind.u64.wrap sz)] (fun A n c => .sl A n c) (bv (leb (IntKind.u64.wrap sz).toNat)) (by kernel_rfl) (by kernel_rfl) (by kernel_rfl) (by kernel_rfl) (by kernel_rfl) (bv_ne hpos3) (fun ρ w1 hm hf => rnumber_any _ (u64_pos _).1 (u64_pos _).2 w1 (by omega)) ?_
  intro B3 m3 k3
  refine At.mono (F' := fun ρ w1 => RowE w (fun _ => False) [] w.heap.size 5 1 A103 n103 c103 xs3 [(B3, bv (leb (IntKind.u64.wrap sz).toNat))] ρ w1 ∧ (m3 = (leb (IntKind.u64.wrap sz).toNat).length ∧ ∃ b, B3 = some b)) (fun ρ w1 h => ⟨h.1, by have := h.2.1; simp only [bv, List.length_map] at this; omega, ent_some (h.1.2 _ (List.mem_singleton.2 rfl))⟩) (At.pure ?_)
  rintro ⟨hm3, b3, rfl⟩
  refine At.toJ (RowE.stable) RowE.fewer 20 300 [3, 5, 12, 17] 1 ⟨pops B13 [1, 1, 1, 0, 1, 4, 4, 1, 0, 4] 6, [.block 1, .seq (sub B13 [1, 1, 1, 0, 1, 4, 4, 1, 1]), .rounds (sub B13 [1, 1, 1, 0, 1, 4, 4]) 16, .block 0, .seq (sub B13 [1, 1, 1, 1])], [(3, .lp 0 0), (5, .v (.int .i64 3)), (12, .sl A103 n103 c103), (17, .sl (some b3) m3 k3)], [([.io .i64 g, .io .i64 s, .io .i64 k, .io .i64 sz, .io .i64 sl, .io .i64 of, .io .i64 gp, .io .i64 lt, .io .i64 ea, .io .i64 (bif d then 1 else 0)], 50)]⟩ (by kernel_rfl) (by kernel_rfl) ?_
  refine At.appOutG 5 1 1 A103 n103 c103 b3 m3 k3 (fun _ => False) [] w.heap.size xs3 (bv (leb (IntKind.u64.wrap sz).toNat)) (by kernel_rfl) (by simp only [bv, List.length_map]; omega) (bv_one _) (fun ρ w1 hm hf => ⟨hf.1, ent_src (hf.2 _ (List.mem_singleton.2 rfl))⟩) (by omega) (by simp only [maxLen]; omega) (Nat.le_refl _) ?_
  intro A104 c104
  generalize hn4 : n103 + m3 = n104
  have hb4 : n104 ≤ 40 := by omega
  refine At.nameRow fun xs4 hx4 => ?_
  refine At.toJ (RowF.stable) RowF.fewer 20 300 [3, 5, 12, 16] 1 ⟨pops B13 [1, 1, 1, 0, 1, 4, 4, 1, 0, 4] 5, [.block 1, .seq (sub B13 [1, 1, 1, 0, 1, 4, 4, 1, 1]), .rounds (sub B13 [1, 1, 1, 0, 1, 4, 4]) 15, .block 0, .seq (sub B13 [1, 1, 1, 1])], [(3, .lp 0 0), (5, .v (.int .i64 4)), (12, .sl A104 n104 c104), (16, .io IntKind.u64 (IntKind.u64.wrap sl))], [([.io .i64 g, .io .i64 s, .io .i64 k, .io .i64 sz, .io .i64 sl, .io .i64 of, .io .i64 gp, .io .i64 lt, .io .i64 ea, .io .i64 (bif d then 1 else 0)], 50)]⟩ (by kernel_rfl) (by kernel_rfl) ?_
  refine At.mono (F' := RowE w (fun _ => False) [] w.heap.size 5 1 A104 n104 c104 xs4 []) (fun ρ w1 h => ⟨h, by simp⟩) ?_

  have hpos4 := leb_pos (IntKind.u64.wrap sl).toNat
  have hle4 := leb_u64 sl
  refine At.mkrowE (e2 := 5) (size2 := 1) 39 [.io .u64 (IntKind.u64.wrap sl)] (fun A n c => .sl A n c) (bv (leb (IntKind.u64.wrap sl).toNat)) (by kernel_rfl) (by kernel_rfl) (by kernel_rfl) (by kernel_rfl) (by kernel_rfl) (bv_ne hpos4) (fun ρ w1 hm hf => rnumber_any _ (u64_pos _).1 (u64_pos _).2 w1 (by omega)) ?_
  intro B4 m4 k4
  refine At.mono (F' := fun ρ w1 => RowE w (fun _ => False) [] w.heap.size 5 1 A104 n104 c104 xs4 [(B4, bv (leb (IntKind.u64.wrap sl).toNat))] ρ w1 ∧ (m4 = (leb (IntKind.u64.wrap sl).toNat).length ∧ ∃ b, B4 = some b)) (fun ρ w1 h => ⟨h.1, by have := h.2.1; simp only [bv, List.length_map] at this; omega, ent_some (h.1.2 _ (List.mem_singleton.2 rfl))⟩) (At.pure ?_)
  rintro ⟨hm4, b4, rfl⟩
  refine At.toJ (RowE.stable) RowE.fewer 20 300 [3, 5, 12, 17] 1 ⟨pops B13 [1, 1, 1, 0, 1, 4, 4, 1, 0, 4] 6, [.block 1, .seq (sub B13 [1, 1, 1, 0, 1, 4, 4, 1, 1]), .rounds (sub B13 [1, 1, 1, 0, 1, 4, 4]) 15, .block 0, .seq (sub B13 [1, 1, 1, 1])], [(3, .lp 0 0), (5, .v (.int .i64 4)), (12, .sl A104 n104 c104), (17, .sl (some b4) m4 k4)], [([.io .i64 g, .io .i64 s, .io .i64 k, .io .i64 sz, .io .i64 sl, .io .i64 of, .io .i64 gp, .io .i64 lt, .io .i64 ea, .io .i64 (bif d then 1 else 0)], 50)]⟩ (by kernel_rfl) (by kernel_rfl) ?_
  refine At.appOutG 5 1 1 A104 n104 c104 b4 m4 k4 (fun _ => False) [] w.heap.size xs4 (bv (leb (IntKind.u64.wrap sl).toNat)) (by kernel_rfl) (by simp only [bv, List.length_map]; omega) (bv_one _) (fun ρ w1 hm hf => ⟨hf.1, ent_src (hf.2 _ (List.mem_singleton.2 rfl))⟩) (by omega) (by simp only [maxLen]; omega) (Nat.le_refl _) ?_
  intro A105 c105
  generalize hn5 : n104 + m4 = n105
  have hb5 : n105 ≤ 50 := by omega
  refine At.nameRow fun xs5 hx5 => ?_
  refine At.toJ (RowF.stable) RowF.fewer 20 300 [3, 5, 12, 16] 1 ⟨pops B13 [1, 1, 1, 0, 1, 4, 4, 1, 0, 4] 5, [.block 1, .seq (sub B13 [1, 1, 1, 0, 1, 4, 4, 1, 1]), .rounds (sub B13 [1, 1, 1, 0, 1, 4, 4]) 14, .block 0, .seq (sub B13 [1, 1, 1, 1])], [(3, .lp 0 0), (5, .v (.int .i64 5)), (12, .sl A105 n105 c105), (16, .io IntKind.u64 (IntKind.u64.wrap of))], [([.io .i64 g, .io .i64 s, .io .i64 k, .io .i64 sz, .io .i64 sl, .io .i64 of, .io .i64 gp, .io .i64 lt, .io .i64 ea, .io .i64 (bif d then 1 else 0)], 50)]⟩ (by kernel_rfl) (by kernel_rfl) ?_
  refine At.mono (F' := RowE w (fun _ => False) [] w.heap.size 5 1 A105 n105 c105 xs5 []) (fun ρ w1 h => ⟨h, by simp⟩) ?_

  have hpos5 := leb_pos (IntKind.u64.wrap of).toNat
  have hle5 := leb_u64 of
  refine At.mkrowE (e2 := 5) (size2 := 1) 39 [.io .u64 (IntKind.u64.wrap of)] (fun A n c => .sl A n c) (bv (leb (IntKind.u64.wrap of).toNat)) (by kernel_rfl) (by kernel_rfl) (by kernel_rfl) (by kernel_rfl) (by kernel_rfl) (bv_ne hpos5) (fun ρ w1 hm hf => rnumber_any _ (u64_pos _).1 (u64_pos _).2 w1 (by omega)) ?_
  intro B5 m5 k5
  refine At.mono (F' := fun ρ w1 => RowE w (fun _ => False) [] w.heap.size 5 1 A105 n105 c105 xs5 [(B5, bv (leb (IntKind.u64.wrap of).toNat))] ρ w1 ∧ (m5 = (leb (IntKind.u64.wrap of).toNat).length ∧ ∃ b, B5 = some b)) (fun ρ w1 h => ⟨h.1, by have := h.2.1; simp only [bv, List.length_map] at this; omega, ent_some (h.1.2 _ (List.mem_singleton.2 rfl))⟩) (At.pure ?_)
  rintro ⟨hm5, b5, rfl⟩
  refine At.toJ (RowE.stable) RowE.fewer 20 300 [3, 5, 12, 17] 1 ⟨pops B13 [1, 1, 1, 0, 1, 4, 4, 1, 0, 4] 6, [.block 1, .seq (sub B13 [1, 1, 1, 0, 1, 4, 4, 1, 1]), .rounds (sub B13 [1, 1, 1, 0, 1, 4, 4]) 14, .block 0, .seq (sub B13 [1, 1, 1, 1])], [(3, .lp 0 0), (5, .v (.int .i64 5)), (12, .sl A105 n105 c105), (17, .sl (some b5) m5 k5)], [([.io .i64 g, .io .i64 s, .io .i64 k, .io .i64 sz, .io .i64 sl, .io .i64 of, .io .i64 gp, .io .i64 lt, .io .i64 ea, .io .i64 (bif d then 1 else 0)], 50)]⟩ (by kernel_rfl) (by kernel_rfl) ?_
  refine At.appOutG 5 1 1 A105 n105 c105 b5 m5 k5 (fun _ => False) [] w.heap.size xs5 (bv (leb (IntKind.u64.wrap of).toNat)) (by kernel_rfl) (by simp only [bv, List.length_map]; omega) (bv_one _) (fun ρ w1 hm hf => ⟨hf.1, ent_src (hf.2 _ (List.mem_singleton.2 rfl))⟩) (by omega) (by simp only [maxLen]; omega) (Nat.le_refl _) ?_
  intro A106 c106
  generalize hn6 : n105 + m5 = n106
  have hb6 : n106 ≤ 60 := by omega
  refine At.nameRow fun xs6 hx6 => ?_
  refine At.toJ (RowF.stable) RowF.fewer 20 300 [3, 5, 12, 16] 1 ⟨pops B13 [1, 1, 1, 0, 1, 4, 4, 1, 0, 4] 5, [.block 1, .seq (sub B13 [1, 1, 1, 0, 1, 4, 4, 1, 1]), .rounds (sub B13 [1, 1, 1, 0, 1, 4, 4]) 13, .block 0, .seq (sub B13 [1, 1, 1, 1])], [(3, .lp 0 0), (5, .v (.int .i64 6)), (12, .sl A106 n106 c106), (16, .io IntKind.u64 (IntKind.u64.wrap gp))], [([.io .i64 g, .io .i64 s, .io .i64 k, .io .i64 sz, .io .i64 sl, .io .i64 of, .io .i64 gp, .io .i64 lt, .io .i64 ea, .io .i64 (bif d then 1 else 0)], 50)]⟩ (by kernel_rfl) (by kernel_rfl) ?_
  refine At.mono (F' := RowE w (fun _ => False) [] w.heap.size 5 1 A106 n106 c106 xs6 []) (fun ρ w1 h => ⟨h, by simp⟩) ?_

  have hpos6 := leb_pos (IntKind.u64.wrap gp).toNat
  have hle6 := leb_u64 gp
  refine At.mkrowE (e2 := 5) (size2 := 1) 39 [.io .u64 (IntKind.u64.wrap gp)] (fun A n c => .sl A n c) (bv (leb (IntKind.u64.wrap gp).toNat)) (by kernel_rfl) (by kernel_rfl) (by kernel_rfl) (by kernel_rfl) (by kernel_rfl) (bv_ne hpos6) (fun ρ w1 hm hf => rnumber_any _ (u64_pos _).1 (u64_pos _).2 w1 (by omega)) ?_
  intro B6 m6 k6
  refine At.mono (F' := fun ρ w1 => RowE w (fun _ => False) [] w.heap.size 5 1 A106 n106 c106 xs6 [(B6, bv (leb (IntKind.u64.wrap gp).toNat))] ρ w1 ∧ (m6 = (leb (IntKind.u64.wrap gp).toNat).length ∧ ∃ b, B6 = some b)) (fun ρ w1 h => ⟨h.1, by have := h.2.1; simp only [bv, List.length_map] at this; omega, ent_some (h.1.2 _ (List.mem_singleton.2 rfl))⟩) (At.pure ?_)
  rintro ⟨hm6, b6, rfl⟩
  refine At.toJ (RowE.stable) RowE.fewer 20 300 [3, 5, 12, 17] 1 ⟨pops B13 [1, 1, 1, 0, 1, 4, 4, 1, 0, 4] 6, [.block 1, .seq (sub B13 [1, 1, 1, 0, 1, 4, 4, 1, 1]), .rounds (sub B13 [1, 1, 1, 0, 1, 4, 4]) 13, .block 0, .seq (sub B13 [1, 1, 1, 1])], [(3, .lp 0 0), (5, .v (.int .i64 6)), (12, .sl A106 n106 c106), (17, .sl (some b6) m6 k6)], [([.io .i64 g, .io .i64 s, .io .i64 k, .io .i64 sz, .io .i64 sl, .io .i64 of, .io .i64 gp, .io .i64 lt, .io .i64 ea, .io .i64 (bif d then 1 else 0)], 50)]⟩ (by kernel_rfl) (by kernel_rfl) ?_
  refine At.appOutG 5 1 1 A106 n106 c106 b6 m6 k6 (fun _ => False) [] w.heap.size xs6 (bv (leb (IntKind.u64.wrap gp).toNat)) (by kernel_rfl) (by simp only [bv, List.length_map]; omega) (bv_one _) (fun ρ w1 hm hf => ⟨hf.1, ent_src (hf.2 _ (List.mem_singleton.2 rfl))⟩) (by omega) (by simp only [maxLen]; omega) (Nat.le_refl _) ?_
  intro A107 c107
  generalize hn7 : n106 + m6 = n107
  have hb7 : n107 ≤ 70 := by omega
  refine At.nameRow fun xs7 hx7 => ?_
  refine At.toJ (RowF.stable) RowF.fewer 20 300 [3, 5, 12, 16] 1 ⟨pops B13 [1, 1, 1, 0, 1, 4, 4, 1, 0, 4] 5, [.block 1, .seq (sub B13 [1, 1, 1, 0, 1, 4, 4, 1, 1]), .rounds (sub B13 [1, 1, 1, 0, 1, 4, 4]) 12, .block 0, .seq (sub B13 [1, 1, 1, 1])], [(3, .lp 0 0), (5, .v (.int .i64 7)), (12, .sl A107 n107 c107), (16, .io IntKind.u64 (IntKind.u64.wrap lt))], [([.io .i64 g, .io .i64 s, .io .i64 k, .io .i64 sz, .io .i64 sl, .io .i64 of, .io .i64 gp, .io .i64 lt, .io .i64 ea, .io .i64 (bif d then 1 else 0)], 50)]⟩ (by kernel_rfl) (by kernel_rfl) ?_
  refine At.mono (F' := RowE w (fun _ => False) [] w.heap.size 5 1 A107 n107 c107 xs7 []) (fun ρ w1 h => ⟨h, by simp⟩) ?_

  have hpos7 := leb_pos (IntKind.u64.wrap lt).toNat
  have hle7 := leb_u64 lt
  refine At.mkrowE (e2 := 5) (size2 := 1) 39 [.io .u64 (IntKind.u64.wrap lt)] (fun A n c => .sl A n c) (bv (leb (IntKind.u64.wrap lt).toNat)) (by kernel_rfl) (by kernel_rfl) (by kernel_rfl) (by kernel_rfl) (by kernel_rfl) (bv_ne hpos7) (fun ρ w1 hm hf => rnumber_any _ (u64_pos _).1 (u64_pos _).2 w1 (by omega)) ?_
  intro B7 m7 k7
  refine At.mono (F' := fun ρ w1 => RowE w (fun _ => False) [] w.heap.size 5 1 A107 n107 c107 xs7 [(B7, bv (leb (IntKind.u64.wrap lt).toNat))] ρ w1 ∧ (m7 = (leb (IntKind.u64.wrap lt).toNat).length ∧ ∃ b, B7 = some b)) (fun ρ w1 h => ⟨h.1, by have := h.2.1; simp only [bv, List.length_map] at this; omega, ent_some (h.1.2 _ (List.mem_singleton.2 rfl))⟩) (At.pure ?_)
  rintro ⟨hm7, b7, rfl⟩
  refine At.toJ (RowE.stable) RowE.fewer 20 300 [3, 5, 12, 17] 1 ⟨pops B13 [1, 1, 1, 0, 1, 4, 4, 1, 0, 4] 6, [.block 1, .seq (sub B13 [1, 1, 1, 0, 1, 4, 4, 1, 1]), .rounds (sub B13 [1, 1, 1, 0, 1, 4, 4]) 12, .block 0, .seq (sub B13 [1, 1, 1, 1])], [(3, .lp 0 0), (5, .v (.int .i64 7)), (12, .sl A107 n107 c107), (17, .sl (some b7) m7 k7)], [([.io .i64 g, .io .i64 s, .io .i64 k, .io .i64 sz, .io .i64 sl, .io .i64 of, .io .i64 gp, .io .i64 lt, .io .i64 ea, .io .i64 (bif d then 1 else 0)], 50)]⟩ (by kernel_rfl) (by kernel_rfl) ?_
  refine At.appOutG 5 1 1 A107 n107 c107 b7 m7 k7 (fun _ => False) [] w.heap.size xs7 (bv (leb (IntKind.u64.wrap lt).toNat)) (by kernel_rfl) (by simp only [bv, List.length_map]; omega) (bv_one _) (fun ρ w1 hm hf => ⟨hf.1, ent_src (hf.2 _ (List.mem_singleton.2 rfl))⟩) (by omega) (by simp only [maxLen]; omega) (Nat.le_refl _) ?_
  intro A108 c108
  generalize hn8 : n107 + m7 = n108
  have hb8 : n108 ≤ 80 := by omega
  refine At.nameRow fun xs8 hx8 => ?_
  refine At.toJ (RowF.stable) RowF.fewer 20 300 [3, 5, 12, 16] 1 ⟨pops B13 [1, 1, 1, 0, 1, 4, 4, 1, 0, 4] 5, [.block 1, .seq (sub B13 [1, 1, 1, 0, 1, 4, 4, 1, 1]), .rounds (sub B13 [1, 1, 1, 0, 1, 4, 4]) 11, .block 0, .seq (sub B13 [1, 1, 1, 1])], [(3, .lp 0 0), (5, .v (.int .i64 8)), (12, .sl A108 n108 c108), (16, .io IntKind.u64 (IntKind.u64.wrap ea))], [([.io .i64 g, .io .i64 s, .io .i64 k, .io .i64 sz, .io .i64 sl, .io .i64 of, .io .i64 gp, .io .i64 lt, .io .i64 ea, .io .i64 (bif d then 1 else 0)], 50)]⟩ (by kernel_rfl) (by kernel_rfl) ?_
  refine At.mono (F' := RowE w (fun _ => False) [] w.heap.size 5 1 A108 n108 c108 xs8 []) (fun ρ w1 h => ⟨h, by simp⟩) ?_

  have hpos8 := leb_pos (IntKind.u64.wrap ea).toNat
  have hle8 := leb_u64 ea
  refine At.mkrowE (e2 := 5) (size2 := 1) 39 [.io .u64 (IntKind.u64.wrap ea)] (fun A n c => .sl A n c) (bv (leb (IntKind.u64.wrap ea).toNat)) (by kernel_rfl) (by kernel_rfl) (by kernel_rfl) (by kernel_rfl) (by kernel_rfl) (bv_ne hpos8) (fun ρ w1 hm hf => rnumber_any _ (u64_pos _).1 (u64_pos _).2 w1 (by omega)) ?_
  intro B8 m8 k8
  refine At.mono (F' := fun ρ w1 => RowE w (fun _ => False) [] w.heap.size 5 1 A108 n108 c108 xs8 [(B8, bv (leb (IntKind.u64.wrap ea).toNat))] ρ w1 ∧ (m8 = (leb (IntKind.u64.wrap ea).toNat).length ∧ ∃ b, B8 = some b)) (fun ρ w1 h => ⟨h.1, by have := h.2.1; simp only [bv, List.length_map] at this; omega, ent_some (h.1.2 _ (List.mem_singleton.2 rfl))⟩) (At.pure ?_)
  rintro ⟨hm8, b8, rfl⟩
  refine At.toJ (RowE.stable) RowE.fewer 20 300 [3, 5, 12, 17] 1 ⟨pops B13 [1, 1, 1, 0, 1, 4, 4, 1, 0, 4] 6, [.block 1, .seq (sub B13 [1, 1, 1, 0, 1, 4, 4, 1, 1]), .rounds (sub B13 [1, 1, 1, 0, 1, 4, 4]) 11, .block 0, .seq (sub B13 [1, 1, 1, 1])], [(3, .lp 0 0), (5, .v (.int .i64 8)), (12, .sl A108 n108 c108), (17, .sl (some b8) m8 k8)], [([.io .i64 g, .io .i64 s, .io .i64 k, .io .i64 sz, .io .i64 sl, .io .i64 of, .io .i64 gp, .io .i64 lt, .io .i64 ea, .io .i64 (bif d then 1 else 0)], 50)]⟩ (by kernel_rfl) (by kernel_rfl) ?_
  refine At.appOutG 5 1 1 A108 n108 c108 b8 m8 k8 (fun _ => False) [] w.heap.size xs8 (bv (leb (IntKind.u64.wrap ea).toNat)) (by kernel_rfl) (by simp only [bv, List.length_map]; omega) (bv_one _) (fun ρ w1 hm hf => ⟨hf.1, ent_src (hf.2 _ (List.mem_singleton.2 rfl))⟩) (by omega) (by simp only [maxLen]; omega) (Nat.le_refl _) ?_
  intro A109 c109
  generalize hn9 : n108 + m8 = n109
  have hb9 : n109 ≤ 90 := by omega
  refine At.nameRow fun xs9 hx9 => ?_
  refine At.toJ (RowF.stable) RowF.fewer 20 300 [3, 5, 12, 16] 1 ⟨pops B13 [1, 1, 1, 0, 1, 4, 4, 1, 0, 4] 5, [.block 1, .seq (sub B13 [1, 1, 1, 0, 1, 4, 4, 1, 1]), .rounds (sub B13 [1, 1, 1, 0, 1, 4, 4]) 10, .block 0, .seq (sub B13 [1, 1, 1, 1])], [(3, .lp 0 0), (5, .v (.int .i64 9)), (12, .sl A109 n109 c109), (16, .io IntKind.u64 (IntKind.u64.wrap (bif d then 1 else 0)))], [([.io .i64 g, .io .i64 s, .io .i64 k, .io .i64 sz, .io .i64 sl, .io .i64 of, .io .i64 gp, .io .i64 lt, .io .i64 ea, .io .i64 (bif d then 1 else 0)], 50)]⟩ (by kernel_rfl) (by kernel_rfl) ?_
  refine At.mono (F' := RowE w (fun _ => False) [] w.heap.size 5 1 A109 n109 c109 xs9 []) (fun ρ w1 h => ⟨h, by simp⟩) ?_

  have hpos9 := leb_pos (IntKind.u64.wrap (bif d then 1 else 0)).toNat
  have hle9 := leb_u64 (bif d then 1 else 0)
  refine At.mkrowE (e2 := 5) (size2 := 1) 39 [.io .u64 (IntKind.u64.wrap (bif d then 1 else 0))] (fun A n c => .sl A n c) (bv (leb (IntKind.u64.wrap (bif d then 1 else 0)).toNat)) (by kernel_rfl) (by kernel_rfl) (by kernel_rfl) (by kernel_rfl) (by kernel_rfl) (bv_ne hpos9) (fun ρ w1 hm hf => rnumber_any _ (u64_pos _).1 (u64_pos _).2 w1 (by omega)) ?_
  intro B9 m9 k9
  refine At.mono (F' := fun ρ w1 => RowE w (fun _ => False) [] w.heap.size 5 1 A109 n109 c109 xs9 [(B9, bv (leb (IntKind.u64.wrap (bif d then 1 else 0)).toNat))] ρ w1 ∧ (m9 = (leb (IntKind.u64.wrap (bif d then 1 else 0)).toNat).length ∧ ∃ b, B9 = some b)) (fun ρ w1 h => ⟨h.1, by have := h.2.1; simp only [bv, List.length_map] at this; omega, ent_some (h.1.2 _ (List.mem_singleton.2 rfl))⟩) (At.pure ?_)
  rintro ⟨hm9, b9, rfl⟩
  refine At.toJ (RowE.stable) RowE.fewer 20 300 [3, 5, 12, 17] 1 ⟨pops B13 [1, 1, 1, 0, 1, 4, 4, 1, 0, 4] 6, [.block 1, .seq (sub B13 [1, 1, 1, 0, 1, 4, 4, 1, 1]), .rounds (sub B13 [1, 1, 1, 0, 1, 4, 4]) 10, .block 0, .seq (sub B13 [1, 1, 1, 1])], [(3, .lp 0 0), (5, .v (.int .i64 9)), (12, .sl A109 n109 c109), (17, .sl (some b9) m9 k9)], [([.io .i64 g, .io .i64 s, .io .i64 k, .io .i64 sz, .io .i64 sl, .io .i64 of, .io .i64 gp, .io .i64 lt, .io .i64 ea, .io .i64 (bif d then 1 else 0)], 50)]⟩ (by kernel_rfl) (by kernel_rfl) ?_
  refine At.appOutG 5 1 1 A109 n109 c109 b9 m9 k9 (fun _ => False) [] w.heap.size xs9 (bv (leb (IntKind.u64.wrap (bif d then 1 else 0)).toNat)) (by kernel_rfl) (by simp only [bv, List.length_map]; omega) (bv_one _) (fun ρ w1 hm hf => ⟨hf.1, ent_src (hf.2 _ (List.mem_singleton.2 rfl))⟩) (by omega) (by simp only [maxLen]; omega) (Nat.le_refl _) ?_
  intro A110 c110
  generalize hn10 : n109 + m9 = n110
  have hb10 : n110 ≤ 100 := by omega
  refine At.nameRow fun xs10 hx10 => ?_
  refine At.toJ (RowF.stable) RowF.fewer 20 300 [2] 0 ⟨.exit .ret, [], [(2, .sl A110 n110 c110)], []⟩ (by kernel_rfl) (by kernel_rfl) ?_
  refine At.ret (by kernel_rfl) (.sl A110 n110 c110) (by kernel_rfl) ?_
  intro ρ w9 hm hf
  refine ⟨_, _, _, rfl, ?_⟩
  have e : xs10 = bv (nums [g, s, k, sz, sl, of, gp, lt, ea, (bif d then 1 else 0)]) := by
    rw [hx10, hx9, hx8, hx7, hx6, hx5, hx4, hx3, hx2, hx1]
    simp only [nums, bv, List.flatMap_cons, List.flatMap_nil, List.map_append, List.append_assoc, List.nil_append, List.append_nil]
  rw [← e]
  exact RowF.fewer _ _ 0 (Nat.zero_le _) hf

end Go.Proofs.YtiehnigbcfkcdaaGreatDoor
