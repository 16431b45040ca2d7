import Derived.Test.YtiehnigbcfkcdaaGreatDoorRows
import Derived.Test.YtiehnigbcfkcdaaGreatDoorSxM
set_option linter.unusedSimpArgs false
set_option linter.unusedVariables false
namespace Go.Proofs.YtiehnigbcfkcdaaGreatDoor
open Go.RowKit Go.Sx

/-- A number's bytes, seven bits each, the lowest first. -/
def leb (x : Nat) : List Nat := if h : x < 128 then [x] else (x % 128 + 128) :: leb (x / 128)
termination_by x
decreasing_by omega
theorem leb_small {x : Nat} (h : x < 128) : leb x = [x] := by rw [leb]; simp [h]
theorem leb_big {x : Nat} (h : ¬ x < 128) : leb x = (x % 128 + 128) :: leb (x / 128) := by rw [leb]; simp [h]
theorem leb_pos (x : Nat) : 1 ≤ (leb x).length := by rw [leb]; split <;> simp
def bv (l : List Nat) : List Value := l.map fun d : Nat => Value.int .u8 (d : Int)
theorem bv_cons (d : Nat) (l : List Nat) : bv (d :: l) = Value.int .u8 (d : Int) :: bv l := rfl
theorem byte_low {y : Int} (h : 0 ≤ y) : IntKind.u8.wrap y = ((y.toNat % 256 : Nat) : Int) := by
  simp [IntKind.wrap, IntKind.bits, IntKind.signed]
  omega
theorem byte_or_all : ∀ z : Fin 256, IntKind.u8.wrap ↑(BitVec.ofInt IntKind.u8.bits (z.val : Int) ||| BitVec.ofInt IntKind.u8.bits 128).toNat = ((z.val % 128 + 128 : Nat) : Int) := by decide +kernel
theorem byte_or {y : Int} (h : 0 ≤ y) : IntKind.u8.wrap ↑(BitVec.ofInt IntKind.u8.bits (IntKind.u8.wrap y) ||| BitVec.ofInt IntKind.u8.bits 128).toNat = ((y.toNat % 128 + 128 : Nat) : Int) := by
  rw [byte_low h]
  have := byte_or_all ⟨y.toNat % 256, by omega⟩
  simp only at this
  rw [this]
  omega
theorem shr7 {y : Int} (h : 0 ≤ y) : y.fdiv (2 ^ min (Int.toNat 7) IntKind.u64.bits) = ((y.toNat / 128 : Nat) : Int) := by
  have : (2 : Int) ^ min (Int.toNat 7) IntKind.u64.bits = 128 := by decide
  rw [this]
  obtain ⟨n, rfl⟩ := Int.eq_ofNat_of_zero_le h
  rw [Int.fdiv_eq_ediv_of_nonneg _ (by omega)]
  simp
structure NumSt where
  A : Option Addr
  n : Nat
  c : Nat
  xs : List Value
  x : Int
def frNum (s : NumSt) : Fr := [(0, .sl s.A s.n s.c), (1, .io .u64 s.x)]
def GNum (w0 : World) (row0 : Option Nat) (base : Nat) (l : List Value) (k : Nat) (s : NumSt) (ρ : List Nat) (w : World) : Prop :=
  RowF w0 (fun k => some k = row0) [] base 5 1 s.A s.n s.c s.xs ρ w ∧ (0 ≤ s.x ∧ s.xs ++ bv (leb s.x.toNat) = l ∧ s.n + (leb s.x.toNat).length = k)

noncomputable def B52 : Code := (Tryz.f52.body).getD .skip
set_option maxHeartbeats 4000000 in
set_option maxRecDepth 100000 in
theorem number_any (base : Nat) (A : Option Addr) (n c : Nat) (xs : List Value) (x : Int) (hx : 0 ≤ x) (w : World) (hb : base ≤ w.heap.size) (hr : w.ownsRow base 5 1 (.slice A n c) n xs) (hn : n + (leb x.toNat).length ≤ 140737488355328) :
    Calls Tryz.prog 52 #[.slice A n c, .int .u64 x] w fun e w' => ∃ A' n' c', e = .returned (.slice A' n' c') ∧ RowF w (fun k => some k = (Value.slice A n c).ownBlock) [] base 5 1 A' n' c' (xs ++ bv (leb x.toNat)) [] w' := by
  refine enterF (N := base) (F := RowF w (fun k => some k = (Value.slice A n c).ownBlock) [] base 5 1 A n c xs) (fn := Tryz.f52) (c := B52) [.sl A n c, .io .u64 x] Tryz.func52 rfl rfl hb ⟨⟨⟨hr, by simp⟩, hb⟩, FrameR.start _ [] (by simp), fun g h => .inl h.symm⟩ ?_
  refine At.toJ (RowF.stable) RowF.fewer 0 100 [0, 1] 0 ⟨.code (sub B52 [1, 0, 4]), [.block 0, .seq (sub B52 [1, 1])], [(0, .sl A n c), (1, .io IntKind.u64 x)], []⟩ (by kernel_rfl) (by kernel_rfl) ?_
  refine At.loop (σ := NumSt) (sub B52 [1,0,4,4]) frNum (fun _ => []) (GNum w (Value.slice A n c).ownBlock base (xs ++ bv (leb x.toNat)) (n + (leb x.toNat).length)) (fun s => s.x.toNat) ⟨A, n, c, xs, x⟩ (by kernel_rfl) (by unfold subFr; kernel_rfl) (by kernel_rfl) (fun _ _ _ _ h => ⟨h, hx, rfl, rfl⟩) ?_
  generalize (Value.slice A n c).ownBlock = row0
  generalize hl : xs ++ bv (leb x.toNat) = l
  generalize hk : n + (leb x.toNat).length = k at hn ⊢
  clear hr hx hl hk
  rintro ⟨A, n, c, ys, y⟩
  refine At.pure fun ⟨hy, hl, hk⟩ => ?_
  simp only at hy hl hk ⊢
  have hpos := leb_pos y.toNat
  refine At.toJ (RowF.stable) RowF.fewer 0 100 [0, 1, 6] 0 ⟨.code (sub B52 [1, 0, 4, 4, 0, 1]), [.seq (sub B52 [1, 0, 4, 4, 1]), .next (Sx.Next base w Tryz.f52.ntmps frNum (fun x => []) (GNum w row0 base l k) (fun s => s.x.toNat) (NumSt.mk A n c ys y)), .block 0, .seq (sub B52 [1, 1])], [(0, .sl A n c), (1, .io IntKind.u64 y), (6, .bo (decide ((NumSt.mk A n c ys y).x > 127)))], []⟩ (by kernel_rfl) (by kernel_rfl) ?_
  rcases Bool.eq_false_or_eq_true (decide ((NumSt.mk A n c ys y).x > 127)) with b0 | b0
  · refine At.res 6 (decide ((NumSt.mk A n c ys y).x > 127)) true (by kernel_rfl) b0 ?_
    refine At.toJ (RowF.stable) RowF.fewer 0 100 [1, 9, 13] 1 ⟨pops B52 [1, 0, 4, 4, 1, 0, 4] 5, [.block 1, .seq (sub B52 [1, 0, 4, 4, 1, 1]), .next (Sx.Next base w Tryz.f52.ntmps frNum (fun x => []) (GNum w row0 base l k) (fun s => s.x.toNat) (NumSt.mk A n c ys y)), .block 0, .seq (sub B52 [1, 1])], [(1, .io IntKind.u64 y), (9, .sl A n c), (13, .ls 0 0 1 1)], [([.io IntKind.u8 (IntKind.u8.wrap ↑(BitVec.ofInt IntKind.u8.bits (IntKind.u8.wrap y) ||| BitVec.ofInt IntKind.u8.bits 128).toNat)], 5)]⟩ (by kernel_rfl) (by kernel_rfl) ?_
    refine At.app (33) (5) (1) (1) (A) (n) (c) (1) ([.io IntKind.u8 (IntKind.u8.wrap ↑(BitVec.ofInt IntKind.u8.bits (IntKind.u8.wrap y) ||| BitVec.ofInt IntKind.u8.bits 128).toNat)]) _ _ _ _ ([.int IntKind.u8 (IntKind.u8.wrap ↑(BitVec.ofInt IntKind.u8.bits (IntKind.u8.wrap y) ||| BitVec.ofInt IntKind.u8.bits 128).toNat)]) (by kernel_rfl) (fun ρ => by kernel_rfl) (by first | omega | (simp only [Go.maxLen]; omega)) (by first | omega | (simp only [Go.maxLen]; omega)) (by first | omega | (simp only [Go.maxLen]; omega)) fun A1 c1 => ?_
    refine At.toJ (RowF.stable) RowF.fewer 0 100 [0, 1] 0 ⟨.exit .normal, [.next (Sx.Next base w Tryz.f52.ntmps frNum (fun x => []) (GNum w row0 base l k) (fun s => s.x.toNat) (NumSt.mk A n c ys y)), .block 0, .seq (sub B52 [1, 1])], [(0, .sl A1 (n + 1) c1), (1, .io IntKind.u64 (y.fdiv (2 ^ min (Int.toNat 7) IntKind.u64.bits)))], []⟩ (by kernel_rfl) (by kernel_rfl) ?_
    have hy127 : 127 < y := by simpa using b0
    have hbig : leb y.toNat = _ := leb_big (x := y.toNat) (by omega)
    rw [byte_or hy]
    refine At.next (σ := NumSt) (NumSt.mk A1 (n + 1) c1 (ys ++ [.int .u8 ((y.toNat % 128 + 128 : Nat) : Int)]) (y.fdiv (2 ^ min (Int.toNat 7) IntKind.u64.bits))) rfl rfl (by unfold subFr; kernel_rfl) (by kernel_rfl) ?_ ?_
    · intro ρ a w hi hf
      refine ⟨hf, ?_, ?_, ?_⟩
      · simp only [shr7 hy]; omega
      · simp only [shr7 hy, Int.toNat_natCast, List.append_assoc, List.cons_append, List.nil_append]
        rw [← hl, hbig, bv_cons]
      · simp only [shr7 hy, Int.toNat_natCast]
        rw [← hk, hbig, List.length_cons]; omega
    · simp only [shr7 hy, Int.toNat_natCast]; omega
  · refine At.res 6 (decide ((NumSt.mk A n c ys y).x > 127)) false (by kernel_rfl) b0 ?_
    refine At.toJ (RowF.stable) RowF.fewer 0 100 [15, 18] 1 ⟨pops B52 [1, 1, 0] 4, [.seq (sub B52 [1, 1, 1])], [(15, .sl A n c), (18, .ls 0 0 1 1)], [([.io IntKind.u8 (IntKind.u8.wrap y)], 5)]⟩ (by kernel_rfl) (by kernel_rfl) ?_
    refine At.app (33) (5) (1) (1) (A) (n) (c) (1) ([.io IntKind.u8 (IntKind.u8.wrap y)]) _ _ _ _ ([.int IntKind.u8 (IntKind.u8.wrap y)]) (by kernel_rfl) (fun ρ => by kernel_rfl) (by first | omega | (simp only [Go.maxLen]; omega)) (by first | omega | (simp only [Go.maxLen]; omega)) (by first | omega | (simp only [Go.maxLen]; omega)) fun A2 c2 => ?_
    refine At.toJ (RowF.stable) RowF.fewer 0 100 [4] 0 ⟨.exit .ret, [], [(4, .sl A2 (n + 1) c2)], []⟩ (by kernel_rfl) (by kernel_rfl) ?_
    refine At.ret (by kernel_rfl) (.sl A2 (n + 1) c2) (by kernel_rfl) ?_
    have hy127 : ¬ 127 < y := by simpa using b0
    have hsm : leb y.toNat = _ := leb_small (x := y.toNat) (by omega)
    have hlow : IntKind.u8.wrap y = (y.toNat : Int) := by rw [byte_low hy]; omega
    intro ρ w9 _ hf
    refine ⟨_, _, _, rfl, ?_⟩
    rw [hlow] at hf
    rw [← hl, hsm]
    exact RowF.fewer _ _ 0 (Nat.zero_le _) hf

end Go.Proofs.YtiehnigbcfkcdaaGreatDoor
