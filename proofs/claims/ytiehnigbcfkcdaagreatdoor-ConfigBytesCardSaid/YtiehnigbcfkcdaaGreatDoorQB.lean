import Derived.Test.YtiehnigbcfkcdaaGreatDoorQA
set_option linter.unusedSimpArgs false
set_option linter.unusedVariables false
namespace Go.Proofs.YtiehnigbcfkcdaaGreatDoor
open Go.RowKit Go.Sx

/-- A slice whose bytes are these. -/
def SlB (w : World) (A : Option Addr) (n : Nat) (bs : List Nat) : Prop := bs.length = n ∧ (A = none → bs = []) ∧ ∀ a, A = some a → ∀ (j b : Nat), bs[j]? = some b → w.cell? (a.add j) = some (.int .u8 (b : Int))
theorem SlB.below {w w' : World} {A : Option Addr} {n : Nat} {bs : List Nat} (h : SlB w A n bs) (hb : Below w.heap.size w w') : SlB w' A n bs :=
  ⟨h.1, h.2.1, fun a ha j b hj => by
    have h3 := h.2.2 a ha j b hj
    have hlt := World.block_lt_of_cell? w _ h3
    rw [World.cell?_of_block (hb.block _ hlt)]
    exact h3⟩
def crcGo : BitVec 32 → List Nat → BitVec 32
  | x, [] => x
  | x, b :: l => crcGo (four (four (x ^^^ BitVec.ofNat 32 b))) l
theorem xorU (x : BitVec 32) {b : Nat} (hb : b < 256) : IntKind.u32.wrap ((BitVec.ofInt IntKind.u32.bits ((x.toNat : Nat) : Int) ^^^ BitVec.ofInt IntKind.u32.bits (IntKind.u32.wrap (b : Int))).toNat : Int) = (((x ^^^ BitVec.ofNat 32 b).toNat : Nat) : Int) := by
  have e : BitVec.ofInt IntKind.u32.bits (IntKind.u32.wrap (b : Int)) = BitVec.ofNat 32 b := by
    rw [wrap32 (by omega)]
    exact BitVec.ofInt_natCast 32 b
  rw [of32, e]
  exact wrapB (x ^^^ BitVec.ofNat 32 b)
theorem cpl32 (x : BitVec 32) : IntKind.u32.wrap ((BitVec.ofInt IntKind.u32.bits (if IntKind.u32.signed then -1 else IntKind.u32.max) ^^^ BitVec.ofInt IntKind.u32.bits ((x.toNat : Nat) : Int)).toNat : Int) = (((~~~x).toNat : Nat) : Int) := by
  have e : BitVec.ofInt IntKind.u32.bits (if IntKind.u32.signed then -1 else IntKind.u32.max) = ~~~(0#32) := rfl
  have h : ~~~(0#32) ^^^ x = ~~~x := by
    ext i hi
    rw [BitVec.getElem_xor, BitVec.getElem_not, BitVec.getElem_not, BitVec.getElem_zero]
    cases x[i] <;> rfl
  rw [of32, e]
  have h2 := wrapB (~~~(0#32) ^^^ x)
  rw [h] at h2
  rw [← h2, ← h]
  rfl
structure CrcSt where
  i : Nat
  x : BitVec 32
def frM (A : Option Addr) (n c : Nat) : CrcSt → Fr
  | ⟨i, x⟩ => [(0, .io .u32 ((x.toNat : Nat) : Int)), (9, .sl A n c), (10, .io .i64 (n : Int)), (11, .io .i64 (i : Int))]
def frRM (A : Option Addr) (n c : Nat) : CrcSt → Fr
  | ⟨i, x⟩ => [(1, .sl A n c), (5, .io .u32 ((x.toNat : Nat) : Int)), (6, .io .i64 (i : Int))]
def locM (_ : CrcSt) : Sx.Loc := []
def GM (n : Nat) (bs : List Nat) (R : BitVec 32) (s : CrcSt) (ρ : List Nat) (w : World) : Prop := noF ρ w ∧ (s.i ≤ n ∧ crcGo s.x (bs.drop s.i) = R)
def muM (n : Nat) (s : CrcSt) : Nat := n - s.i
theorem drop_one {bs : List Nat} {j b : Nat} (h : bs[j]? = some b) : bs.drop j = b :: bs.drop (j + 1) := drop_at h

noncomputable def B54 : Code := (Tryz.f54.body).getD .skip
set_option maxHeartbeats 4000000 in
set_option maxRecDepth 100000 in
theorem more_any (X : BitVec 32) (A : Option Addr) (n c : Nat) (bs : List Nat) (hbs : ∀ b ∈ bs, b < 256) (hn : n ≤ 140737488355328) (w : World) (hb : SlB w A n bs) (htab : Lib.TabIs Tryz.prog w "keepsake/crc.fours" .u32 foursTab) :
    Calls Tryz.prog 54 #[.int .u32 ((X.toNat : Nat) : Int), .slice A n c] w fun e w' => e = .returned (.int .u32 (((~~~(crcGo (~~~X) bs)).toNat : Nat) : Int)) ∧ Below w.heap.size w w' := by
  refine enter (fn := Tryz.f54) (c := B54) [.io .u32 ((X.toNat : Nat) : Int), .sl A n c] Tryz.func54 rfl rfl ?_
  refine At.to (noF_stable) (noF_fewer) 0 300 [1, 7] 0 ⟨pops B54 [1, 0] 1, [.seq (sub B54 [1, 1])], [(1, .sl A n c), (7, .io IntKind.u32 (↑X.toNat : Int))], []⟩ (by kernel_rfl) (by kernel_rfl) ?_
  refine At.cpl .u32 ((X.toNat : Nat) : Int) (((~~~X).toNat : Nat) : Int) (by kernel_rfl) (cpl32 X) noF_stable ?_
  refine At.to (noF_stable) (noF_fewer) 0 300 [0, 9, 10, 11] 0 ⟨.code (sub B54 [1, 1, 0, 1, 4]), [.block 0, .seq (sub B54 [1, 1, 1])], [(0, .io IntKind.u32 (↑(~~~X).toNat : Int)), (9, .sl A n c), (10, .io .i64 (↑n : Int)), (11, .v (.int .i64 0))], []⟩ (by kernel_rfl) (by kernel_rfl) ?_
  generalize hR : crcGo (~~~X) bs = R
  refine At.canon _ rfl ?_
  refine At.loop (σ := CrcSt) (sub B54 [1, 1, 0, 1, 4, 4]) (frM A n c) locM (GM n bs R) (muM n) ⟨0, ~~~X⟩ (by kernel_rfl) (by unfold subFr; kernel_rfl) (by kernel_rfl) (fun _ _ _ _ h => ⟨h, Nat.zero_le _, hR⟩) ?_
  clear hR
  rintro ⟨i, x⟩
  refine At.pure fun ⟨h1, h2⟩ => ?_
  simp only at h1 h2
  have hl := hb.1
  refine At.to (noF_stable) (noF_fewer) 0 300 [0, 9, 10, 11, 12] 0 ⟨.code (sub B54 [1, 1, 0, 1, 4, 4, 1, 0]), [.seq (sub B54 [1, 1, 0, 1, 4, 4, 1, 1]), .next (Sx.Next w.heap.size w Tryz.f54.ntmps (frM A n c) locM (GM n bs R) (muM n) (CrcSt.mk i x)), .block 0, .seq (sub B54 [1, 1, 1])], [(0, .io IntKind.u32 (↑x.toNat : Int)), (9, .sl A n c), (10, .io .i64 (↑n : Int)), (11, .io .i64 (↑i : Int)), (12, .bo (decide ((↑i : Int) < (↑n : Int))))], []⟩ (by kernel_rfl) (by kernel_rfl) ?_
  rcases Bool.eq_false_or_eq_true (decide ((↑i : Int) < (↑n : Int))) with b0 | b0
  · refine At.res 12 (decide ((↑i : Int) < (↑n : Int))) true (by kernel_rfl) b0 ?_
    refine At.to (noF_stable) (noF_fewer) 0 300 [0, 9, 10, 11] 0 ⟨pops B54 [1, 1, 0, 1, 4, 4, 1, 1, 0, 4, 0] 0, [.seq (sub B54 [1, 1, 0, 1, 4, 4, 1, 1, 0, 4, 1]), .block 1, .seq (sub B54 [1, 1, 0, 1, 4, 4, 1, 1, 1]), .next (Sx.Next w.heap.size w Tryz.f54.ntmps (frM A n c) locM (GM n bs R) (muM n) (CrcSt.mk i x)), .block 0, .seq (sub B54 [1, 1, 1])], [(0, .io IntKind.u32 (↑x.toNat : Int)), (9, .sl A n c), (10, .io .i64 (↑n : Int)), (11, .io .i64 (↑i : Int))], []⟩ (by kernel_rfl) (by kernel_rfl) ?_
    have hi : i < n := by have := of_decide_eq_true b0; omega
    clear b0
    obtain ⟨a, rfl⟩ : ∃ a, A = some a := by
      cases A with
      | none => have := hb.2.1 rfl; subst this; simp at hl; omega
      | some a => exact ⟨a, rfl⟩
    obtain ⟨y, hz⟩ : ∃ y, bs[i]? = some y := ⟨_, List.getElem?_eq_getElem (by omega)⟩
    have hy : y < 256 := hbs y (List.mem_of_getElem? hz)
    rw [drop_one hz] at h2
    refine At.idx a n 1 (i : Int) (by kernel_rfl) (by omega) (by omega) noF_stable ?_
    refine At.to (noF_stable) (noF_fewer) 0 300 [0, 9, 10, 11, 13] 0 ⟨pops B54 [1, 1, 0, 1, 4, 4, 1, 1, 0, 4, 0] 1, [.seq (sub B54 [1, 1, 0, 1, 4, 4, 1, 1, 0, 4, 1]), .block 1, .seq (sub B54 [1, 1, 0, 1, 4, 4, 1, 1, 1]), .next (Sx.Next w.heap.size w Tryz.f54.ntmps (frM (some a) n c) locM (GM n bs R) (muM n) (CrcSt.mk i x)), .block 0, .seq (sub B54 [1, 1, 1])], [(0, .io IntKind.u32 (↑x.toNat : Int)), (9, .sl (some a) n c), (10, .io .i64 (↑n : Int)), (11, .io .i64 (↑i : Int)), (13, .v (.pointer (some (a.add ((↑i : Int).toNat * 1)))))], []⟩ (by kernel_rfl) (by kernel_rfl) ?_
    refine At.ldx (a.add ((i : Int).toNat * 1)) (.io .u8 (y : Int)) (by kernel_rfl) noF_stable (fun ρ w1 hm hf => by rw [Int.toNat_natCast, Nat.mul_one]; exact (hb.below hm.below).2.2 a rfl i y hz) ?_
    refine At.to (noF_stable) (noF_fewer) 0 300 [9, 10, 11, 18] 0 ⟨pops B54 [1, 1, 0, 1, 4, 4, 1, 1, 0, 4, 1] 4, [.block 1, .seq (sub B54 [1, 1, 0, 1, 4, 4, 1, 1, 1]), .next (Sx.Next w.heap.size w Tryz.f54.ntmps (frM (some a) n c) locM (GM n bs R) (muM n) (CrcSt.mk i x)), .block 0, .seq (sub B54 [1, 1, 1])], [(9, .sl (some a) n c), (10, .io .i64 (↑n : Int)), (11, .io .i64 (↑i : Int)), (18, .io IntKind.u32 (IntKind.u32.wrap (↑(BitVec.ofInt IntKind.u32.bits (↑x.toNat : Int) ^^^ BitVec.ofInt IntKind.u32.bits (IntKind.u32.wrap (↑y : Int))).toNat : Int)))], []⟩ (by kernel_rfl) (by kernel_rfl) ?_
    rw [xorU x hy]
    refine At.call noF_stable 71 [.io .u32 (((x ^^^ BitVec.ofNat 32 y).toNat : Nat) : Int)] (.io .u32 (((four (four (x ^^^ BitVec.ofNat 32 y))).toNat : Nat) : Int)) (by kernel_rfl) (by kernel_rfl) (by kernel_rfl) (fun ρ _ w1 hi _ => eight_any _ w1 (tab_below htab hi.mem.below rfl)) ?_
    refine At.to (noF_stable) (noF_fewer) 0 300 [0, 9, 10, 11] 0 ⟨.exit .normal, [.next (Sx.Next w.heap.size w Tryz.f54.ntmps (frM (some a) n c) locM (GM n bs R) (muM n) (CrcSt.mk i x)), .block 0, .seq (sub B54 [1, 1, 1])], [(0, .io IntKind.u32 (↑(four (four (x ^^^ BitVec.ofNat 32 y))).toNat : Int)), (9, .sl (some a) n c), (10, .io .i64 (↑n : Int)), (11, .io .i64 (IntKind.i64.wrap ((↑i : Int) + 1)))], []⟩ (by kernel_rfl) (by kernel_rfl) ?_
    have hw3 : IntKind.i64.wrap ((i : Int) + 1) = ((i + 1 : Nat) : Int) := by
      rw [wrap63 (by omega) (by omega)]
      omega
    rw [hw3]
    refine At.next (σ := CrcSt) ⟨i + 1, four (four (x ^^^ BitVec.ofNat 32 y))⟩ rfl rfl (by unfold subFr; kernel_rfl) (by kernel_rfl) ?_ ?_
    · intro ρ a' w' hi' hf
      exact ⟨hf, by simp only; omega, h2⟩
    · simp only [muM]
      omega
  · refine At.res 12 (decide ((↑i : Int) < (↑n : Int))) false (by kernel_rfl) b0 ?_
    refine At.to (noF_stable) (noF_fewer) 0 300 [21] 0 ⟨pops B54 [1, 1, 1, 0] 1, [.seq (sub B54 [1, 1, 1, 1])], [(21, .io IntKind.u32 (↑x.toNat : Int))], []⟩ (by kernel_rfl) (by kernel_rfl) ?_
    have hi : ¬ (i : Int) < n := of_decide_eq_false b0
    have hd : bs.drop i = [] := List.drop_eq_nil_of_le (by omega)
    rw [hd] at h2
    refine At.to (noF_stable) (noF_fewer) 0 300 [21] 0 ⟨pops B54 [1, 1, 1, 0] 1, [.seq (sub B54 [1, 1, 1, 1])], [(21, .io IntKind.u32 (↑x.toNat : Int))], []⟩ (by kernel_rfl) (by kernel_rfl) ?_
    refine At.cpl .u32 ((x.toNat : Nat) : Int) (((~~~x).toNat : Nat) : Int) (by kernel_rfl) (cpl32 x) noF_stable ?_
    refine At.to (noF_stable) (noF_fewer) 0 300 [4] 0 ⟨.exit .ret, [], [(4, .io IntKind.u32 (↑(~~~x).toNat : Int))], []⟩ (by kernel_rfl) (by kernel_rfl) ?_
    refine At.ret (by kernel_rfl) (.io IntKind.u32 (↑(~~~x).toNat : Int)) (by kernel_rfl) ?_
    intro ρ w9 hm hf
    refine ⟨?_, hm.below⟩
    rw [← h2]
    rfl

noncomputable def B60 : Code := (Tryz.f60.body).getD .skip
set_option maxHeartbeats 4000000 in
set_option maxRecDepth 100000 in
theorem rmore_any (X : BitVec 32) (A : Option Addr) (n c : Nat) (bs : List Nat) (hbs : ∀ b ∈ bs, b < 256) (hn : n ≤ 140737488355328) (w : World) (hb : SlB w A n bs) :
    Calls Tryz.prog 60 #[.int .u32 ((X.toNat : Nat) : Int), .slice A n c] w fun e w' => e = .returned (.int .u32 (((~~~(crcGo (~~~X) bs)).toNat : Nat) : Int)) ∧ Below w.heap.size w w' := by
  refine enter (fn := Tryz.f60) (c := B60) [.io .u32 ((X.toNat : Nat) : Int), .sl A n c] Tryz.func60 rfl rfl ?_
  refine At.to (noF_stable) (noF_fewer) 0 300 [1, 7] 0 ⟨pops B60 [1, 0] 1, [.seq (sub B60 [1, 1])], [(1, .sl A n c), (7, .io IntKind.u32 (↑X.toNat : Int))], []⟩ (by kernel_rfl) (by kernel_rfl) ?_
  refine At.call (noF_stable) 78 [.io IntKind.u32 (↑X.toNat : Int)] (.io IntKind.u32 (↑(~~~X).toNat : Int)) (by kernel_rfl) (by kernel_rfl) (by kernel_rfl) (fun _ _ w _ _ => turned_any (X) w) ?_
  refine At.to (noF_stable) (noF_fewer) 0 300 [1, 5, 6] 0 ⟨.code (sub B60 [1, 1, 0, 1, 4]), [.block 0, .seq (sub B60 [1, 1, 1])], [(1, .sl A n c), (5, .io IntKind.u32 (↑(~~~X).toNat : Int)), (6, .v (.int .i64 0))], []⟩ (by kernel_rfl) (by kernel_rfl) ?_
  generalize hR : crcGo (~~~X) bs = R
  refine At.canon _ rfl ?_
  refine At.loop (σ := CrcSt) (sub B60 [1, 1, 0, 1, 4, 4]) (frRM A n c) locM (GM n bs R) (muM n) ⟨0, ~~~X⟩ (by kernel_rfl) (by unfold subFr; kernel_rfl) (by kernel_rfl) (fun _ _ _ _ h => ⟨h, Nat.zero_le _, hR⟩) ?_
  clear hR
  rintro ⟨i, x⟩
  refine At.pure fun ⟨h1, h2⟩ => ?_
  simp only at h1 h2
  have hl := hb.1
  refine At.to (noF_stable) (noF_fewer) 0 300 [1, 5, 6, 12] 0 ⟨.code (sub B60 [1, 1, 0, 1, 4, 4, 0, 1]), [.seq (sub B60 [1, 1, 0, 1, 4, 4, 1]), .next (Sx.Next w.heap.size w Tryz.f60.ntmps (frRM A n c) locM (GM n bs R) (muM n) (CrcSt.mk i x)), .block 0, .seq (sub B60 [1, 1, 1])], [(1, .sl A n c), (5, .io IntKind.u32 (↑x.toNat : Int)), (6, .io .i64 (↑i : Int)), (12, .bo (decide ((↑i : Int) < (↑n : Int))))], []⟩ (by kernel_rfl) (by kernel_rfl) ?_
  rcases Bool.eq_false_or_eq_true (decide ((↑i : Int) < (↑n : Int))) with b0 | b0
  · refine At.res 12 (decide ((↑i : Int) < (↑n : Int))) true (by kernel_rfl) b0 ?_
    refine At.to (noF_stable) (noF_fewer) 0 300 [1, 6, 15, 16, 17] 0 ⟨pops B60 [1, 1, 0, 1, 4, 4, 1, 0, 4] 3, [.block 1, .seq (sub B60 [1, 1, 0, 1, 4, 4, 1, 1]), .next (Sx.Next w.heap.size w Tryz.f60.ntmps (frRM A n c) locM (GM n bs R) (muM n) (CrcSt.mk i x)), .block 0, .seq (sub B60 [1, 1, 1])], [(1, .sl A n c), (6, .io .i64 (↑i : Int)), (15, .io IntKind.u32 (↑x.toNat : Int)), (16, .sl A n c), (17, .io .i64 (↑i : Int))], []⟩ (by kernel_rfl) (by kernel_rfl) ?_
    have hi : i < n := by have := of_decide_eq_true b0; omega
    clear b0
    obtain ⟨a, rfl⟩ : ∃ a, A = some a := by
      cases A with
      | none => have := hb.2.1 rfl; subst this; simp at hl; omega
      | some a => exact ⟨a, rfl⟩
    obtain ⟨y, hz⟩ : ∃ y, bs[i]? = some y := ⟨_, List.getElem?_eq_getElem (by omega)⟩
    have hy : y < 256 := hbs y (List.mem_of_getElem? hz)
    rw [drop_one hz] at h2
    refine At.idx a n 1 (i : Int) (by kernel_rfl) (by omega) (by omega) noF_stable ?_
    refine At.to (noF_stable) (noF_fewer) 0 300 [1, 6, 15, 18] 0 ⟨pops B60 [1, 1, 0, 1, 4, 4, 1, 0, 4] 4, [.block 1, .seq (sub B60 [1, 1, 0, 1, 4, 4, 1, 1]), .next (Sx.Next w.heap.size w Tryz.f60.ntmps (frRM (some a) n c) locM (GM n bs R) (muM n) (CrcSt.mk i x)), .block 0, .seq (sub B60 [1, 1, 1])], [(1, .sl (some a) n c), (6, .io .i64 (↑i : Int)), (15, .io IntKind.u32 (↑x.toNat : Int)), (18, .v (.pointer (some (a.add ((↑i : Int).toNat * 1)))))], []⟩ (by kernel_rfl) (by kernel_rfl) ?_
    refine At.ldx (a.add ((i : Int).toNat * 1)) (.io .u8 (y : Int)) (by kernel_rfl) noF_stable (fun ρ w1 hm hf => by rw [Int.toNat_natCast, Nat.mul_one]; exact (hb.below hm.below).2.2 a rfl i y hz) ?_
    refine At.to (noF_stable) (noF_fewer) 0 300 [1, 6, 21] 0 ⟨pops B60 [1, 1, 0, 1, 4, 4, 1, 0, 4] 7, [.block 1, .seq (sub B60 [1, 1, 0, 1, 4, 4, 1, 1]), .next (Sx.Next w.heap.size w Tryz.f60.ntmps (frRM (some a) n c) locM (GM n bs R) (muM n) (CrcSt.mk i x)), .block 0, .seq (sub B60 [1, 1, 1])], [(1, .sl (some a) n c), (6, .io .i64 (↑i : Int)), (21, .io IntKind.u32 (IntKind.u32.wrap (↑(BitVec.ofInt IntKind.u32.bits (↑x.toNat : Int) ^^^ BitVec.ofInt IntKind.u32.bits (IntKind.u32.wrap (↑y : Int))).toNat : Int)))], []⟩ (by kernel_rfl) (by kernel_rfl) ?_
    rw [xorU x hy]
    refine At.call noF_stable 79 [.io .u32 (((x ^^^ BitVec.ofNat 32 y).toNat : Nat) : Int)] (.io .u32 (((four (four (x ^^^ BitVec.ofNat 32 y))).toNat : Nat) : Int)) (by kernel_rfl) (by kernel_rfl) (by kernel_rfl) (fun ρ _ w1 hi _ => reight_any _ w1) ?_
    refine At.to (noF_stable) (noF_fewer) 0 300 [1, 5, 6] 0 ⟨.exit .normal, [.next (Sx.Next w.heap.size w Tryz.f60.ntmps (frRM (some a) n c) locM (GM n bs R) (muM n) (CrcSt.mk i x)), .block 0, .seq (sub B60 [1, 1, 1])], [(1, .sl (some a) n c), (5, .io IntKind.u32 (↑(four (four (x ^^^ BitVec.ofNat 32 y))).toNat : Int)), (6, .io .i64 (IntKind.i64.wrap ((↑i : Int) + 1)))], []⟩ (by kernel_rfl) (by kernel_rfl) ?_
    have hw3 : IntKind.i64.wrap ((i : Int) + 1) = ((i + 1 : Nat) : Int) := by
      rw [wrap63 (by omega) (by omega)]
      omega
    rw [hw3]
    refine At.next (σ := CrcSt) ⟨i + 1, four (four (x ^^^ BitVec.ofNat 32 y))⟩ rfl rfl (by unfold subFr; kernel_rfl) (by kernel_rfl) ?_ ?_
    · intro ρ a' w' hi' hf
      exact ⟨hf, by simp only; omega, h2⟩
    · simp only [muM]
      omega
  · refine At.res 12 (decide ((↑i : Int) < (↑n : Int))) false (by kernel_rfl) b0 ?_
    refine At.to (noF_stable) (noF_fewer) 0 300 [23] 0 ⟨pops B60 [1, 1, 1, 0] 1, [.seq (sub B60 [1, 1, 1, 1])], [(23, .io IntKind.u32 (↑x.toNat : Int))], []⟩ (by kernel_rfl) (by kernel_rfl) ?_
    have hi : ¬ (i : Int) < n := of_decide_eq_false b0
    have hd : bs.drop i = [] := List.drop_eq_nil_of_le (by omega)
    rw [hd] at h2
    refine At.to (noF_stable) (noF_fewer) 0 300 [23] 0 ⟨pops B60 [1, 1, 1, 0] 1, [.seq (sub B60 [1, 1, 1, 1])], [(23, .io IntKind.u32 (↑x.toNat : Int))], []⟩ (by kernel_rfl) (by kernel_rfl) ?_
    refine At.call (noF_stable) 78 [.io IntKind.u32 (↑x.toNat : Int)] (.io IntKind.u32 (↑(~~~x).toNat : Int)) (by kernel_rfl) (by kernel_rfl) (by kernel_rfl) (fun _ _ w _ _ => turned_any (x) w) ?_
    refine At.to (noF_stable) (noF_fewer) 0 300 [4] 0 ⟨.exit .ret, [], [(4, .io IntKind.u32 (↑(~~~x).toNat : Int))], []⟩ (by kernel_rfl) (by kernel_rfl) ?_
    refine At.ret (by kernel_rfl) (.io IntKind.u32 (↑(~~~x).toNat : Int)) (by kernel_rfl) ?_
    intro ρ w9 hm hf
    refine ⟨?_, hm.below⟩
    rw [← h2]
    rfl

end Go.Proofs.YtiehnigbcfkcdaaGreatDoor
