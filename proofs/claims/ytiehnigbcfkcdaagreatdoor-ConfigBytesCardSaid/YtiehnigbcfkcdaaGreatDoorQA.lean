import Derived.Test.YtiehnigbcfkcdaaGreatDoorG
import Derived.Test.YtiehnigbcfkcdaaGreatDoorSxCC
import Derived.Lib.LaidTab
set_option linter.unusedSimpArgs false
set_option linter.unusedVariables false
namespace Go.Proofs.YtiehnigbcfkcdaaGreatDoor
open Go.RowKit Go.Sx

/-- The table of four steps. -/
def foursTab : List Int := [0, 274646895, 549293790, 820201905, 1098587580, 1361435347, 1640403810, 1905808397, 2197175160, 2460548119, 2722870694, 2987750089, 3280807620, 3553878443, 3811616794, 4084100981]
theorem gFours : Tryz.prog.globalNamed "keepsake/crc.fours" = some 4 := by kernel_rfl
def step (x : BitVec 32) : BitVec 32 := (x >>> 1) ^^^ (if x.getLsbD 0 then 2197175160#32 else 0#32)
theorem step_xor (a b : BitVec 32) : step (a ^^^ b) = step a ^^^ step b := by
  unfold step
  rw [BitVec.ushiftRight_xor_distrib, BitVec.getLsbD_xor]
  generalize a.getLsbD 0 = p
  generalize b.getLsbD 0 = q
  ext i hi
  have e : ∀ r : Bool, (if r = true then 2197175160#32 else 0#32)[i] = (r && (2197175160#32)[i]) := by intro r; cases r <;> simp
  simp only [BitVec.getElem_xor, e]
  generalize (a >>> 1)[i] = u
  generalize (b >>> 1)[i] = v
  generalize (2197175160#32)[i] = t
  cases p <;> cases q <;> cases u <;> cases v <;> cases t <;> rfl
theorem step_even (a : BitVec 32) (h : a.getLsbD 0 = false) : step a = a >>> 1 := by unfold step; rw [h]; simp
def four (x : BitVec 32) : BitVec 32 := step (step (step (step x)))
theorem four_xor (a b : BitVec 32) : four (a ^^^ b) = four a ^^^ four b := by simp only [four, step_xor]
theorem four_hi (a : BitVec 32) (h : ∀ i, i < 4 → a.getLsbD i = false) : four a = a >>> 4 := by
  unfold four
  rw [step_even a (h 0 (by omega)), step_even (a >>> 1) (by have := h 1 (by omega); simp_all), step_even (a >>> 1 >>> 1) (by have := h 2 (by omega); simp_all), step_even (a >>> 1 >>> 1 >>> 1) (by have := h 3 (by omega); simp_all)]
  simp only [← BitVec.shiftRight_add]
theorem split15 (x : BitVec 32) : x = (x &&& 15#32) ^^^ (x &&& ~~~15#32) := by
  ext i h
  simp
  rw [show (4294967280#32)[i] = !(15#32)[i] from by rw [show (4294967280#32) = ~~~15#32 from rfl, BitVec.getElem_not]]
  cases x[i] <;> cases (15#32)[i] <;> rfl
theorem four_lo : ∀ i : Fin 16, four (BitVec.ofNat 32 i.val) = BitVec.ofInt 32 (foursTab.getD i.val 0) := by decide +kernel
theorem lt15 (x : BitVec 32) : (((x &&& 15#32).toNat : Nat) : Int) < 16 := by
  have : (x &&& 15#32).toNat ≤ 15 := by
    rw [BitVec.toNat_and]
    exact Nat.and_le_right
  omega
def fourT (x : BitVec 32) : BitVec 32 := BitVec.ofInt 32 (foursTab.getD (x &&& 15#32).toNat 0) ^^^ (x >>> 4)
theorem fourT_eq (x : BitVec 32) : fourT x = four x := by
  have h := lt15 x
  conv => rhs; rw [split15 x, four_xor]
  rw [four_hi (x &&& ~~~15#32) (fun i hi => ?_)]
  · unfold fourT
    have hl := four_lo ⟨(x &&& 15#32).toNat, by omega⟩
    simp only [BitVec.ofNat_toNat, BitVec.setWidth_eq] at hl
    rw [hl]
    congr 1
    ext i hi
    simp only [BitVec.getElem_ushiftRight, BitVec.getLsbD_and, BitVec.getLsbD_not]
    by_cases h32 : 4 + i < 32
    · have : (15#32).getLsbD (4 + i) = false := by
        have : ∀ j : Fin 28, (15#32).getLsbD (4 + j.val) = false := by decide +kernel
        exact this ⟨i, by omega⟩
      rw [this, decide_eq_true h32]
      cases x.getLsbD (4 + i) <;> rfl
    · rw [BitVec.getLsbD_of_ge x (4 + i) (by omega)]
      rfl
  · rw [BitVec.getLsbD_and, BitVec.getLsbD_not]
    have : ∀ j : Fin 4, (15#32).getLsbD j.val = true := by decide +kernel
    rw [this ⟨i, hi⟩]
    simp
theorem of32 (x : BitVec 32) : BitVec.ofInt IntKind.u32.bits ((x.toNat : Nat) : Int) = x := by
  show BitVec.ofInt 32 ((x.toNat : Nat) : Int) = x
  rw [BitVec.ofInt_natCast, BitVec.ofNat_toNat, BitVec.setWidth_eq]
theorem wrap32 {n : Nat} (h : n < 4294967296) : IntKind.u32.wrap (n : Int) = (n : Int) := by
  simp only [IntKind.wrap, IntKind.bits, IntKind.signed]
  simp
  omega
theorem wrapB (x : BitVec 32) : IntKind.u32.wrap ((x.toNat : Nat) : Int) = ((x.toNat : Nat) : Int) := wrap32 x.isLt
theorem idx15 (x : BitVec 32) : IntKind.u32.wrap ((BitVec.ofInt IntKind.u32.bits ((x.toNat : Nat) : Int) &&& BitVec.ofInt IntKind.u32.bits 15).toNat : Int) = (((x &&& 15#32).toNat : Nat) : Int) := by
  rw [of32]
  exact wrapB (x &&& 15#32)
theorem shr4 (x : BitVec 32) : (((x.toNat : Nat) : Int)).fdiv (2 ^ (min (4 : Int).toNat IntKind.u32.bits)) = (((x >>> 4).toNat : Nat) : Int) := by
  rw [show (2 : Int) ^ (min (4 : Int).toNat IntKind.u32.bits) = 16 from rfl, BitVec.toNat_ushiftRight, Nat.shiftRight_eq_div_pow, Int.fdiv_eq_ediv_of_nonneg _ (by omega)]
  rfl
theorem xorB (x : BitVec 32) : IntKind.u32.wrap ((BitVec.ofInt IntKind.u32.bits (foursTab.getD (x &&& 15#32).toNat 0) ^^^ BitVec.ofInt IntKind.u32.bits (((x.toNat : Nat) : Int).fdiv (2 ^ (min (4 : Int).toNat IntKind.u32.bits)))).toNat : Int) = (((fourT x).toNat : Nat) : Int) := by
  rw [shr4, of32]
  exact wrapB (fourT x)
theorem half32 (x : BitVec 32) : IntKind.u32.wrap ((((x.toNat : Nat) : Int)).tdiv 2) = (((x >>> 1).toNat : Nat) : Int) := by
  have e : (((x.toNat : Nat) : Int)).tdiv 2 = (((x >>> 1).toNat : Nat) : Int) := by
    rw [BitVec.toNat_ushiftRight, Nat.shiftRight_eq_div_pow, Int.tdiv_eq_ediv_of_nonneg (by omega)]
    rfl
  rw [e]
  exact wrapB (x >>> 1)
theorem odd32 (x : BitVec 32) : ((((x.toNat : Nat) : Int)).tmod 2 == 1) = x.getLsbD 0 := by
  rw [BitVec.getLsbD, Nat.testBit_zero, Bool.eq_iff_iff, beq_iff_eq, decide_eq_true_eq, Int.tmod_eq_emod_of_nonneg (by omega)]
  omega
theorem not32 (x : BitVec 32) : IntKind.u32.wrap (4294967295 - ((x.toNat : Nat) : Int)) = (((~~~x).toNat : Nat) : Int) := by
  have h := x.isLt
  rw [BitVec.toNat_not, show (4294967295 : Int) - ((x.toNat : Nat) : Int) = (((2 ^ 32 - 1 - x.toNat : Nat)) : Int) by omega]
  exact wrap32 (by omega)

noncomputable def B71 : Code := (Tryz.f71.body).getD .skip
set_option maxHeartbeats 4000000 in
set_option maxRecDepth 100000 in
theorem eight_any (X : BitVec 32) (w : World) (htab : Lib.TabIs Tryz.prog w "keepsake/crc.fours" .u32 foursTab) :
    Calls Tryz.prog 71 #[.int .u32 ((X.toNat : Nat) : Int)] w fun e w' => e = .returned (.int .u32 (((four (four X)).toNat : Nat) : Int)) ∧ Below w.heap.size w w' := by
  rw [← fourT_eq (four X), ← fourT_eq X]
  refine enter (fn := Tryz.f71) (c := B71) [.io .u32 ((X.toNat : Nat) : Int)] Tryz.func71 rfl rfl ?_
  refine At.to (noF_stable) (noF_fewer) 20 300 [0, 4] 0 ⟨pops B71 [1, 0] 2, [.seq (sub B71 [1, 1])], [(0, .io IntKind.u32 (↑X.toNat : Int)), (4, .io IntKind.u32 (IntKind.u32.wrap (↑(BitVec.ofInt IntKind.u32.bits (↑X.toNat : Int) &&& BitVec.ofInt IntKind.u32.bits 15).toNat : Int)))], []⟩ (by kernel_rfl) (by kernel_rfl) ?_
  have h15 := idx15 X
  refine At.ixa ⟨4, 0, none⟩ 16 1 (IntKind.u32.wrap ((BitVec.ofInt IntKind.u32.bits (((X).toNat : Nat) : Int) &&& BitVec.ofInt IntKind.u32.bits 15).toNat : Int)) (by kernel_rfl) (by rw [h15]; omega) (by rw [h15]; exact lt15 X) noF_stable ?_
  refine At.to (noF_stable) (noF_fewer) 20 300 [0, 5] 0 ⟨pops B71 [1, 0] 3, [.seq (sub B71 [1, 1])], [(0, .io IntKind.u32 (↑X.toNat : Int)), (5, .v (.pointer (some ((Addr.mk 4 0 none).add ((IntKind.u32.wrap (↑(BitVec.ofInt IntKind.u32.bits (↑X.toNat : Int) &&& BitVec.ofInt IntKind.u32.bits 15).toNat : Int)).toNat * 1)))))], []⟩ (by kernel_rfl) (by kernel_rfl) ?_
  rw [idx15 X]
  refine At.ldx (Addr.add ⟨4, 0, none⟩ ((((X &&& 15#32).toNat : Nat) : Int).toNat * 1)) (.io .u32 (foursTab.getD (X &&& 15#32).toNat 0)) (by kernel_rfl) noF_stable (fun ρ w1 hm hf => ?_) ?_
  · rw [Int.toNat_natCast, Nat.mul_one, add_ok, Nat.zero_add]
    exact (tab_below htab hm.below rfl).cell gFours _ (by have := lt15 X; show _ < 16; omega)
  refine At.to (noF_stable) (noF_fewer) 20 300 [0, 11] 0 ⟨pops B71 [1, 1, 0] 2, [.seq (sub B71 [1, 1, 1])], [(0, .io IntKind.u32 (IntKind.u32.wrap (↑(BitVec.ofInt IntKind.u32.bits (foursTab.getD (X &&& 15#32).toNat 0) ^^^ BitVec.ofInt IntKind.u32.bits ((↑X.toNat : Int).fdiv (2 ^ min (Int.toNat 4) IntKind.u32.bits))).toNat : Int))), (11, .io IntKind.u32 (IntKind.u32.wrap (↑(BitVec.ofInt IntKind.u32.bits (IntKind.u32.wrap (↑(BitVec.ofInt IntKind.u32.bits (foursTab.getD (X &&& 15#32).toNat 0) ^^^ BitVec.ofInt IntKind.u32.bits ((↑X.toNat : Int).fdiv (2 ^ min (Int.toNat 4) IntKind.u32.bits))).toNat : Int)) &&& BitVec.ofInt IntKind.u32.bits 15).toNat : Int)))], []⟩ (by kernel_rfl) (by kernel_rfl) ?_
  rw [xorB X]
  have h15 := idx15 (fourT X)
  refine At.ixa ⟨4, 0, none⟩ 16 1 (IntKind.u32.wrap ((BitVec.ofInt IntKind.u32.bits ((((fourT X)).toNat : Nat) : Int) &&& BitVec.ofInt IntKind.u32.bits 15).toNat : Int)) (by kernel_rfl) (by rw [h15]; omega) (by rw [h15]; exact lt15 (fourT X)) noF_stable ?_
  refine At.to (noF_stable) (noF_fewer) 20 300 [0, 12] 0 ⟨pops B71 [1, 1, 0] 3, [.seq (sub B71 [1, 1, 1])], [(0, .io IntKind.u32 (↑(fourT X).toNat : Int)), (12, .v (.pointer (some ((Addr.mk 4 0 none).add ((IntKind.u32.wrap (↑(BitVec.ofInt IntKind.u32.bits (↑(fourT X).toNat : Int) &&& BitVec.ofInt IntKind.u32.bits 15).toNat : Int)).toNat * 1)))))], []⟩ (by kernel_rfl) (by kernel_rfl) ?_
  rw [idx15 (fourT X)]
  refine At.ldx (Addr.add ⟨4, 0, none⟩ (((((fourT X) &&& 15#32).toNat : Nat) : Int).toNat * 1)) (.io .u32 (foursTab.getD ((fourT X) &&& 15#32).toNat 0)) (by kernel_rfl) noF_stable (fun ρ w1 hm hf => ?_) ?_
  · rw [Int.toNat_natCast, Nat.mul_one, add_ok, Nat.zero_add]
    exact (tab_below htab hm.below rfl).cell gFours _ (by have := lt15 (fourT X); show _ < 16; omega)
  refine At.to (noF_stable) (noF_fewer) 20 300 [2] 0 ⟨.exit .ret, [], [(2, .io IntKind.u32 (IntKind.u32.wrap (↑(BitVec.ofInt IntKind.u32.bits (foursTab.getD (fourT X &&& 15#32).toNat 0) ^^^ BitVec.ofInt IntKind.u32.bits ((↑(fourT X).toNat : Int).fdiv (2 ^ min (Int.toNat 4) IntKind.u32.bits))).toNat : Int)))], []⟩ (by kernel_rfl) (by kernel_rfl) ?_
  refine At.ret (by kernel_rfl) (.io IntKind.u32 (IntKind.u32.wrap (↑(BitVec.ofInt IntKind.u32.bits (foursTab.getD (fourT X &&& 15#32).toNat 0) ^^^ BitVec.ofInt IntKind.u32.bits ((↑(fourT X).toNat : Int).fdiv (2 ^ min (Int.toNat 4) IntKind.u32.bits))).toNat : Int))) (by kernel_rfl) ?_
  intro ρ w9 hm hf
  exact ⟨by rw [xorB (fourT X)]; rfl, hm.below⟩

noncomputable def B97 : Code := (Tryz.f97.body).getD .skip
set_option maxHeartbeats 4000000 in
set_option maxRecDepth 100000 in
theorem step_any (X : BitVec 32) (w : World) :
    Calls Tryz.prog 97 #[.int .u32 ((X.toNat : Nat) : Int)] w fun e w' => e = .returned (.int .u32 (((step X).toNat : Nat) : Int)) ∧ Below w.heap.size w w' := by
  refine enter (fn := Tryz.f97) (c := B97) [.io .u32 ((X.toNat : Nat) : Int)] Tryz.func97 rfl rfl ?_
  refine At.to (noF_stable) (noF_fewer) 20 300 [0, 5] 0 ⟨.code (sub B97 [1, 0, 1]), [.seq (sub B97 [1, 1])], [(0, .io IntKind.u32 (↑X.toNat : Int)), (5, .bo ((↑X.toNat : Int).tmod 2 == 1))], []⟩ (by kernel_rfl) (by kernel_rfl) ?_
  rcases Bool.eq_false_or_eq_true ((↑X.toNat : Int).tmod 2 == 1) with b0 | b0
  · refine At.res 5 ((↑X.toNat : Int).tmod 2 == 1) true (by kernel_rfl) b0 ?_
    refine At.to (noF_stable) (noF_fewer) 20 300 [2] 0 ⟨.exit .ret, [], [(2, .io IntKind.u32 (IntKind.u32.wrap (↑(BitVec.ofInt IntKind.u32.bits (IntKind.u32.wrap ((↑X.toNat : Int).tdiv 2)) ^^^ BitVec.ofInt IntKind.u32.bits 2197175160).toNat : Int)))], []⟩ (by kernel_rfl) (by kernel_rfl) ?_
    refine At.ret (by kernel_rfl) (.io IntKind.u32 (IntKind.u32.wrap (↑(BitVec.ofInt IntKind.u32.bits (IntKind.u32.wrap ((↑X.toNat : Int).tdiv 2)) ^^^ BitVec.ofInt IntKind.u32.bits 2197175160).toNat : Int))) (by kernel_rfl) ?_
    intro ρ w9 hm hf
    refine ⟨?_, hm.below⟩
    rw [half32, of32]
    have hl : X.getLsbD 0 = true := (odd32 X).symm.trans b0
    rw [show step X = (X >>> 1) ^^^ 2197175160#32 by unfold step; rw [hl]; rfl]
    exact congrArg (fun z => Ending.returned (Value.int .u32 z)) (wrapB _)
  · refine At.res 5 ((↑X.toNat : Int).tmod 2 == 1) false (by kernel_rfl) b0 ?_
    refine At.to (noF_stable) (noF_fewer) 20 300 [2] 0 ⟨.exit .ret, [], [(2, .io IntKind.u32 (IntKind.u32.wrap ((↑X.toNat : Int).tdiv 2)))], []⟩ (by kernel_rfl) (by kernel_rfl) ?_
    refine At.ret (by kernel_rfl) (.io IntKind.u32 (IntKind.u32.wrap ((↑X.toNat : Int).tdiv 2))) (by kernel_rfl) ?_
    intro ρ w9 hm hf
    refine ⟨?_, hm.below⟩
    rw [half32]
    have hl : X.getLsbD 0 = false := (odd32 X).symm.trans b0
    rw [step_even X hl]
    rfl

noncomputable def B78 : Code := (Tryz.f78.body).getD .skip
set_option maxHeartbeats 4000000 in
set_option maxRecDepth 100000 in
theorem turned_any (X : BitVec 32) (w : World) :
    Calls Tryz.prog 78 #[.int .u32 ((X.toNat : Nat) : Int)] w fun e w' => e = .returned (.int .u32 (((~~~X).toNat : Nat) : Int)) ∧ Below w.heap.size w w' := by
  refine enter (fn := Tryz.f78) (c := B78) [.io .u32 ((X.toNat : Nat) : Int)] Tryz.func78 rfl rfl ?_
  refine At.to (noF_stable) (noF_fewer) 20 300 [2] 0 ⟨.exit .ret, [], [(2, .io IntKind.u32 (IntKind.u32.wrap (4294967295 - (↑X.toNat : Int))))], []⟩ (by kernel_rfl) (by kernel_rfl) ?_
  refine At.ret (by kernel_rfl) (.io IntKind.u32 (IntKind.u32.wrap (4294967295 - (↑X.toNat : Int)))) (by kernel_rfl) ?_
  intro ρ w9 hm hf
  refine ⟨?_, hm.below⟩
  rw [not32]
  rfl

noncomputable def B79 : Code := (Tryz.f79.body).getD .skip
set_option maxHeartbeats 4000000 in
set_option maxRecDepth 100000 in
theorem reight_any (X : BitVec 32) (w : World) :
    Calls Tryz.prog 79 #[.int .u32 ((X.toNat : Nat) : Int)] w fun e w' => e = .returned (.int .u32 (((four (four X)).toNat : Nat) : Int)) ∧ Below w.heap.size w w' := by
  refine enter (fn := Tryz.f79) (c := B79) [.io .u32 ((X.toNat : Nat) : Int)] Tryz.func79 rfl rfl ?_
  refine At.to (noF_stable) (noF_fewer) 20 300 [3, 8] 0 ⟨pops B79 [1, 0, 1, 4, 4, 1, 0, 4] 1, [.block 1, .seq (sub B79 [1, 0, 1, 4, 4, 1, 1]), .rounds (sub B79 [1, 0, 1, 4, 4]) 19, .block 0, .seq (sub B79 [1, 1])], [(3, .v (.int .i64 0)), (8, .io IntKind.u32 (↑X.toNat : Int))], []⟩ (by kernel_rfl) (by kernel_rfl) ?_
  refine At.call (noF_stable) 97 [.io IntKind.u32 (↑X.toNat : Int)] (.io IntKind.u32 (↑(step X).toNat : Int)) (by kernel_rfl) (by kernel_rfl) (by kernel_rfl) (fun _ _ w _ _ => step_any (X) w) ?_
  refine At.to (noF_stable) (noF_fewer) 20 300 [3, 8] 0 ⟨pops B79 [1, 0, 1, 4, 4, 1, 0, 4] 1, [.block 1, .seq (sub B79 [1, 0, 1, 4, 4, 1, 1]), .rounds (sub B79 [1, 0, 1, 4, 4]) 18, .block 0, .seq (sub B79 [1, 1])], [(3, .v (.int .i64 1)), (8, .io IntKind.u32 (↑(step X).toNat : Int))], []⟩ (by kernel_rfl) (by kernel_rfl) ?_
  refine At.call (noF_stable) 97 [.io IntKind.u32 (↑(step X).toNat : Int)] (.io IntKind.u32 (↑(step (step X)).toNat : Int)) (by kernel_rfl) (by kernel_rfl) (by kernel_rfl) (fun _ _ w _ _ => step_any (step X) w) ?_
  refine At.to (noF_stable) (noF_fewer) 20 300 [3, 8] 0 ⟨pops B79 [1, 0, 1, 4, 4, 1, 0, 4] 1, [.block 1, .seq (sub B79 [1, 0, 1, 4, 4, 1, 1]), .rounds (sub B79 [1, 0, 1, 4, 4]) 17, .block 0, .seq (sub B79 [1, 1])], [(3, .v (.int .i64 2)), (8, .io IntKind.u32 (↑(step (step X)).toNat : Int))], []⟩ (by kernel_rfl) (by kernel_rfl) ?_
  refine At.call (noF_stable) 97 [.io IntKind.u32 (↑(step (step X)).toNat : Int)] (.io IntKind.u32 (↑(step (step (step X))).toNat : Int)) (by kernel_rfl) (by kernel_rfl) (by kernel_rfl) (fun _ _ w _ _ => step_any (step (step X)) w) ?_
  refine At.to (noF_stable) (noF_fewer) 20 300 [3, 8] 0 ⟨pops B79 [1, 0, 1, 4, 4, 1, 0, 4] 1, [.block 1, .seq (sub B79 [1, 0, 1, 4, 4, 1, 1]), .rounds (sub B79 [1, 0, 1, 4, 4]) 16, .block 0, .seq (sub B79 [1, 1])], [(3, .v (.int .i64 3)), (8, .io IntKind.u32 (↑(step (step (step X))).toNat : Int))], []⟩ (by kernel_rfl) (by kernel_rfl) ?_
  refine At.call (noF_stable) 97 [.io IntKind.u32 (↑(step (step (step X))).toNat : Int)] (.io IntKind.u32 (↑(step (step (step (step X)))).toNat : Int)) (by kernel_rfl) (by kernel_rfl) (by kernel_rfl) (fun _ _ w _ _ => step_any (step (step (step X))) w) ?_
  refine At.to (noF_stable) (noF_fewer) 20 300 [3, 8] 0 ⟨pops B79 [1, 0, 1, 4, 4, 1, 0, 4] 1, [.block 1, .seq (sub B79 [1, 0, 1, 4, 4, 1, 1]), .rounds (sub B79 [1, 0, 1, 4, 4]) 15, .block 0, .seq (sub B79 [1, 1])], [(3, .v (.int .i64 4)), (8, .io IntKind.u32 (↑(step (step (step (step X)))).toNat : Int))], []⟩ (by kernel_rfl) (by kernel_rfl) ?_
  refine At.call (noF_stable) 97 [.io IntKind.u32 (↑(step (step (step (step X)))).toNat : Int)] (.io IntKind.u32 (↑(step (step (step (step (step X))))).toNat : Int)) (by kernel_rfl) (by kernel_rfl) (by kernel_rfl) (fun _ _ w _ _ => step_any (step (step (step (step X)))) w) ?_
  refine At.to (noF_stable) (noF_fewer) 20 300 [3, 8] 0 ⟨pops B79 [1, 0, 1, 4, 4, 1, 0, 4] 1, [.block 1, .seq (sub B79 [1, 0, 1, 4, 4, 1, 1]), .rounds (sub B79 [1, 0, 1, 4, 4]) 14, .block 0, .seq (sub B79 [1, 1])], [(3, .v (.int .i64 5)), (8, .io IntKind.u32 (↑(step (step (step (step (step X))))).toNat : Int))], []⟩ (by kernel_rfl) (by kernel_rfl) ?_
  refine At.call (noF_stable) 97 [.io IntKind.u32 (↑(step (step (step (step (step X))))).toNat : Int)] (.io IntKind.u32 (↑(step (step (step (step (step (step X)))))).toNat : Int)) (by kernel_rfl) (by kernel_rfl) (by kernel_rfl) (fun _ _ w _ _ => step_any (step (step (step (step (step X))))) w) ?_
  refine At.to (noF_stable) (noF_fewer) 20 300 [3, 8] 0 ⟨pops B79 [1, 0, 1, 4, 4, 1, 0, 4] 1, [.block 1, .seq (sub B79 [1, 0, 1, 4, 4, 1, 1]), .rounds (sub B79 [1, 0, 1, 4, 4]) 13, .block 0, .seq (sub B79 [1, 1])], [(3, .v (.int .i64 6)), (8, .io IntKind.u32 (↑(step (step (step (step (step (step X)))))).toNat : Int))], []⟩ (by kernel_rfl) (by kernel_rfl) ?_
  refine At.call (noF_stable) 97 [.io IntKind.u32 (↑(step (step (step (step (step (step X)))))).toNat : Int)] (.io IntKind.u32 (↑(step (step (step (step (step (step (step X))))))).toNat : Int)) (by kernel_rfl) (by kernel_rfl) (by kernel_rfl) (fun _ _ w _ _ => step_any (step (step (step (step (step (step X)))))) w) ?_
  refine At.to (noF_stable) (noF_fewer) 20 300 [3, 8] 0 ⟨pops B79 [1, 0, 1, 4, 4, 1, 0, 4] 1, [.block 1, .seq (sub B79 [1, 0, 1, 4, 4, 1, 1]), .rounds (sub B79 [1, 0, 1, 4, 4]) 12, .block 0, .seq (sub B79 [1, 1])], [(3, .v (.int .i64 7)), (8, .io IntKind.u32 (↑(step (step (step (step (step (step (step X))))))).toNat : Int))], []⟩ (by kernel_rfl) (by kernel_rfl) ?_
  refine At.call (noF_stable) 97 [.io IntKind.u32 (↑(step (step (step (step (step (step (step X))))))).toNat : Int)] (.io IntKind.u32 (↑(step (step (step (step (step (step (step (step X)))))))).toNat : Int)) (by kernel_rfl) (by kernel_rfl) (by kernel_rfl) (fun _ _ w _ _ => step_any (step (step (step (step (step (step (step X))))))) w) ?_
  refine At.to (noF_stable) (noF_fewer) 20 300 [2] 0 ⟨.exit .ret, [], [(2, .io IntKind.u32 (↑(step (step (step (step (step (step (step (step X)))))))).toNat : Int))], []⟩ (by kernel_rfl) (by kernel_rfl) ?_
  refine At.ret (by kernel_rfl) (.io IntKind.u32 (↑(step (step (step (step (step (step (step (step X)))))))).toNat : Int)) (by kernel_rfl) ?_
  intro ρ w9 hm hf
  exact ⟨rfl, hm.below⟩

end Go.Proofs.YtiehnigbcfkcdaaGreatDoor
