/- Joined texts: SQ, SV. -/
import Derived.Test.YthfpekhpeiebjaaGreatDoorTAJ
set_option linter.unusedSimpArgs false
set_option linter.unusedVariables false
namespace Go.Sx
open Go
def zAK0 : List SV := [.v (.string (ByteArray.mk #[])), .v (.string (ByteArray.mk #[])), .v (.bool false)]
def pAK1 : List Nat := [1, 1, 1, 0, 1, 4, 4, 1, 0, 4, 1, 0, 4, 1, 3, 1, 2, 1, 1, 0, 1]
def pAK2 : List Nat := [1, 1, 1, 0, 1, 4, 4, 1, 0, 4, 1, 0, 4, 1, 3, 1, 2, 1, 1, 1]
def pAK3 : List Nat := [1, 1, 1, 0, 1, 4, 4, 1, 0, 4, 1, 0, 4, 1, 3, 1, 2, 0, 0]
def pAK4 : List Nat := [1, 1, 1, 0, 1, 4, 4, 1, 0, 4, 1, 0, 4, 1, 3, 1, 2, 0, 1]
def pAK5 : List Nat := [1, 1, 1, 0, 1, 4, 4, 1, 0, 4, 1, 0, 4, 1, 3, 1, 2, 1, 0]
def pAK6 : List Nat := [1, 1, 1, 0, 1, 4, 4, 1, 0, 4, 1, 0, 4, 1, 3, 1, 2, 1, 1]
def pAK7 : List Nat := [1, 1, 1, 0, 1, 4, 4, 1, 0, 4, 1, 0, 4, 1, 3, 1, 2, 1]
def pAK8 : List Nat := [1, 1, 1, 0, 1, 4, 4, 1, 0, 4, 1, 0, 4, 1, 3, 1, 3, 1]
def pAK9 : List Nat := [1, 1, 0, 1, 4, 4, 1, 1, 0, 4, 1, 1, 3]
def pAK10 : List Nat := [1, 1, 1, 0, 1, 4, 4, 1, 0, 4, 1, 1]
def pAK11 : List Nat := [1, 1, 0, 1, 4, 4, 1, 1, 1]
def pAK12 : List Nat := [1, 1, 1, 0, 1, 4, 4, 1, 1]
def pAK13 : List Nat := [1, 1, 1, 1]
def pAK14 : List Nat := [1, 1, 1]
end Go.Sx
section
namespace Go.Proofs.YthfpekhpeiebjaaGreatDoor
open Go.RowKit Go.Sx
noncomputable def B42 : Code := (Tryz.f42.body).getD .skip
noncomputable def sq42 (p : List Nat) : Go.Sx.K := .seq (sub B42 p)
set_option maxHeartbeats 4000000 in
set_option maxRecDepth 100000 in
theorem plain_any (y : UInt8) (w : World) : Calls Tryz.prog 42 #[.int .u8 (y.toNat : Int)] w fun e w' => e = .returned (.bool (plainC y)) ∧ Below w.heap.size w w' := by
 refine enter (fn := Tryz.f42) (c := B42) [.io .u8 (y.toNat : Int)] Tryz.func42 rfl rfl ?_
 refine zM [0, 5] 0 ⟨pops B42 [1, 0] 3, [(sq42 [1, 1])], [(0, .io IntKind.u8 (↑y.toNat : Int)), (5, .bo (decide ((↑y.toNat : Int) ≥ 32)))], []⟩ ?_
 rcases zB (decide ((↑y.toNat : Int) ≥ 32)) with b0 | b0
 ·refine zR 5 b0 ?_
  refine zM [0, 9] 0 ⟨pops B42 [1, 0] 7, [(sq42 [1, 1])], [(0, .io IntKind.u8 (↑y.toNat : Int)), (9, .bo (decide ((↑y.toNat : Int) ≤ 126)))], []⟩ ?_
  rcases zB (decide ((↑y.toNat : Int) ≤ 126)) with b1 | b1
  ·refine zR 9 b1 ?_
   refine zM [0, 13] 0 ⟨pops B42 [1, 0] 11, [(sq42 [1, 1])], [(0, .io IntKind.u8 (↑y.toNat : Int)), (13, .bo ((↑y.toNat : Int) != 34))], []⟩ ?_
   rcases zB ((↑y.toNat : Int) != 34) with b2 | b2
   ·refine zR 13 b2 ?_
    refine zM [2] 0 ⟨.exit .ret, [], [(2, .bo ((↑y.toNat : Int) != 92))], []⟩ ?_
    refine zE (.bo ((↑y.toNat : Int) != 92)) ?_
    intro ρ w9 hm' _
    have h32 := of_decide_eq_true b0
    have h126 := of_decide_eq_true b1
    refine ⟨?_, hm'.below⟩
    have hp : ((y.toNat : Int) != 92) = plainC y := by
     simp only [plainC]
     simp at b2
     rw [decide_eq_true (by omega : 32 ≤ y.toNat), decide_eq_true (by omega : y.toNat ≤ 126), decide_eq_true (by omega : y.toNat ≠ 34)]
     simp only [Bool.true_and]
     by_cases h : y.toNat = 92
     ·simp [h]
     rw [decide_eq_true h]; simp; omega
    show Ending.returned (.bool ((y.toNat : Int) != 92)) = _
    rw [hp]
   refine zR 13 b2 ?_
   refine zM [2] 0 ⟨.exit .ret, [], [(2, .v (.bool false))], []⟩ ?_
   refine zE (.v (.bool false)) ?_
   intro ρ w9 hm' _
   refine ⟨?_, hm'.below⟩
   have hp : plainC y = false := by
    simp only [plainC]
    first
     | (have := of_decide_eq_false b0; rw [decide_eq_false (p := 32 ≤ y.toNat) (by omega)]; rfl)
     | (have := of_decide_eq_false b1; rw [decide_eq_false (p := y.toNat ≤ 126) (by omega), Bool.false_and, Bool.and_false])
     | (simp at b2; rw [decide_eq_false (p := y.toNat ≠ 34) (by omega), Bool.false_and, Bool.and_false, Bool.and_false])
   rw [hp]
   rfl
  refine zR 9 b1 ?_
  refine zM [2] 0 ⟨.exit .ret, [], [(2, .v (.bool false))], []⟩ ?_
  refine zE (.v (.bool false)) ?_
  intro ρ w9 hm' _
  refine ⟨?_, hm'.below⟩
  have hp : plainC y = false := by
   simp only [plainC]
   first
    | (have := of_decide_eq_false b0; rw [decide_eq_false (p := 32 ≤ y.toNat) (by omega)]; rfl)
    | (have := of_decide_eq_false b1; rw [decide_eq_false (p := y.toNat ≤ 126) (by omega), Bool.false_and, Bool.and_false])
    | (simp at b2; rw [decide_eq_false (p := y.toNat ≠ 34) (by omega), Bool.false_and, Bool.and_false, Bool.and_false])
  rw [hp]
  rfl
 refine zR 5 b0 ?_
 refine zM [2] 0 ⟨.exit .ret, [], [(2, .v (.bool false))], []⟩ ?_
 refine zE (.v (.bool false)) ?_
 intro ρ w9 hm' _
 refine ⟨?_, hm'.below⟩
 have hp : plainC y = false := by
  simp only [plainC]
  first
   | (have := of_decide_eq_false b0; rw [decide_eq_false (p := 32 ≤ y.toNat) (by omega)]; rfl)
   | (have := of_decide_eq_false b1; rw [decide_eq_false (p := y.toNat ≤ 126) (by omega), Bool.false_and, Bool.and_false])
   | (simp at b2; rw [decide_eq_false (p := y.toNat ≠ 34) (by omega), Bool.false_and, Bool.and_false, Bool.and_false])
 rw [hp]
 rfl
noncomputable def B19 : Code := (Tryz.f19.body).getD .skip
noncomputable def sq19 (p : List Nat) : Go.Sx.K := .seq (sub B19 p)
set_option maxHeartbeats 20000000 in
set_option maxRecDepth 100000 in
theorem quote_any (k : List UInt8) (hk : k.length ≤ 1048576) (w : World) :
  Calls Tryz.prog 19 #[.string (mkB k)] w fun e w' => e = .returned (.string (mkB (quoteB k))) ∧ Below w.heap.size w w' := by
 refine enter (fn := Tryz.f19) (c := B19) [.so (mkB k)] Tryz.func19 rfl rfl ?_
 refine zN [3, 7] 1 ⟨pops B19 [1, 1, 0, 0] 1, [(sq19 [1, 1, 0, 1]), (sq19 pAK14)], [(3, .ls 0 0 1 1), (7, .so (mkB k))], [([.v (.int IntKind.u8 34)], 5)]⟩ ?_
 refine At.lsRow1 3 [7] 0 1 5 1 [.v (.int .u8 34)] [.int .u8 34] rfl rfl rfl rfl rfl (by decide) (fun _ => rfl) (by kernel_rfl) ?_
 intro A
 refine At.mono (F' := RowE w (fun _ => False) [] w.heap.size 5 1 A 1 1 [.int .u8 34] []) (fun ρ w1 h => ⟨h, by simp⟩) ?_
 refine At.cvbE (mkB k) (by kernel_rfl) ?_
 intro b c
 refine zH [3, 8, 9, 10] 0 ⟨.code (sub B19 [1, 1, 0, 1, 4]), [.block 0, (sq19 pAK14)], [(3, .sl A 1 1), (8, .sl (some b) (mkB k).size c), (9, .io .i64 (↑(mkB k).size : Int)), (10, .v (.int .i64 0))], []⟩ ?_
 generalize hR : quoteB k = R
 refine At.canon _ rfl ?_
 refine At.loop (σ := QSt) (sub B19 [1, 1, 0, 1, 4, 4]) (frQ b c k) locQ (GQ w b k R) (muQ k) ⟨0, A, 1, 1, [34]⟩ (by kernel_rfl) (by unfold subFr; kernel_rfl) (by kernel_rfl) (fun _ _ _ _ h => ⟨h, Nat.zero_le _, hR, rfl, (by decide : (1 : Nat) ≤ 1 + 4 * 0)⟩) ?_
 clear hR
 rintro ⟨i, Ai, ni, ci, acc⟩
 refine At.pure fun ⟨h1, h2, h3, h4⟩ => ?_
 simp only at h1 h2 h3 h4
 refine zTq RowE.stable RowE.fewer [3, 8, 9, 10, 11] 0 ?_
 rcases zB (decide ((↑i : Int) < (↑(mkB k).size : Int))) with b0 | b0
 ·refine zR 11 b0 ?_
  let kn0 : K := .next (Sx.Next w.heap.size w Tryz.f19.ntmps (frQ b c k) locQ (GQ w b k R) (muQ k) (QSt.mk i Ai ni ci acc))
  refine zH [3, 8, 9, 10] 0 ⟨pops B19 [1, 1, 0, 1, 4, 4, 1, 1, 0, 4, 0] 0, [(sq19 [1, 1, 0, 1, 4, 4, 1, 1, 0, 4, 1]), .block 1, (sq19 pAK11), kn0, .block 0, (sq19 pAK14)], [(3, .sl Ai ni ci), (8, .sl (some b) (mkB k).size c), (9, .io .i64 (↑(mkB k).size : Int)), (10, .io .i64 (↑i : Int))], []⟩ ?_
  have hi : i < k.length := by have := of_decide_eq_true b0; rw [mkB_size] at this; omega
  clear b0
  obtain ⟨y, hz⟩ : ∃ y, k[i]? = some y := ⟨_, List.getElem?_eq_getElem hi⟩
  have hy := y.toNat_lt
  rw [drop_at hz, List.flatMap_cons] at h2
  refine At.idx b (mkB k).size 1 (i : Int) (by kernel_rfl) (by omega) (by rw [mkB_size]; omega) RowE.stable ?_
  refine zH [3, 8, 9, 10, 12] 0 ⟨pops B19 [1, 1, 0, 1, 4, 4, 1, 1, 0, 4, 0] 1, [(sq19 [1, 1, 0, 1, 4, 4, 1, 1, 0, 4, 1]), .block 1, (sq19 pAK11), kn0, .block 0, (sq19 pAK14)], [(3, .sl Ai ni ci), (8, .sl (some b) (mkB k).size c), (9, .io .i64 (↑(mkB k).size : Int)), (10, .io .i64 (↑i : Int)), (12, .v (.pointer (some (b.add ((↑i : Int).toNat * 1)))))], []⟩ ?_
  refine At.ldx (b.add ((i : Int).toNat * 1)) (.io .u8 (y.toNat : Int)) (by kernel_rfl) RowE.stable (fun ρ w1 hm hf => by rw [Int.toNat_natCast, Nat.mul_one]; exact ent_src (hf.2 _ (List.mem_singleton.2 rfl)) i _ (show (bytesV (mkB k))[i]? = some (.int .u8 (y.toNat : Int)) by simp only [bytesV, mkB, List.getElem?_map, hz]; rfl)) ?_
  refine zH [3, 5, 8, 9, 10, 14] 0 ⟨pops B19 [1, 1, 0, 1, 4, 4, 1, 1, 0, 4, 1, 0] 1, [(sq19 [1, 1, 0, 1, 4, 4, 1, 1, 0, 4, 1, 1]), .block 1, (sq19 pAK11), kn0, .block 0, (sq19 pAK14)], [(3, .sl Ai ni ci), (5, .io IntKind.u8 (↑y.toNat : Int)), (8, .sl (some b) (mkB k).size c), (9, .io .i64 (↑(mkB k).size : Int)), (10, .io .i64 (↑i : Int)), (14, .io IntKind.u8 (↑y.toNat : Int))], []⟩ ?_
  refine zC RowE.stable 42 [.io .u8 (y.toNat : Int)] (.bo (plainC y)) (fun _ _ w1 _ _ => plain_any y w1) ?_
  refine zTq RowE.stable RowE.fewer [3, 5, 8, 9, 10, 15] 0 ?_
  rcases zB (plainC y) with b0 | b0
  ·refine zR 15 b0 ?_
   refine zH [8, 9, 10, 16, 18] 1 ⟨pops B19 [1, 1, 0, 1, 4, 4, 1, 1, 0, 4, 1, 1, 2] 3, [.block 1, (sq19 pAK11), kn0, .block 0, (sq19 pAK14)], [(8, .sl (some b) (mkB k).size c), (9, .io .i64 (↑(mkB k).size : Int)), (10, .io .i64 (↑i : Int)), (16, .sl Ai ni ci), (18, .ls 0 0 1 1)], [([.io IntKind.u8 (↑y.toNat : Int)], 5)]⟩ ?_
   refine At.appE (55) (5) (1) (1) (Ai) (ni) (ci) (1) ([.io IntKind.u8 (↑y.toNat : Int)]) _ _ _ _ ([.int IntKind.u8 (↑y.toNat : Int)]) _ (by kernel_rfl) (fun ρ => by kernel_rfl) (by first | omega | (simp only [Go.maxLen]; omega)) (by first | omega | (simp only [Go.maxLen]; omega)) (by first | omega | (simp only [Go.maxLen]; omega)) fun A1 c1 => ?_
   refine zH [3, 8, 9, 10] 0 ⟨.exit .normal, [kn0, .block 0, (sq19 pAK14)], [(3, .sl A1 (ni + 1) c1), (8, .sl (some b) (mkB k).size c), (9, .io .i64 (↑(mkB k).size : Int)), (10, .io .i64 (IntKind.i64.wrap ((↑i : Int) + 1)))], []⟩ ?_
   have hpl : plainC y = true := by simpa using b0
   have hq1 : q1 y = [y] := by unfold q1; rw [hpl]; rfl
   have hw3 : IntKind.i64.wrap ((i : Int) + 1) = ((i + 1 : Nat) : Int) := by
    rw [wrap63 (by omega) (by omega)]
    omega
   rw [hw3]
   refine At.next (σ := QSt) ⟨i + 1, A1, ni + 1, c1, acc ++ [y]⟩ rfl rfl (by unfold subFr; kernel_rfl) (by kernel_rfl) ?_ ?_
   ·intro ρ a' w' hi' hf
    exact ⟨by rw [bw_app]; exact hf, by simp only; omega, by rw [← h2, hq1]; simp, by simp only [List.length_append, List.length_singleton]; omega, by simp only; omega⟩
   simp only [muQ]
   omega
  refine zR 15 b0 ?_
  refine zH [3, 5, 8, 9, 10] 0 ⟨.any (opsOf (sub B19 pAK9)) 10 [], [.block 1, (sq19 pAK11), kn0, .block 0, (sq19 pAK14)], [(3, .sl Ai ni ci), (5, .io IntKind.u8 (↑y.toNat : Int)), (8, .sl (some b) (mkB k).size c), (9, .io .i64 (↑(mkB k).size : Int)), (10, .io .i64 (↑i : Int))], []⟩ ?_
  have hpl : plainC y = false := by simpa using b0
  have hq1 : q1 y = [92, 120, hexB (y.toNat / 16), hexB (y.toNat % 16)] := by unfold q1; rw [hpl]; rfl
  refine At.cutN (σ := Option Addr × Nat) (fun x => [(3, .sl x.1 (ni + 4) x.2), (8, .sl (some b) (mkB k).size c), (9, .io .i64 ((mkB k).size : Int)), (10, .io .i64 (i : Int))]) (fun _ => []) (fun x => RowE w (fun _ => False) [] w.heap.size 5 1 x.1 (ni + 4) x.2 (bw (acc ++ q1 y)) [(some b, bytesV (mkB k))]) rfl ?_ (fun x => ?_)
  ·refine At.purify0 (fun e a w h => h.1) 20 ?_
   refine At.sixFirst (fun e a w h => h.1) 3 ⟨#[48, 49, 50, 51, 52, 53, 54, 55, 56, 57, 97, 98, 99, 100, 101, 102]⟩ ((y.toNat : Int).fdiv (2 ^ (min (4 : Int).toNat IntKind.u8.bits))) (hexB (y.toNat / 16)) (by kernel_rfl) (by kernel_rfl) (by rw [shr4b]; omega) (by rw [shr4b, Int.toNat_natCast]; exact hex_at (by omega)) ?_
   refine At.sixFirst (fun e a w h => h.1) 6 ⟨#[48, 49, 50, 51, 52, 53, 54, 55, 56, 57, 97, 98, 99, 100, 101, 102]⟩ (IntKind.u8.wrap ((BitVec.ofInt IntKind.u8.bits (y.toNat : Int) &&& BitVec.ofInt IntKind.u8.bits 15).toNat : Int)) (hexB (y.toNat % 16)) (by kernel_rfl) (by kernel_rfl) (by rw [and15b]; omega) (by rw [and15b, Int.toNat_natCast]; exact hex_at (by omega)) ?_
   refine At.purify0 (fun e a w h => h.1) 20 ?_
   refine zH [3, 8, 9, 10, 20, 27] 1 ⟨.ops (opsOf (sub B19 pAK9)) (((opsOf (sub B19 pAK9)).toList.drop 8).take 1), [.any (opsOf (sub B19 pAK9)) 1 [8, 7, 6, 3, 5, 4, 2, 1, 0]], [(3, .sl Ai ni ci), (8, .sl (some b) (mkB k).size c), (9, .io .i64 (↑(mkB k).size : Int)), (10, .io .i64 (↑i : Int)), (20, .sl Ai ni ci), (27, .ls 0 0 4 4)], [([.v (.int IntKind.u8 92), .v (.int IntKind.u8 120), .io IntKind.u8 (↑(hexB (y.toNat / 16)).toNat : Int), .io IntKind.u8 (↑(hexB (y.toNat % 16)).toNat : Int)], 5)]⟩ ?_
   refine At.appE (55) (5) (1) (1) (Ai) (ni) (ci) (4) ([.v (.int IntKind.u8 92), .v (.int IntKind.u8 120), .io IntKind.u8 (↑(hexB (y.toNat / 16)).toNat : Int), .io IntKind.u8 (↑(hexB (y.toNat % 16)).toNat : Int)]) _ _ _ _ ([.int IntKind.u8 92, .int IntKind.u8 120, .int IntKind.u8 (↑(hexB (y.toNat / 16)).toNat : Int), .int IntKind.u8 (↑(hexB (y.toNat % 16)).toNat : Int)]) _ (by kernel_rfl) (fun ρ => by kernel_rfl) (by first | omega | (simp only [Go.maxLen]; omega)) (by first | omega | (simp only [Go.maxLen]; omega)) (by first | omega | (simp only [Go.maxLen]; omega)) fun A0 c0 => ?_
   refine zH [3, 8, 9, 10] 0 ⟨.exit .normal, [], [(3, .sl A0 (ni + 4) c0), (8, .sl (some b) (mkB k).size c), (9, .io .i64 (↑(mkB k).size : Int)), (10, .io .i64 (↑i : Int))], []⟩ ?_
   exact At.fin (A0, c0) rfl rfl (by unfold subFr; kernel_rfl) rfl (fun _ _ _ _ h => by rw [hq1, bw_app]; exact h)
  refine zH [3, 8, 9, 10] 0 ⟨.exit .normal, [kn0, .block 0, (sq19 pAK14)], [(3, .sl x.fst (ni + 4) x.snd), (8, .sl (some b) (mkB k).size c), (9, .io .i64 (↑(mkB k).size : Int)), (10, .io .i64 (IntKind.i64.wrap ((↑i : Int) + 1)))], []⟩ ?_
  have hw3 : IntKind.i64.wrap ((i : Int) + 1) = ((i + 1 : Nat) : Int) := by
   rw [wrap63 (by omega) (by omega)]
   omega
  rw [hw3]
  refine At.next (σ := QSt) ⟨i + 1, x.1, ni + 4, x.2, acc ++ q1 y⟩ rfl rfl (by unfold subFr; kernel_rfl) (by kernel_rfl) ?_ ?_
  ·intro ρ a' w' hi' hf
   exact ⟨hf, by simp only; omega, by rw [← h2]; simp, by rw [hq1]; simp only [List.length_append, List.length_cons, List.length_nil]; omega, by simp only; omega⟩
  simp only [muQ]
  omega
 refine zR 11 b0 ?_
 refine zH [30, 31] 1 ⟨pops B19 [1, 1, 1, 0] 2, [(sq19 pAK13)], [(30, .sl Ai ni ci), (31, .ls 0 0 1 1)], [([.v (.int IntKind.u8 34)], 5)]⟩ ?_
 refine At.appE (55) (5) (1) (1) (Ai) (ni) (ci) (1) ([.v (.int IntKind.u8 34)]) _ _ _ _ ([.int IntKind.u8 34]) _ (by kernel_rfl) (fun ρ => by kernel_rfl) (by first | omega | (simp only [Go.maxLen]; omega)) (by first | omega | (simp only [Go.maxLen]; omega)) (by first | omega | (simp only [Go.maxLen]; omega)) fun A1 c1 => ?_
 refine zH [32] 0 ⟨pops B19 [1, 1, 1, 0] 3, [(sq19 pAK13)], [(32, .sl A1 (ni + 1) c1)], []⟩ ?_
 have hi : ¬ (i : Int) < ((mkB k).size : Int) := of_decide_eq_false b0
 rw [mkB_size] at hi
 have hd : k.drop i = [] := List.drop_eq_nil_of_le (by omega)
 rw [hd, List.flatMap_nil, List.nil_append] at h2
 refine At.mono (F' := RowE w (fun _ => False) [] w.heap.size 5 1 A1 (ni + 1) c1 (bw (acc ++ [34])) [(some b, bytesV (mkB k))]) (fun ρ w1 h => by rw [bw_app]; exact h) ?_
 refine At.cvy A1 (ni + 1) c1 ((acc ++ [34]).map UInt8.toNat) (.so (mkB (acc ++ [34]))) (by kernel_rfl) RowE.stable (fun ρ => by rw [strOf_map]; rfl) (fun ρ w1 hm hf => row_cw hf.1.1.1) ?_
 refine zH [2] 0 ⟨.exit .ret, [], [(2, .so (mkB (acc ++ [34])))], []⟩ ?_
 refine zE (.so (mkB (acc ++ [34]))) ?_
 intro ρ w9 hm hf
 exact ⟨by rw [← h2]; rfl, hm.below⟩
end Go.Proofs.YthfpekhpeiebjaaGreatDoor
end
section
namespace Go.Proofs.YthfpekhpeiebjaaGreatDoor
open Go.RowKit Go.Sx
theorem toerr_any (l : List UInt8) (hl : l.length = 2) (w : World) {tp : TypeId} {q : Value} (hv : w.var? Tryz.prog "strconv.ErrSyntax" = some #[.iface tp q]) :
  Calls Tryz.prog 80 #[.string ⟨#[80, 97, 114, 115, 101, 85, 105, 110, 116]⟩, .string (mkB l), .int .i64 16, .int .i64 8, .iface 145 (.int .i64 2)] w fun e w' => ∃ N, e = .returned (.iface 146 (.pointer (some ⟨N, 0, none⟩))) ∧ Below w.heap.size w w' :=
 (Any.strconv_toError_syntax { Tryz.laysC174 with } ⟨#[80, 97, 114, 115, 101, 85, 105, 110, 116]⟩ (mkB l) 16 8 (.iface tp q) w (by rw [mkB_size]; omega) (by have h0 := World.var?_cell Tryz.laysC174.m15 hv 0; simpa using h0) (Or.inr ⟨tp, q, rfl⟩)).mono fun e w' ⟨N, h1, _, _, h4⟩ => ⟨N, h1, h4⟩
noncomputable def B82 : Code := (Tryz.f82.body).getD .skip
noncomputable def sq82 (p : List Nat) : Go.Sx.K := .seq (sub B82 p)
set_option maxHeartbeats 4000000 in
set_option maxRecDepth 100000 in
theorem pu_ok {l : List UInt8} {n : Nat} (hl : l.length = 2) (hn : hxs 0 l = some n) (w : World) :
  Calls Tryz.prog 82 #[.string (mkB l), .int .i64 16, .int .i64 8] w fun e w' => e = .returned (.tuple #[.int .u64 (n : Int), .nilIface]) ∧ Below w.heap.size w w' := by
 refine enter (fn := Tryz.f82) (c := B82) [.so (mkB l), .v (.int .i64 16), .v (.int .i64 8)] Tryz.func82 rfl rfl ?_
 refine zM [0, 1, 2, 11, 12, 13] 0 ⟨pops B82 [1, 0] 3, [(sq82 [1, 1])], [(0, .so (mkB l)), (1, .v (.int .i64 16)), (2, .v (.int .i64 8)), (11, .so (mkB l)), (12, .v (.int .i64 16)), (13, .v (.int .i64 8))], []⟩ ?_
 refine zC noF_stable 97 [.so (mkB l), .v (.int .i64 16), .v (.int .i64 8)] (.tup [.io .u64 (n : Int), .v .nilIface]) (fun _ _ w1 _ _ => (ipu_any l hl w1).mono fun e w' h => ⟨h.1.trans (by rw [hn]; rfl), h.2⟩) ?_
 refine zM [0, 1, 2, 8, 9, 17] 0 ⟨pops B82 [1, 1, 0, 0] 1, [(sq82 [1, 1, 0, 1]), (sq82 pAK14)], [(0, .so (mkB l)), (1, .v (.int .i64 16)), (2, .v (.int .i64 8)), (8, .io IntKind.u64 (↑n : Int)), (9, .v .nilIface), (17, .v .nilIface)], []⟩ ?_
 refine At.nilne false (by kernel_rfl) noF_stable ?_
 refine zM [6, 7] 0 ⟨.exit .ret, [], [(6, .io IntKind.u64 (↑n : Int)), (7, .v .nilIface)], []⟩ ?_
 refine zE (.tup [.io IntKind.u64 (↑n : Int), .v .nilIface]) ?_
 intro ρ w9 hm' hf
 exact ⟨rfl, hm'.below⟩
set_option maxHeartbeats 4000000 in
set_option maxRecDepth 100000 in
theorem pu_bad {l : List UInt8} (hl : l.length = 2) (hn : hxs 0 l = none) (w : World) {tp : TypeId} {q : Value} (hv : w.var? Tryz.prog "strconv.ErrSyntax" = some #[.iface tp q]) :
  Calls Tryz.prog 82 #[.string (mkB l), .int .i64 16, .int .i64 8] w fun e w' => ∃ N, e = .returned (.tuple #[.int .u64 0, .iface 146 (.pointer (some ⟨N, 0, none⟩))]) ∧ Below w.heap.size w w' := by
 refine enter (fn := Tryz.f82) (c := B82) [.so (mkB l), .v (.int .i64 16), .v (.int .i64 8)] Tryz.func82 rfl rfl ?_
 refine zM [0, 1, 2, 11, 12, 13] 0 ⟨pops B82 [1, 0] 3, [(sq82 [1, 1])], [(0, .so (mkB l)), (1, .v (.int .i64 16)), (2, .v (.int .i64 8)), (11, .so (mkB l)), (12, .v (.int .i64 16)), (13, .v (.int .i64 8))], []⟩ ?_
 refine zC noF_stable 97 [.so (mkB l), .v (.int .i64 16), .v (.int .i64 8)] (.tup [.v (.int .u64 0), .v (.iface 145 (.int .i64 2))]) (fun _ _ w1 _ _ => (ipu_any l hl w1).mono fun e w' h => ⟨h.1.trans (by rw [hn]; rfl), h.2⟩) ?_
 refine zM [0, 1, 2, 8, 9, 17] 0 ⟨pops B82 [1, 1, 0, 0] 1, [(sq82 [1, 1, 0, 1]), (sq82 pAK14)], [(0, .so (mkB l)), (1, .v (.int .i64 16)), (2, .v (.int .i64 8)), (8, .v (.int IntKind.u64 0)), (9, .v (.iface 145 (.int .i64 2))), (17, .v (.iface 145 (.int .i64 2)))], []⟩ ?_
 refine At.nilne true (by kernel_rfl) noF_stable ?_
 refine zM [19, 20, 21, 22, 23] 0 ⟨pops B82 [1, 1, 0, 1, 2, 0] 5, [(sq82 [1, 1, 0, 1, 2, 1]), (sq82 pAK14)], [(19, .v (.int IntKind.u64 0)), (20, .so (mkB l)), (21, .v (.int .i64 16)), (22, .v (.int .i64 8)), (23, .v (.iface 145 (.int .i64 2)))], []⟩ ?_
 refine At.callx noF_stable (X := Nat) 80 [.v (.string ⟨#[80, 97, 114, 115, 101, 85, 105, 110, 116]⟩), .so (mkB l), .v (.int .i64 16), .v (.int .i64 8), .v (.iface 145 (.int .i64 2))] (fun x => .v (.iface 146 (.pointer (some ⟨x, 0, none⟩)))) (fun _ _ _ => True) (fun _ => fun _ _ _ _ _ _ h => h) (by kernel_rfl) (by kernel_rfl) (by kernel_rfl) (by kernel_rfl) (fun ρ a w1 hi hf => ?_) fun x => ?_
 ·exact (toerr_any l hl w1 (var_below hv hi.mem.below)).mono fun e' w' ⟨N, he, hb⟩ => ⟨N, he, hb, trivial⟩
 refine At.mono (F' := noF) (fun ρ w1 h => trivial) ?_
 refine zM [6, 7] 0 ⟨.exit .ret, [], [(6, .v (.int IntKind.u64 0)), (7, .v (.iface 146 (.pointer (some (Addr.mk x 0 none)))))], []⟩ ?_
 refine zE (.tup [.v (.int IntKind.u64 0), .v (.iface 146 (.pointer (some (Addr.mk x 0 none))))]) ?_
 intro ρ w9 hm' hf
 exact ⟨_, rfl, hm'.below⟩
noncomputable def B60 : Code := (Tryz.f60.body).getD .skip
noncomputable def sq60 (p : List Nat) : Go.Sx.K := .seq (sub B60 p)
theorem two_of (h l : UInt8) (r : List UInt8) : (mkB (92 :: 120 :: h :: l :: r)).extract (2 : Int).toNat ((some (4 : Int)).getD (mkB (92 :: 120 :: h :: l :: r)).size).toNat = mkB [h, l] := by
 apply ByteArray.ext
 rw [ByteArray.data_extract]
 apply Array.ext'
 simp [mkB]
theorem plain_no {y : UInt8} (h : plainC y = false) (n34 : y ≠ 34) (n92 : y ≠ 92) : y.toNat < 32 ∨ 126 < y.toNat := by
 have h1 : y.toNat ≠ 34 := fun e => n34 (UInt8.toNat_inj.1 e)
 have h2 : y.toNat ≠ 92 := fun e => n92 (UInt8.toNat_inj.1 e)
 simp only [plainC, Bool.and_eq_false_iff, decide_eq_false_iff_not] at h
 omega
theorem hx_all : ∀ z : Fin 256, (dg (UInt8.ofNat z.val) = if lowB (UInt8.ofNat z.val) = ((z.val : Nat) : Int) ∨ z.val < 65 then hxd (UInt8.ofNat z.val) else none) := by decide +kernel
theorem dg_hx (c : UInt8) : dg c = if lowB c = (c.toNat : Int) ∨ c.toNat < 65 then hxd c else none := by
 have := hx_all ⟨c.toNat, c.toNat_lt⟩
 simp only [UInt8.ofNat_toNat] at this
 exact this
theorem dg_hxd {c : UInt8} {n : Nat} (h : dg c = some n) : hxd c = some n := by
 rw [dg_hx] at h
 split at h
 ·exact h
 cases h
theorem ascii_all : ∀ z : Fin 256, (hxd (UInt8.ofNat z.val)).isSome = true → z.val < 128 := by decide +kernel
theorem hxd_ascii {c : UInt8} {n : Nat} (h : hxd c = some n) : c.toNat < 128 := by
 have := ascii_all ⟨c.toNat, c.toNat_lt⟩
 simp only [UInt8.ofNat_toNat] at this
 exact this (by rw [h]; rfl)
theorem lt_all : ∀ z : Fin 256, ((hxd (UInt8.ofNat z.val)).getD 0) < 16 := by decide +kernel
theorem hxd_lt {c : UInt8} {n : Nat} (h : hxd c = some n) : n < 16 := by
 have := lt_all ⟨c.toNat, c.toNat_lt⟩
 simp only [UInt8.ofNat_toNat] at this
 rw [h] at this
 exact this
theorem hxs_inv {h l : UInt8} {z : Nat} (hn : hxs 0 [h, l] = some z) : ∃ i j, hxd h = some i ∧ hxd l = some j ∧ z = 16 * i + j := by
 cases h1 : hxd h with
 | none => rw [hxs_no h1] at hn; cases hn
 | some i =>
  rw [hxs_yes h1] at hn
  cases h2 : hxd l with
  | none => rw [hxs_no h2] at hn; cases hn
  | some j =>
   rw [hxs_yes h2] at hn
   simp only [hxs, Option.some.injEq] at hn
   exact ⟨i, j, rfl, rfl, by omega⟩
theorem hxs_two {h l : UInt8} {z : Nat} (hn : hxs 0 [h, l] = some z) : z < 256 := by
 obtain ⟨i, j, h1, h2, rfl⟩ := hxs_inv hn
 have := hxd_lt h1
 have := hxd_lt h2
 omega
theorem hxs_ascii {h l : UInt8} {z : Nat} (hn : hxs 0 [h, l] = some z) : ∀ (j : Nat) (b : UInt8), (mkB [h, l]).data.toList[j]? = some b → b.toNat < 128 := by
 obtain ⟨i, j, h1, h2, rfl⟩ := hxs_inv hn
 intro k b hk
 have hm : b ∈ [h, l] := List.mem_of_getElem? hk
 simp only [List.mem_cons, List.not_mem_nil, or_false] at hm
 rcases hm with rfl | rfl
 ·exact hxd_ascii h1
 exact hxd_ascii h2
theorem lo_all : ∀ z : Fin 256, (Lib.toLowerA [UInt8.ofNat z.val] = [UInt8.ofNat z.val] ∧ (hxd (UInt8.ofNat z.val)).isSome = true) → dg (UInt8.ofNat z.val) = hxd (UInt8.ofNat z.val) := by decide +kernel
theorem lo_one {c : UInt8} {n : Nat} (h : Lib.toLowerA [c] = [c]) (hn : hxd c = some n) : dg c = some n := by
 have := lo_all ⟨c.toNat, c.toNat_lt⟩
 simp only [UInt8.ofNat_toNat] at this
 rw [this ⟨h, by rw [hn]; rfl⟩, hn]
theorem lo_dg_all : ∀ z : Fin 256, (dg (UInt8.ofNat z.val)).isSome = true → Lib.toLowerA [UInt8.ofNat z.val] = [UInt8.ofNat z.val] := by decide +kernel
theorem dg_lo {c : UInt8} {n : Nat} (h : dg c = some n) : Lib.toLowerA [c] = [c] := by
 have := lo_dg_all ⟨c.toNat, c.toNat_lt⟩
 simp only [UInt8.ofNat_toNat] at this
 exact this (by rw [h]; rfl)
theorem lo_two (h l : UInt8) : Lib.toLowerA [h, l] = Lib.toLowerA [h] ++ Lib.toLowerA [l] := by simp [Lib.toLowerA]
theorem lo_dg {h l : UInt8} {z : Nat} (he : Lib.toLowerA [h, l] = [h, l]) (hn : hxs 0 [h, l] = some z) : ∃ i j, dg h = some i ∧ dg l = some j ∧ UInt8.ofNat z = UInt8.ofNat (16 * i + j) := by
 obtain ⟨i, j, h1, h2, rfl⟩ := hxs_inv hn
 rw [lo_two] at he
 have e1 : Lib.toLowerA [h] = [h] := by have := congrArg (List.take 1) he; simpa [Lib.toLowerA] using this
 have e2 : Lib.toLowerA [l] = [l] := by have := congrArg (List.drop 1) he; simpa [Lib.toLowerA] using this
 exact ⟨i, j, lo_one e1 h1, lo_one e2 h2, rfl⟩
theorem unq_hxup {b : List UInt8} {h l : UInt8} {r : List UInt8} (hne : Lib.toLowerA [h, l] ≠ [h, l]) : unq b (92 :: 120 :: h :: l :: r) = none := by
 rw [unq_esc, if_pos rfl]
 cases h1 : dg h with
 | none => rfl
 | some i =>
  cases h2 : dg l with
  | none => rfl
  | some j => exact absurd (by rw [lo_two, dg_lo h1, dg_lo h2]; rfl) hne
theorem lo_ne {x y : List UInt8} (h : (!(mkB x).toList == (mkB y).toList) = true) : x ≠ y := fun e => by
 subst e
 simp at h
theorem lo_eq {x y : List UInt8} (h : (!(mkB x).toList == (mkB y).toList) = false) : x = y := by
 rw [ByteArray.toList_eq, ByteArray.toList_eq] at h
 simpa [mkB] using h
theorem plain_yes {y : UInt8} (h : plainC y = true) : ¬ (y.toNat < 32 ∨ 126 < y.toNat) := by
 simp only [plainC, Bool.and_eq_true, decide_eq_true_eq] at h
 omega
theorem unq_hxno {b : List UInt8} {h l : UInt8} {r : List UInt8} (hn : hxs 0 [h, l] = none) : unq b (92 :: 120 :: h :: l :: r) = none := by
 rw [unq_esc, if_pos rfl]
 cases h1 : dg h with
 | none => rfl
 | some i =>
  cases h2 : dg l with
  | none => rfl
  | some j =>
   rw [hxs_yes (dg_hxd h1), hxs_yes (dg_hxd h2)] at hn
   cases hn
set_option maxHeartbeats 20000000 in
set_option maxRecDepth 100000 in
theorem unquote_any (s : List UInt8) (hs : s.length ≤ 1048576) (w : World) {tp : TypeId} {q : Value} (hv : w.var? Tryz.prog "strconv.ErrSyntax" = some #[.iface tp q]) :
  Calls Tryz.prog 60 #[.string (mkB s)] w fun e w' => e = .returned (keyV (keyK s)) ∧ Below w.heap.size w w' := by
 refine enterF (N := w.heap.size) (F := RowF w (fun _ => False) [] w.heap.size 5 1 none 0 0 []) (fn := Tryz.f60) (c := B60) [.so (mkB s)] Tryz.func60 rfl rfl (Nat.le_refl _) ⟨⟨⟨World.ownsRow_nil _ _ _ _, by simp [Value.ownBlock]⟩, Nat.le_refl _⟩, FrameR.start _ [] (by simp), by simp [Value.ownBlock]⟩ ?_
 refine zTq RowF.stable RowF.fewer [0, 11] 0 ?_
 rcases zB ((mkB s).toList == (ByteArray.mk #[]).toList) with b0 | b0
 ·refine zR 11 b0 ?_
  refine zF [2, 3, 4] 0 ⟨.exit .ret, [], [(2, .v (.string (ByteArray.mk #[]))), (3, .v (.string (ByteArray.mk #[]))), (4, .v (.bool false))], []⟩ ?_
  refine zE (.tup zAK0) ?_
  have he := emp_true b0
  subst he
  intro ρ w9 hm hf
  exact ⟨by rw [show keyK [] = none from rfl]; rfl, hm.below⟩
 refine zR 11 b0 ?_
 refine zF [0, 11, 12] 0 ⟨pops B60 [1, 0, 0] 4, [(sq60 [1, 0, 1]), (sq60 [1, 1])], [(0, .so (mkB s)), (11, .v (.bool false)), (12, .so (mkB s))], []⟩ ?_
 obtain ⟨y, l0, rfl⟩ := emp_false b0
 have hs1 : (y :: l0).length ≤ 1048576 := hs
 refine At.six (mkB (y :: l0)) 0 y (by kernel_rfl) (by omega) rfl RowF.stable ?_
 refine zTq RowF.stable RowF.fewer [0, 15] 0 ?_
 rcases zB ((↑y.toNat : Int) != 34) with b0 | b0
 ·refine zR 15 b0 ?_
  refine zF [2, 3, 4] 0 ⟨.exit .ret, [], [(2, .v (.string (ByteArray.mk #[]))), (3, .v (.string (ByteArray.mk #[]))), (4, .v (.bool false))], []⟩ ?_
  refine zE (.tup zAK0) ?_
  have hy : y ≠ 34 := fun e => by subst e; simp at b0
  intro ρ w9 hm hf
  exact ⟨by rw [keyK_ne hy]; rfl, hm.below⟩
 refine zR 15 b0 ?_
 refine zF [5, 16] 0 ⟨pops B60 [1, 1, 1, 0, 0] 1, [(sq60 [1, 1, 1, 0, 1]), (sq60 pAK13)], [(5, .v (.slice none 0 0)), (16, .so (mkB (y :: l0)))], []⟩ ?_
 have hy : y = 34 := UInt8.toNat_inj.1 (by simp at b0; show y.toNat = 34; omega)
 subst hy
 refine sslW (34 :: l0) 1 l0 rfl (by kernel_rfl) (by simp) RowF.stable ?_
 refine zF [0, 5] 0 ⟨.code (sub B60 [1, 1, 1, 0, 1, 4]), [.block 0, (sq60 pAK13)], [(0, .so (mkB l0)), (5, .v (.slice none 0 0))], []⟩ ?_
 clear b0
 generalize hs0 : (34 :: l0 : List UInt8) = s
 have hkk : keyK s = unq [] l0 := by rw [← hs0]; rfl
 have hll : l0.length ≤ 1048576 := by have := congrArg List.length hs0; simp only [List.length_cons] at this hs1; omega
 refine At.slFr _ rfl ?_
 refine At.loop (σ := USt) (sub B60 [1, 1, 1, 0, 1, 4, 4]) frU locU (GU w s) muU ⟨none, 0, 0, [], l0⟩ (by kernel_rfl) (by unfold subFr; kernel_rfl) (by kernel_rfl) (fun _ _ _ _ h => ⟨h, hkk, by simp only; omega⟩) ?_
 clear hkk hll hs hs1
 rintro ⟨A, n, c, acc, l⟩
 refine At.pure fun ⟨h1, h2⟩ => ?_
 simp only at h1 h2
 refine zTq RowF.stable RowF.fewer [0, 5, 19] 0 ?_
 rcases zB (!(mkB l).toList == (ByteArray.mk #[]).toList) with b0 | b0
 ·refine zR 19 b0 ?_
  refine zF [0, 5, 22] 0 ⟨pops B60 [1, 1, 1, 0, 1, 4, 4, 1, 0, 4, 0] 1, [(sq60 [1, 1, 1, 0, 1, 4, 4, 1, 0, 4, 1]), .block 1, (sq60 pAK12), .next (Sx.Next w.heap.size w Tryz.f60.ntmps frU locU (GU w s) muU (USt.mk A n c acc l)), .block 0, (sq60 pAK13)], [(0, .so (mkB l)), (5, .sl A n c), (22, .so (mkB l))], []⟩ ?_
  obtain ⟨y, l', rfl⟩ := emp_false (by simpa using b0)
  clear b0
  have hy := y.toNat_lt
  refine At.six (mkB (y :: l')) 0 y (by kernel_rfl) (by omega) rfl RowF.stable ?_
  refine zTq RowF.stable RowF.fewer [0, 5, 6, 24] 0 ?_
  rcases zB ((↑y.toNat : Int) == 34) with b0 | b0
  ·refine zR 24 b0 ?_
   refine zF [0, 27] 0 ⟨pqops B60 [1, 1, 1, 0, 1, 4, 4, 1, 0, 4, 1, 0, 4, 1, 2, 0] 1, [(sq60 [1, 0, 1, 2, 1]), .block 2, (sq60 pAK10), .block 1, (sq60 pAK12), .next (Sx.Next w.heap.size w Tryz.f60.ntmps frU locU (GU w s) muU (USt.mk A n c acc (y :: l'))), .block 0, (sq60 pAK13)], [(0, .so (mkB (y :: l'))), (27, .sl A n c)], []⟩ ?_
   have e34 : y = 34 := UInt8.toNat_inj.1 (by simp at b0; show y.toNat = 34; omega)
   subst e34
   refine At.cvy A n c (acc.map UInt8.toNat) (.so (mkB acc)) (by kernel_rfl) RowF.stable (fun ρ => by rw [strOf_map]; rfl) (fun ρ w1 hm hf => row_cw hf.1.1) ?_
   refine zF [28, 29] 0 ⟨pqops B60 [1, 1, 1, 0, 1, 4, 4, 1, 0, 4, 1, 0, 4, 1, 2, 0] 3, [(sq60 [1, 0, 1, 2, 1]), .block 2, (sq60 pAK10), .block 1, (sq60 pAK12), .next (Sx.Next w.heap.size w Tryz.f60.ntmps frU locU (GU w s) muU (USt.mk A n c acc (34 :: l'))), .block 0, (sq60 pAK13)], [(28, .so (mkB acc)), (29, .so (mkB (34 :: l')))], []⟩ ?_
   refine sslW (34 :: l') 1 l' rfl (by kernel_rfl) (by simp) RowF.stable ?_
   refine zF [2, 3, 4] 0 ⟨.exit .ret, [], [(2, .so (mkB acc)), (3, .so (mkB l')), (4, .v (.bool true))], []⟩ ?_
   refine zE (.tup [.so (mkB acc), .so (mkB l'), .v (.bool true)]) ?_
   intro ρ w9 hm hf
   exact ⟨by rw [h1, unq_end]; rfl, hm.below⟩
  refine zR 24 b0 ?_
  refine zF [0, 5, 6, 31] 0 ⟨.code (sub B60 [1, 1, 1, 0, 1, 4, 4, 1, 0, 4, 1, 0, 4, 1, 3, 1]), [.block 2, (sq60 pAK10), .block 1, (sq60 pAK12), .next (Sx.Next w.heap.size w Tryz.f60.ntmps frU locU (GU w s) muU (USt.mk A n c acc (y :: l'))), .block 0, (sq60 pAK13)], [(0, .so (mkB (y :: l'))), (5, .sl A n c), (6, .io IntKind.u8 (↑y.toNat : Int)), (31, .bo ((↑y.toNat : Int) == 92))], []⟩ ?_
  rcases zB ((↑y.toNat : Int) == 92) with b1 | b1
  ·refine zR 31 b1 ?_
   refine zTq RowF.stable RowF.fewer [0, 5, 37] 0 ?_
   rcases zB (decide ((↑(mkB (y :: l')).size : Int) < 4)) with b2 | b2
   ·refine zR 37 b2 ?_
    refine zF [2, 3, 4] 0 ⟨.exit .ret, [], [(2, .v (.string (ByteArray.mk #[]))), (3, .v (.string (ByteArray.mk #[]))), (4, .v (.bool false))], []⟩ ?_
    refine zE (.tup zAK0) ?_
    have n34 : y ≠ 34 := fun e => by subst e; exact absurd b0 (by decide)
    have e92 : y = 92 := UInt8.toNat_inj.1 (by simp at b1; show y.toNat = 92; omega)
    subst e92
    have hsz := of_decide_eq_true b2
    rw [mkB_size, List.length_cons] at hsz
    intro ρ w9 hm hf
    exact ⟨by rw [h1, unq_short acc l' (by omega)]; rfl, hm.below⟩
   refine zR 37 b2 ?_
   refine zF [0, 5, 37, 38] 0 ⟨pops B60 pAK3 5, [(sq60 pAK4), (sq60 pAK7), .block 2, (sq60 pAK10), .block 1, (sq60 pAK12), .next (Sx.Next w.heap.size w Tryz.f60.ntmps frU locU (GU w s) muU (USt.mk A n c acc (y :: l'))), .block 0, (sq60 pAK13)], [(0, .so (mkB (y :: l'))), (5, .sl A n c), (37, .v (.bool false)), (38, .so (mkB (y :: l')))], []⟩ ?_
   have n34 : y ≠ 34 := fun e => by subst e; exact absurd b0 (by decide)
   have e92 : y = 92 := UInt8.toNat_inj.1 (by simp at b1; show y.toNat = 92; omega)
   subst e92
   have hsz := of_decide_eq_false b2
   rw [mkB_size, List.length_cons] at hsz
   obtain ⟨x, h, l3, r, rfl⟩ := three (l := l') (by omega)
   refine At.six (mkB (92 :: x :: h :: l3 :: r)) 1 x (by kernel_rfl) (by omega) rfl RowF.stable ?_
   clear b0 b1 b2
   refine zTq RowF.stable RowF.fewer [0, 5, 41] 0 ?_
   rcases zB ((↑x.toNat : Int) != 120) with b0 | b0
   ·refine zR 41 b0 ?_
    refine zF [2, 3, 4] 0 ⟨.exit .ret, [], [(2, .v (.string (ByteArray.mk #[]))), (3, .v (.string (ByteArray.mk #[]))), (4, .v (.bool false))], []⟩ ?_
    refine zE (.tup zAK0) ?_
    have nx : x ≠ 120 := fun e => by subst e; exact absurd b0 (by decide)
    intro ρ w9 hm hf
    exact ⟨by rw [h1, unq_esc, if_neg nx]; rfl, hm.below⟩
   refine zR 41 b0 ?_
   refine zF [0, 5, 43] 0 ⟨pops B60 pAK5 1, [(sq60 pAK6), .block 2, (sq60 pAK10), .block 1, (sq60 pAK12), .next (Sx.Next w.heap.size w Tryz.f60.ntmps frU locU (GU w s) muU (USt.mk A n c acc (92 :: x :: h :: l3 :: r))), .block 0, (sq60 pAK13)], [(0, .so (mkB (92 :: x :: h :: l3 :: r))), (5, .sl A n c), (43, .so (mkB (92 :: x :: h :: l3 :: r)))], []⟩ ?_
   have ex : x = 120 := UInt8.toNat_inj.1 (by simp at b0; show x.toNat = 120; omega)
   subst ex
   clear b0
   have hh := h.toNat_lt
   have hh3 := l3.toNat_lt
   refine At.ssl (mkB (92 :: 120 :: h :: l3 :: r)) 2 (some 4) (by kernel_rfl) (by omega) (by rw [Option.getD_some]; omega) (by rw [Option.getD_some, mkB_size]; simp only [List.length_cons]; omega) RowF.stable ?_
   rw [show (mkB (92 :: 120 :: h :: l3 :: r)).extract (2 : Int).toNat ((some (4 : Int)).getD (mkB (92 :: 120 :: h :: l3 :: r)).size).toNat = mkB [h, l3] from two_of h l3 r]
   let kn0 : K := .next (Sx.Next w.heap.size w Tryz.f60.ntmps frU locU (GU w s) muU (USt.mk A n c acc (92 :: 120 :: h :: l3 :: r)))
   refine zF [0, 5, 44] 0 ⟨pops B60 pAK5 2, [(sq60 pAK6), .block 2, (sq60 pAK10), .block 1, (sq60 pAK12), kn0, .block 0, (sq60 pAK13)], [(0, .so (mkB (92 :: 120 :: h :: l3 :: r))), (5, .sl A n c), (44, .so (mkB [h, l3]))], []⟩ ?_
   cases hn : hxs 0 [h, l3] with
   | none =>
    refine At.callx RowF.stable (X := Nat) 82 [.so (mkB [h, l3]), .v (.int .i64 16), .v (.int .i64 8)] (fun x => .tup [.v (.int .u64 0), .v (.iface 146 (.pointer (some ⟨x, 0, none⟩)))]) (fun _ _ _ => True) (fun _ => fun _ _ _ _ _ _ h => h) (by kernel_rfl) (by kernel_rfl) (by kernel_rfl) (by kernel_rfl) (fun ρ a w1 hi hf => ?_) fun x => ?_
    ·exact (pu_bad rfl hn w1 (var_below hv hi.mem.below)).mono fun e' w' ⟨N, he, hb⟩ => ⟨N, he, hb, trivial⟩
    refine At.mono (F' := RowF w (fun _ => False) [] w.heap.size 5 1 A n c (bw acc)) (fun ρ w1 h => h.1) ?_
    refine zF [0, 5, 7, 48] 0 ⟨pqops B60 [1, 1, 1, 0, 1, 4, 4, 1, 0, 4, 1, 0, 4, 1, 3, 1, 2, 1, 1, 0, 0] 1, [(sq60 pAK1), (sq60 pAK2), .block 2, (sq60 pAK10), .block 1, (sq60 pAK12), kn0, .block 0, (sq60 pAK13)], [(0, .so (mkB (92 :: 120 :: h :: l3 :: r))), (5, .sl A n c), (7, .v (.int IntKind.u64 0)), (48, .v (.iface 146 (.pointer (some (Addr.mk x 0 none)))))], []⟩ ?_
    refine At.nilne true (by kernel_rfl) RowF.stable ?_
    refine zF [2, 3, 4] 0 ⟨.exit .ret, [], [(2, .v (.string (ByteArray.mk #[]))), (3, .v (.string (ByteArray.mk #[]))), (4, .v (.bool false))], []⟩ ?_
    refine zE (.tup zAK0) ?_
    intro ρ w9 hm hf
    exact ⟨by rw [h1, unq_hxno hn]; rfl, hm.below⟩
   | some z =>
    refine zC RowF.stable 82 [.so (mkB [h, l3]), .v (.int .i64 16), .v (.int .i64 8)] (.tup [.io .u64 (z : Int), .v .nilIface]) (fun _ _ w1 _ _ => pu_ok rfl hn w1) ?_
    refine zF [0, 5, 7, 48] 0 ⟨pqops B60 [1, 1, 1, 0, 1, 4, 4, 1, 0, 4, 1, 0, 4, 1, 3, 1, 2, 1, 1, 0, 0] 1, [(sq60 pAK1), (sq60 pAK2), .block 2, (sq60 pAK10), .block 1, (sq60 pAK12), kn0, .block 0, (sq60 pAK13)], [(0, .so (mkB (92 :: 120 :: h :: l3 :: r))), (5, .sl A n c), (7, .io IntKind.u64 (↑z : Int)), (48, .v .nilIface)], []⟩ ?_
    refine At.nilne false (by kernel_rfl) RowF.stable ?_
    refine zF [0, 5, 7, 50, 51] 0 ⟨pqops B60 [1, 1, 1, 0, 1, 4, 4, 1, 0, 4, 1, 0, 4, 1, 3, 1, 2, 1, 1, 0, 0] 4, [(sq60 pAK1), (sq60 pAK2), .block 2, (sq60 pAK10), .block 1, (sq60 pAK12), kn0, .block 0, (sq60 pAK13)], [(0, .so (mkB (92 :: 120 :: h :: l3 :: r))), (5, .sl A n c), (7, .io IntKind.u64 (↑z : Int)), (50, .v (.bool false)), (51, .so (mkB (92 :: 120 :: h :: l3 :: r)))], []⟩ ?_
    refine At.ssl (mkB (92 :: 120 :: h :: l3 :: r)) 2 (some 4) (by kernel_rfl) (by omega) (by rw [Option.getD_some]; omega) (by rw [Option.getD_some, mkB_size]; simp only [List.length_cons]; omega) RowF.stable ?_
    rw [show (mkB (92 :: 120 :: h :: l3 :: r)).extract (2 : Int).toNat ((some (4 : Int)).getD (mkB (92 :: 120 :: h :: l3 :: r)).size).toNat = mkB [h, l3] from two_of h l3 r]
    have hz16 := hxs_two hn
    refine zF [0, 5, 7, 50, 52] 0 ⟨pqops B60 [1, 1, 1, 0, 1, 4, 4, 1, 0, 4, 1, 0, 4, 1, 3, 1, 2, 1, 1, 0, 0] 5, [(sq60 pAK1), (sq60 pAK2), .block 2, (sq60 pAK10), .block 1, (sq60 pAK12), kn0, .block 0, (sq60 pAK13)], [(0, .so (mkB (92 :: 120 :: h :: l3 :: r))), (5, .sl A n c), (7, .io IntKind.u64 (↑z : Int)), (50, .v (.bool false)), (52, .so (mkB [h, l3]))], []⟩ ?_
    refine zC RowF.stable 83 [.so (mkB [h, l3])] (.so (mkB (Lib.toLowerA [h, l3]))) (fun _ _ w1 _ _ => Tryz.strings_ToLower_ascii (mkB [h, l3]) w1 (by rw [mkB_size]; simp) (hxs_ascii hn)) ?_
    refine zF [0, 5, 7, 50, 53, 54] 0 ⟨pqops B60 [1, 1, 1, 0, 1, 4, 4, 1, 0, 4, 1, 0, 4, 1, 3, 1, 2, 1, 1, 0, 0] 7, [(sq60 pAK1), (sq60 pAK2), .block 2, (sq60 pAK10), .block 1, (sq60 pAK12), kn0, .block 0, (sq60 pAK13)], [(0, .so (mkB (92 :: 120 :: h :: l3 :: r))), (5, .sl A n c), (7, .io IntKind.u64 (↑z : Int)), (50, .v (.bool false)), (53, .so (mkB (Lib.toLowerA [h, l3]))), (54, .so (mkB (92 :: 120 :: h :: l3 :: r)))], []⟩ ?_
    refine At.ssl (mkB (92 :: 120 :: h :: l3 :: r)) 2 (some 4) (by kernel_rfl) (by omega) (by rw [Option.getD_some]; omega) (by rw [Option.getD_some, mkB_size]; simp only [List.length_cons]; omega) RowF.stable ?_
    rw [show (mkB (92 :: 120 :: h :: l3 :: r)).extract (2 : Int).toNat ((some (4 : Int)).getD (mkB (92 :: 120 :: h :: l3 :: r)).size).toNat = mkB [h, l3] from two_of h l3 r]
    refine zTq RowF.stable RowF.fewer [0, 5, 7, 58] 0 ?_
    rcases zB (!(mkB (Lib.toLowerA [h, l3])).toList == (mkB [h, l3]).toList) with b0 | b0
    ·refine zR 58 b0 ?_
     refine zF [2, 3, 4] 0 ⟨.exit .ret, [], [(2, .v (.string (ByteArray.mk #[]))), (3, .v (.string (ByteArray.mk #[]))), (4, .v (.bool false))], []⟩ ?_
     refine zE (.tup zAK0) ?_
     have hne := lo_ne b0
     intro ρ w9 hm hf
     exact ⟨by rw [h1, unq_hxup hne]; rfl, hm.below⟩
    refine zR 58 b0 ?_
    let kn1 : K := .next (Sx.Next w.heap.size w Tryz.f60.ntmps frU locU (GU w s) muU (USt.mk A n c acc (92 :: 120 :: h :: l3 :: r)))
    refine zF [0, 5, 7, 58, 60] 0 ⟨pqops B60 [1, 1, 1, 0, 1, 4, 4, 1, 0, 4, 1, 0, 4, 1, 3, 1, 2, 1, 1, 0, 0] 13, [(sq60 pAK1), (sq60 pAK2), .block 2, (sq60 pAK10), .block 1, (sq60 pAK12), kn1, .block 0, (sq60 pAK13)], [(0, .so (mkB (92 :: 120 :: h :: l3 :: r))), (5, .sl A n c), (7, .io IntKind.u64 (↑z : Int)), (58, .v (.bool false)), (60, .io IntKind.u8 (IntKind.u8.wrap (↑z : Int)))], []⟩ ?_
    have heq := lo_eq b0
    have ev : IntKind.u8.wrap (z : Int) = ((UInt8.ofNat z).toNat : Int) := by
     rw [wrap_u8, UInt8.toNat_ofNat']
     omega
    obtain ⟨i, j, hi1, hj1, hz⟩ := lo_dg heq hn
    clear b0
    refine zC RowF.stable 42 [.io .u8 (IntKind.u8.wrap (z : Int))] (.bo (plainC (UInt8.ofNat z))) (fun _ _ w1 _ _ => by have hk := plain_any (UInt8.ofNat z) w1; rw [← ev] at hk; exact hk) ?_
    refine zTq RowF.stable RowF.fewer [0, 5, 7, 62] 0 ?_
    rcases zB (plainC (UInt8.ofNat z)) with b0 | b0
    ·refine zR 62 b0 ?_
     refine zF [2, 3, 4] 0 ⟨.exit .ret, [], [(2, .v (.string (ByteArray.mk #[]))), (3, .v (.string (ByteArray.mk #[]))), (4, .v (.bool false))], []⟩ ?_
     refine zE (.tup zAK0) ?_
     have hpl : plainC (UInt8.ofNat z) = true := by simpa using b0
     intro ρ w9 hm hf
     exact ⟨by rw [h1, unq_esc, if_pos rfl, hi1, hj1]; simp only; rw [← hz, if_pos hpl]; rfl, hm.below⟩
    refine zR 62 b0 ?_
    refine zF [5, 6, 7, 65] 0 ⟨pops B60 [1, 1, 1, 0, 1, 4, 4, 1, 0, 4, 1, 0, 4, 1, 3, 1, 2, 1, 1, 1, 1] 1, [.block 2, (sq60 pAK10), .block 1, (sq60 pAK12), kn1, .block 0, (sq60 pAK13)], [(5, .sl A n c), (6, .io IntKind.u8 (IntKind.u8.wrap (↑z : Int))), (7, .io IntKind.u64 (↑z : Int)), (65, .so (mkB (92 :: 120 :: h :: l3 :: r)))], []⟩ ?_
    have hpl : plainC (UInt8.ofNat z) = false := by simpa using b0
    clear b0
    refine sslW (92 :: 120 :: h :: l3 :: r) 3 (l3 :: r) rfl (by kernel_rfl) (by simp) RowF.stable ?_
    refine zF [0, 6, 71, 73] 1 ⟨pops B60 pAK10 3, [.block 1, (sq60 pAK12), kn1, .block 0, (sq60 pAK13)], [(0, .so (mkB (l3 :: r))), (6, .io IntKind.u8 (IntKind.u8.wrap (↑z : Int))), (71, .sl A n c), (73, .ls 0 0 1 1)], [([.io IntKind.u8 (IntKind.u8.wrap (↑z : Int))], 5)]⟩ ?_
    refine At.app (55) (5) (1) (1) (A) (n) (c) (1) ([.io IntKind.u8 (IntKind.u8.wrap (↑z : Int))]) _ _ _ _ ([.int IntKind.u8 (IntKind.u8.wrap (↑z : Int))]) (by kernel_rfl) (fun ρ => by kernel_rfl) (by first | omega | (simp only [Go.maxLen]; omega)) (by first | omega | (simp only [Go.maxLen]; omega)) (by first | omega | (simp only [Go.maxLen]; omega)) fun A0 c0 => ?_
    refine zF [5, 6, 20] 0 ⟨pops B60 pAK12 1, [kn1, .block 0, (sq60 pAK13)], [(5, .sl A0 (n + 1) c0), (6, .io IntKind.u8 (IntKind.u8.wrap (↑z : Int))), (20, .so (mkB (l3 :: r)))], []⟩ ?_
    refine sslW (l3 :: r) 1 r rfl (by kernel_rfl) (by simp) RowF.stable ?_
    refine zF [0, 5] 0 ⟨.exit .normal, [kn1, .block 0, (sq60 pAK13)], [(0, .so (mkB r)), (5, .sl A0 (n + 1) c0)], []⟩ ?_
    refine At.next (σ := USt) ⟨A0, n + 1, c0, acc ++ [UInt8.ofNat z], r⟩ rfl rfl (by unfold subFr; kernel_rfl) (by kernel_rfl) ?_ ?_
    ·intro ρ a1 w1 hi hf
     exact ⟨by rw [bw_app]; rw [ev] at hf; exact hf, by rw [h1]; rw [unq_esc, if_pos rfl, hi1, hj1]; simp only; rw [← hz, if_neg (by rw [hpl]; decide)], by simp only [List.length_cons] at h2 ⊢; omega⟩
    simp only [muU, List.length_cons]
    omega
  refine zR 31 b1 ?_
  refine zF [0, 5, 6, 68] 0 ⟨pops B60 [1, 1, 1, 0, 1, 4, 4, 1, 0, 4, 1, 0, 4, 1, 3, 1, 3, 0] 1, [(sq60 pAK8), .block 2, (sq60 pAK10), .block 1, (sq60 pAK12), .next (Sx.Next w.heap.size w Tryz.f60.ntmps frU locU (GU w s) muU (USt.mk A n c acc (y :: l'))), .block 0, (sq60 pAK13)], [(0, .so (mkB (y :: l'))), (5, .sl A n c), (6, .io IntKind.u8 (↑y.toNat : Int)), (68, .io IntKind.u8 (↑y.toNat : Int))], []⟩ ?_
  have n34 : y ≠ 34 := fun e => by subst e; exact absurd b0 (by decide)
  have n92 : y ≠ 92 := fun e => by subst e; exact absurd b1 (by decide)
  refine zC RowF.stable 42 [.io .u8 (y.toNat : Int)] (.bo (plainC y)) (fun _ _ w1 _ _ => plain_any y w1) ?_
  refine zTq RowF.stable RowF.fewer [0, 5, 6, 67] 0 ?_
  rcases zB (!plainC y) with b0 | b0
  ·refine zR 67 b0 ?_
   refine zF [2, 3, 4] 0 ⟨.exit .ret, [], [(2, .v (.string (ByteArray.mk #[]))), (3, .v (.string (ByteArray.mk #[]))), (4, .v (.bool false))], []⟩ ?_
   refine zE (.tup zAK0) ?_
   have hpl : plainC y = false := by simpa using b0
   intro ρ w9 hm hf
   exact ⟨by rw [h1, unq_cons, if_neg n34, if_neg n92, if_pos (plain_no hpl n34 n92)]; rfl, hm.below⟩
  refine zR 67 b0 ?_
  let kn2 : K := .next (Sx.Next w.heap.size w Tryz.f60.ntmps frU locU (GU w s) muU (USt.mk A n c acc (y :: l')))
  refine zF [0, 71, 73] 1 ⟨pops B60 pAK10 3, [.block 1, (sq60 pAK12), kn2, .block 0, (sq60 pAK13)], [(0, .so (mkB (y :: l'))), (71, .sl A n c), (73, .ls 0 0 1 1)], [([.io IntKind.u8 (↑y.toNat : Int)], 5)]⟩ ?_
  refine At.app (55) (5) (1) (1) (A) (n) (c) (1) ([.io IntKind.u8 (↑y.toNat : Int)]) _ _ _ _ ([.int IntKind.u8 (↑y.toNat : Int)]) (by kernel_rfl) (fun ρ => by kernel_rfl) (by first | omega | (simp only [Go.maxLen]; omega)) (by first | omega | (simp only [Go.maxLen]; omega)) (by first | omega | (simp only [Go.maxLen]; omega)) fun A1 c1 => ?_
  refine zF [5, 20] 0 ⟨pops B60 pAK12 1, [kn2, .block 0, (sq60 pAK13)], [(5, .sl A1 (n + 1) c1), (20, .so (mkB (y :: l')))], []⟩ ?_
  have hpl : plainC y = true := by simpa using b0
  clear b0
  refine sslW (y :: l') 1 l' rfl (by kernel_rfl) (by simp) RowF.stable ?_
  refine zF [0, 5] 0 ⟨.exit .normal, [kn2, .block 0, (sq60 pAK13)], [(0, .so (mkB l')), (5, .sl A1 (n + 1) c1)], []⟩ ?_
  refine At.next (σ := USt) ⟨A1, n + 1, c1, acc ++ [y], l'⟩ rfl rfl (by unfold subFr; kernel_rfl) (by kernel_rfl) ?_ ?_
  ·intro ρ a1 w1 hi hf
   exact ⟨by rw [bw_app]; exact hf, by rw [h1]; exact unq_step acc y l' n34 n92 (plain_yes hpl), by simp only [List.length_cons] at h2 ⊢; omega⟩
  simp only [muU, List.length_cons]
  omega
 refine zR 19 b0 ?_
 refine zF [2, 3, 4] 0 ⟨.exit .ret, [], [(2, .v (.string (ByteArray.mk #[]))), (3, .v (.string (ByteArray.mk #[]))), (4, .v (.bool false))], []⟩ ?_
 refine zE (.tup zAK0) ?_
 have he := emp_true (by simpa using b0)
 subst he
 intro ρ w9 hm hf
 exact ⟨by rw [h1, show unq acc [] = none from rfl]; rfl, hm.below⟩
end Go.Proofs.YthfpekhpeiebjaaGreatDoor
end
