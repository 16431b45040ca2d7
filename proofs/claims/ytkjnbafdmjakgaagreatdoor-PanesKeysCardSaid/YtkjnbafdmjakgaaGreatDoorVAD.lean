/- Joined texts: KA, KB. -/
import Derived.Test.YtkjnbafdmjakgaaGreatDoorVVV
import Derived.Test.YtkjnbafdmjakgaaGreatDoorRows
import Derived.Test.YtkjnbafdmjakgaaGreatDoorVAA
set_option linter.unusedSimpArgs false
set_option linter.unusedVariables false
namespace Go.Sx
open Go
def zAD0 : List SV := [.v (.string (ByteArray.mk #[])), .v (.string (ByteArray.mk #[101, 97, 114, 108, 121])), .v (.string (ByteArray.mk #[111, 110, 116, 105, 109, 101])), .v (.string (ByteArray.mk #[108, 97, 116, 101]))]
def pAD1 : List Nat := [1, 1, 0, 1, 4, 4, 1, 1, 0, 4, 1, 1, 3]
def pAD2 : List Nat := [1, 1, 0, 1, 4, 4, 1, 1, 0, 4, 1, 0]
def pAD3 : List Nat := [1, 1, 0, 1, 4, 4, 1, 1, 0, 4, 1, 1]
def pAD4 : List Nat := [1, 1, 1, 0, 1, 4, 4, 1, 1, 0, 4, 1]
def pAD5 : List Nat := [1, 1, 1, 0, 1, 4, 4, 1, 1, 1]
def pAD6 : List Nat := [1, 1, 0, 1, 4, 4, 1, 1, 1]
def pAD7 : List Nat := [1, 1, 1, 0, 1, 4, 4]
def pAD8 : List Nat := [1, 1, 1, 1]
def pAD9 : List Nat := [1, 1, 1]
end Go.Sx
section
namespace Go.Proofs.YtkjnbafdmjakgaaGreatDoor
open Go.RowKit Go.Sx
open Go.Lib
def mkB (l : List UInt8) : ByteArray := ⟨l.toArray⟩
theorem mkB_size (x : List UInt8) : (mkB x).size = x.length := by simp [mkB, ByteArray.size]
def bw (l : List UInt8) : List Value := l.map fun b => Value.int .u8 (b.toNat : Int)
theorem bw_app (xs ys : List UInt8) : bw (xs ++ ys) = bw xs ++ bw ys := List.map_append
theorem drop_at {α : Type} {l : List α} {j : Nat} {b : α} (h : l[j]? = some b) : l.drop j = b :: l.drop (j + 1) := by
 obtain ⟨hl, he⟩ := List.getElem?_eq_some_iff.1 h
 rw [List.drop_eq_getElem_cons hl, he]
theorem wrap63 {x : Int} (h0 : 0 ≤ x) (h1 : x < 9223372036854775808) : IntKind.i64.wrap x = x := wrap_id ⟨by omega, by omega⟩
theorem ent_src {w0 w : World} {A : Option Addr} {b : Addr} {n c : Nat} {ys : List Value} {ρ : List Nat} (h : EntV w0 A n c (some b, ys) ρ w) : Src w b ys := by
 obtain ⟨b', e, _, _, _, _, hs⟩ := h
 simp only [Option.some.injEq] at e
 subst e
 exact hs
theorem shr_all : ∀ z : Fin 256, (((z.val : Nat) : Int)).fdiv (2 ^ (min (4 : Int).toNat IntKind.u8.bits)) = ((z.val / 16 : Nat) : Int) := by decide +kernel
theorem and_all : ∀ z : Fin 256, IntKind.u8.wrap ((BitVec.ofInt IntKind.u8.bits ((z.val : Nat) : Int) &&& BitVec.ofInt IntKind.u8.bits 15).toNat : Int) = ((z.val % 16 : Nat) : Int) := by decide +kernel
theorem shr4b (y : UInt8) : ((y.toNat : Int)).fdiv (2 ^ (min (4 : Int).toNat IntKind.u8.bits)) = ((y.toNat / 16 : Nat) : Int) := shr_all ⟨y.toNat, y.toNat_lt⟩
theorem and15b (y : UInt8) : IntKind.u8.wrap ((BitVec.ofInt IntKind.u8.bits (y.toNat : Int) &&& BitVec.ofInt IntKind.u8.bits 15).toNat : Int) = ((y.toNat % 16 : Nat) : Int) := and_all ⟨y.toNat, y.toNat_lt⟩
theorem hex_all : ∀ z : Fin 16, (ByteArray.mk #[48, 49, 50, 51, 52, 53, 54, 55, 56, 57, 97, 98, 99, 100, 101, 102]).data.toList[z.val]? = some (hexB z.val) := by decide +kernel
theorem hex_at {n : Nat} (h : n < 16) : (ByteArray.mk #[48, 49, 50, 51, 52, 53, 54, 55, 56, 57, 97, 98, 99, 100, 101, 102]).data.toList[n]? = some (hexB n) := hex_all ⟨n, h⟩
theorem strOf_eq (bs : List Nat) : strOf bs = ⟨(bs.map UInt8.ofNat).toArray⟩ := by
 have h : ∀ (l : List Nat) (acc : ByteArray), (l.map fun b : Nat => ((b : Nat) : Int)).foldl (fun r n => r.push (UInt8.ofNat n.toNat)) acc = ⟨acc.data ++ (l.map UInt8.ofNat).toArray⟩ := by
  intro l
  induction l with
  | nil => intro acc; simp
  | cons b l ih =>
   intro acc
   simp only [List.map_cons, List.foldl_cons, Int.toNat_natCast]
   rw [ih]
   simp [ByteArray.push]
 unfold strOf
 rw [h]
 have he : ByteArray.empty.data = #[] := rfl
 rw [he]
 simp
theorem strOf_map (l : List UInt8) : strOf (l.map UInt8.toNat) = mkB l := by
 rw [strOf_eq, List.map_map]
 unfold mkB
 congr 2
 rw [show (UInt8.ofNat ∘ UInt8.toNat) = id from funext fun b => by simp]
 simp
theorem row_cw {base n c : Nat} {A : Option Addr} {l : List UInt8} {ρ : List Nat} {w : World} (h : Row base 5 1 A n c (bw l) ρ w) :
  (l.map UInt8.toNat).length = n ∧ (A = none → l.map UInt8.toNat = []) ∧ ∀ a, A = some a → ∀ (j b : Nat), (l.map UInt8.toNat)[j]? = some b → w.cell? (a.add j) = some (.int .u8 (b : Int)) := by
 have hl : l.length = n := by have := h.len; simp only [bw, List.length_map] at this; omega
 refine ⟨by rw [List.length_map]; exact hl, fun ha => ?_, fun a ha j b hj => ?_⟩
 ·subst ha
  rcases h.1.2 with ⟨h2, h3⟩ | ⟨g, cap, cur, hv, _⟩
  ·injection h2 with _ h4 _
   rw [List.eq_nil_of_length_eq_zero (by omega : l.length = 0)]
   rfl
  cases hv
 subst ha
 rw [List.getElem?_map, Option.map_eq_some_iff] at hj
 obtain ⟨y, hy, rfl⟩ := hj
 have hj' := (List.getElem?_eq_some_iff.1 hy).1
 obtain ⟨g, hg, hc⟩ := h.cell (j := j) (by omega)
 injection hg with hg
 subst hg
 rw [add_ok, Nat.zero_add, hc, bw, List.getElem?_map, hy]
 rfl
structure QSt where
 i : Nat
 A : Option Addr
 n : Nat
 c : Nat
 acc : List UInt8
def frQ (b : Addr) (c : Nat) (k : List UInt8) : QSt → Fr
 | ⟨i, A1, n1, c1, _⟩ => [(3, .sl A1 n1 c1), (8, .sl (some b) (mkB k).size c), (9, .io .i64 ((mkB k).size : Int)), (10, .io .i64 (i : Int))]
def locQ (_ : QSt) : Sx.Loc := []
def GQ (w0 : World) (b : Addr) (k R : List UInt8) (s : QSt) (ρ : List Nat) (w : World) : Prop :=
 RowE w0 (fun _ => False) [] w0.heap.size 5 1 s.A s.n s.c (bw s.acc) [(some b, bytesV (mkB k))] ρ w ∧ (s.i ≤ k.length ∧ s.acc ++ ((k.drop s.i).flatMap q1 ++ [34]) = R ∧ s.n = s.acc.length ∧ s.n ≤ 1 + 4 * s.i)
def muQ (k : List UInt8) (s : QSt) : Nat := k.length - s.i
noncomputable def B36 : Code := (Tryz.f36.body).getD .skip
set_option maxHeartbeats 20000000 in
set_option maxRecDepth 100000 in
theorem quote_any (k : List UInt8) (hk : k.length ≤ 1048576) (w : World) :
  Calls Tryz.prog 36 #[.string (mkB k)] w fun e w' => e = .returned (.string (mkB (quoteB k))) ∧ Below w.heap.size w w' := by
 refine enter (fn := Tryz.f36) (c := B36) [.so (mkB k)] Tryz.func36 rfl rfl ?_
 refine zN [3, 7] 1 ⟨pops B36 [1, 1, 0, 0] 1, [.seq (sub B36 [1, 1, 0, 1]), .seq (sub B36 pAD9)], [(3, .ls 0 0 1 1), (7, .so (mkB k))], [([.v (.int IntKind.u8 34)], 5)]⟩ ?_
 refine At.lsRow1 3 [7] 0 1 5 1 [.v (.int .u8 34)] [.int .u8 34] rfl rfl rfl rfl rfl (by decide) (fun _ => rfl) (by kernel_rfl) ?_
 intro A
 refine At.mono (F' := RowE w (fun _ => False) [] w.heap.size 5 1 A 1 1 [.int .u8 34] []) (fun ρ w1 h => ⟨h, by simp⟩) ?_
 refine At.cvbE (mkB k) (by kernel_rfl) ?_
 intro b c
 refine zH [3, 8, 9, 10] 0 ⟨.code (sub B36 [1, 1, 0, 1, 4]), [.block 0, .seq (sub B36 pAD9)], [(3, .sl A 1 1), (8, .sl (some b) (mkB k).size c), (9, .io .i64 (↑(mkB k).size : Int)), (10, .v (.int .i64 0))], []⟩ ?_
 generalize hR : quoteB k = R
 refine At.canon _ rfl ?_
 refine At.loop (σ := QSt) (sub B36 [1, 1, 0, 1, 4, 4]) (frQ b c k) locQ (GQ w b k R) (muQ k) ⟨0, A, 1, 1, [34]⟩ (by kernel_rfl) (by unfold subFr; kernel_rfl) (by kernel_rfl) (fun _ _ _ _ h => ⟨h, Nat.zero_le _, hR, rfl, (by decide : (1 : Nat) ≤ 1 + 4 * 0)⟩) ?_
 clear hR
 rintro ⟨i, A1, n1, c1, acc⟩
 refine At.pure fun ⟨h1, h2, h3, h4⟩ => ?_
 simp only at h1 h2 h3 h4
 refine zTq RowE.stable RowE.fewer [3, 8, 9, 10, 11] 0 ?_
 rcases Bool.eq_false_or_eq_true (decide ((↑i : Int) < (↑(mkB k).size : Int))) with b0 | b0
 ·refine zR 11 b0 ?_
  let kn0 : K := .next (Sx.Next w.heap.size w Tryz.f36.ntmps (frQ b c k) locQ (GQ w b k R) (muQ k) (QSt.mk i A1 n1 c1 acc))
  refine zH [3, 8, 9, 10] 0 ⟨pops B36 [1, 1, 0, 1, 4, 4, 1, 1, 0, 4, 0] 0, [.seq (sub B36 [1, 1, 0, 1, 4, 4, 1, 1, 0, 4, 1]), .block 1, .seq (sub B36 pAD6), kn0, .block 0, .seq (sub B36 pAD9)], [(3, .sl A1 n1 c1), (8, .sl (some b) (mkB k).size c), (9, .io .i64 (↑(mkB k).size : Int)), (10, .io .i64 (↑i : Int))], []⟩ ?_
  have hi : i < k.length := by have := of_decide_eq_true b0; rw [mkB_size] at this; omega
  clear b0
  obtain ⟨y, hz⟩ : ∃ y, k[i]? = some y := ⟨_, List.getElem?_eq_getElem hi⟩
  have hy := y.toNat_lt
  rw [drop_at hz, List.flatMap_cons] at h2
  refine At.idx b (mkB k).size 1 (i : Int) (by kernel_rfl) (by omega) (by rw [mkB_size]; omega) RowE.stable ?_
  refine zH [3, 8, 9, 10, 12] 0 ⟨pops B36 [1, 1, 0, 1, 4, 4, 1, 1, 0, 4, 0] 1, [.seq (sub B36 [1, 1, 0, 1, 4, 4, 1, 1, 0, 4, 1]), .block 1, .seq (sub B36 pAD6), kn0, .block 0, .seq (sub B36 pAD9)], [(3, .sl A1 n1 c1), (8, .sl (some b) (mkB k).size c), (9, .io .i64 (↑(mkB k).size : Int)), (10, .io .i64 (↑i : Int)), (12, .v (.pointer (some (b.add ((↑i : Int).toNat * 1)))))], []⟩ ?_
  refine At.ldx (b.add ((i : Int).toNat * 1)) (.io .u8 (y.toNat : Int)) (by kernel_rfl) RowE.stable (fun ρ w1 hm hf => by rw [Int.toNat_natCast, Nat.mul_one]; exact ent_src (hf.2 _ (List.mem_singleton.2 rfl)) i _ (show (bytesV (mkB k))[i]? = some (.int .u8 (y.toNat : Int)) by simp only [bytesV, mkB, List.getElem?_map, hz]; rfl)) ?_
  refine zTq RowE.stable RowE.fewer [3, 5, 8, 9, 10, 16] 0 ?_
  rcases Bool.eq_false_or_eq_true (decide ((↑y.toNat : Int) ≥ 32)) with b0 | b0
  ·refine zR 16 b0 ?_
   refine zH [3, 5, 8, 9, 10, 20] 0 ⟨pops B36 pAD2 7, [.seq (sub B36 pAD3), .block 1, .seq (sub B36 pAD6), kn0, .block 0, .seq (sub B36 pAD9)], [(3, .sl A1 n1 c1), (5, .io IntKind.u8 (↑y.toNat : Int)), (8, .sl (some b) (mkB k).size c), (9, .io .i64 (↑(mkB k).size : Int)), (10, .io .i64 (↑i : Int)), (20, .bo (decide ((↑y.toNat : Int) ≤ 126)))], []⟩ ?_
   rcases Bool.eq_false_or_eq_true (decide ((↑y.toNat : Int) ≤ 126)) with b1 | b1
   ·refine zR 20 b1 ?_
    refine zTq RowE.stable RowE.fewer [3, 5, 8, 9, 10, 24] 0 ?_
    rcases Bool.eq_false_or_eq_true ((↑y.toNat : Int) != 34) with b2 | b2
    ·refine zR 24 b2 ?_
     refine zH [3, 5, 8, 9, 10, 27] 0 ⟨.code (sub B36 pAD3), [.block 1, .seq (sub B36 pAD6), kn0, .block 0, .seq (sub B36 pAD9)], [(3, .sl A1 n1 c1), (5, .io IntKind.u8 (↑y.toNat : Int)), (8, .sl (some b) (mkB k).size c), (9, .io .i64 (↑(mkB k).size : Int)), (10, .io .i64 (↑i : Int)), (27, .bo ((↑y.toNat : Int) != 92))], []⟩ ?_
     rcases Bool.eq_false_or_eq_true ((↑y.toNat : Int) != 92) with b3 | b3
     ·refine zR 27 b3 ?_
      refine zH [8, 9, 10, 28, 30] 1 ⟨pops B36 [1, 1, 0, 1, 4, 4, 1, 1, 0, 4, 1, 1, 2] 3, [.block 1, .seq (sub B36 pAD6), kn0, .block 0, .seq (sub B36 pAD9)], [(8, .sl (some b) (mkB k).size c), (9, .io .i64 (↑(mkB k).size : Int)), (10, .io .i64 (↑i : Int)), (28, .sl A1 n1 c1), (30, .ls 0 0 1 1)], [([.io IntKind.u8 (↑y.toNat : Int)], 5)]⟩ ?_
      refine At.appE (108) (5) (1) (1) (A1) (n1) (c1) (1) ([.io IntKind.u8 (↑y.toNat : Int)]) _ _ _ _ ([.int IntKind.u8 (↑y.toNat : Int)]) _ (by kernel_rfl) (fun ρ => by kernel_rfl) (by first | omega | (simp only [Go.maxLen]; omega)) (by first | omega | (simp only [Go.maxLen]; omega)) (by first | omega | (simp only [Go.maxLen]; omega)) fun A4 c4 => ?_
      refine zH [3, 8, 9, 10] 0 ⟨.exit .normal, [kn0, .block 0, .seq (sub B36 pAD9)], [(3, .sl A4 (n1 + 1) c4), (8, .sl (some b) (mkB k).size c), (9, .io .i64 (↑(mkB k).size : Int)), (10, .io .i64 (IntKind.i64.wrap ((↑i : Int) + 1)))], []⟩ ?_
      have hpl : plainC y = true := by
       simp only [plainC, Bool.and_eq_true, decide_eq_true_eq]
       have h32 := of_decide_eq_true b0
       have h126 := of_decide_eq_true b1
       simp at b2 b3
       refine ⟨by omega, by omega, by omega, by omega⟩
      have hq1 : q1 y = [y] := by unfold q1; rw [hpl]; rfl
      have hw3 : IntKind.i64.wrap ((i : Int) + 1) = ((i + 1 : Nat) : Int) := by
       rw [wrap63 (by omega) (by omega)]
       omega
      rw [hw3]
      refine At.next (σ := QSt) ⟨i + 1, A4, n1 + 1, c4, acc ++ [y]⟩ rfl rfl (by unfold subFr; kernel_rfl) (by kernel_rfl) ?_ ?_
      ·intro ρ a' w' hi' hf
       exact ⟨by rw [bw_app]; exact hf, by simp only; omega, by rw [← h2, hq1]; simp, by simp only [List.length_append, List.length_singleton]; omega, by simp only; omega⟩
      simp only [muQ]
      omega
     refine zR 27 b3 ?_
     refine zH [3, 5, 8, 9, 10] 0 ⟨.any (opsOf (sub B36 pAD1)) 10 [], [.block 1, .seq (sub B36 pAD6), kn0, .block 0, .seq (sub B36 pAD9)], [(3, .sl A1 n1 c1), (5, .io IntKind.u8 (↑y.toNat : Int)), (8, .sl (some b) (mkB k).size c), (9, .io .i64 (↑(mkB k).size : Int)), (10, .io .i64 (↑i : Int))], []⟩ ?_
     have hpl : plainC y = false := by
      simp only [plainC]
      first | (have := of_decide_eq_false b0; rw [decide_eq_false (p := 32 ≤ y.toNat) (by omega)]; rfl) | (have := of_decide_eq_false b1; rw [decide_eq_false (p := y.toNat ≤ 126) (by omega), Bool.false_and, Bool.and_false]) | (rw [decide_eq_false (p := y.toNat ≠ 34) (by simp at b2 ⊢; omega), Bool.false_and, Bool.and_false, Bool.and_false]) | (rw [decide_eq_false (p := y.toNat ≠ 92) (by simp at b3 ⊢; omega), Bool.and_false, Bool.and_false, Bool.and_false])
     have hq1 : q1 y = [92, 120, hexB (y.toNat / 16), hexB (y.toNat % 16)] := by unfold q1; rw [hpl]; rfl
     refine At.cutN (σ := Option Addr × Nat) (fun x => [(3, .sl x.1 (n1 + 4) x.2), (8, .sl (some b) (mkB k).size c), (9, .io .i64 ((mkB k).size : Int)), (10, .io .i64 (i : Int))]) (fun _ => []) (fun x => RowE w (fun _ => False) [] w.heap.size 5 1 x.1 (n1 + 4) x.2 (bw (acc ++ q1 y)) [(some b, bytesV (mkB k))]) rfl ?_ (fun x => ?_)
     ·refine At.purify0 (fun e a w h => h.1) 20 ?_
      refine At.sixFirst (fun e a w h => h.1) 3 ⟨#[48, 49, 50, 51, 52, 53, 54, 55, 56, 57, 97, 98, 99, 100, 101, 102]⟩ ((y.toNat : Int).fdiv (2 ^ (min (4 : Int).toNat IntKind.u8.bits))) (hexB (y.toNat / 16)) (by kernel_rfl) (by kernel_rfl) (by rw [shr4b]; omega) (by rw [shr4b, Int.toNat_natCast]; exact hex_at (by omega)) ?_
      refine At.sixFirst (fun e a w h => h.1) 6 ⟨#[48, 49, 50, 51, 52, 53, 54, 55, 56, 57, 97, 98, 99, 100, 101, 102]⟩ (IntKind.u8.wrap ((BitVec.ofInt IntKind.u8.bits (y.toNat : Int) &&& BitVec.ofInt IntKind.u8.bits 15).toNat : Int)) (hexB (y.toNat % 16)) (by kernel_rfl) (by kernel_rfl) (by rw [and15b]; omega) (by rw [and15b, Int.toNat_natCast]; exact hex_at (by omega)) ?_
      refine At.purify0 (fun e a w h => h.1) 20 ?_
      refine zH [3, 8, 9, 10, 32, 39] 1 ⟨.ops (opsOf (sub B36 pAD1)) (((opsOf (sub B36 pAD1)).toList.drop 8).take 1), [.any (opsOf (sub B36 pAD1)) 1 [8, 7, 6, 3, 5, 4, 2, 1, 0]], [(3, .sl A1 n1 c1), (8, .sl (some b) (mkB k).size c), (9, .io .i64 (↑(mkB k).size : Int)), (10, .io .i64 (↑i : Int)), (32, .sl A1 n1 c1), (39, .ls 0 0 4 4)], [([.v (.int IntKind.u8 92), .v (.int IntKind.u8 120), .io IntKind.u8 (↑(hexB (y.toNat / 16)).toNat : Int), .io IntKind.u8 (↑(hexB (y.toNat % 16)).toNat : Int)], 5)]⟩ ?_
      refine At.appE (108) (5) (1) (1) (A1) (n1) (c1) (4) ([.v (.int IntKind.u8 92), .v (.int IntKind.u8 120), .io IntKind.u8 (↑(hexB (y.toNat / 16)).toNat : Int), .io IntKind.u8 (↑(hexB (y.toNat % 16)).toNat : Int)]) _ _ _ _ ([.int IntKind.u8 92, .int IntKind.u8 120, .int IntKind.u8 (↑(hexB (y.toNat / 16)).toNat : Int), .int IntKind.u8 (↑(hexB (y.toNat % 16)).toNat : Int)]) _ (by kernel_rfl) (fun ρ => by kernel_rfl) (by first | omega | (simp only [Go.maxLen]; omega)) (by first | omega | (simp only [Go.maxLen]; omega)) (by first | omega | (simp only [Go.maxLen]; omega)) fun A0 c0 => ?_
      refine zH [3, 8, 9, 10] 0 ⟨.exit .normal, [], [(3, .sl A0 (n1 + 4) c0), (8, .sl (some b) (mkB k).size c), (9, .io .i64 (↑(mkB k).size : Int)), (10, .io .i64 (↑i : Int))], []⟩ ?_
      exact At.fin (A0, c0) rfl rfl (by unfold subFr; kernel_rfl) rfl (fun _ _ _ _ h => by rw [hq1, bw_app]; exact h)
     refine zH [3, 8, 9, 10] 0 ⟨.exit .normal, [kn0, .block 0, .seq (sub B36 pAD9)], [(3, .sl x.fst (n1 + 4) x.snd), (8, .sl (some b) (mkB k).size c), (9, .io .i64 (↑(mkB k).size : Int)), (10, .io .i64 (IntKind.i64.wrap ((↑i : Int) + 1)))], []⟩ ?_
     have hw3 : IntKind.i64.wrap ((i : Int) + 1) = ((i + 1 : Nat) : Int) := by
      rw [wrap63 (by omega) (by omega)]
      omega
     rw [hw3]
     refine At.next (σ := QSt) ⟨i + 1, x.1, n1 + 4, x.2, acc ++ q1 y⟩ rfl rfl (by unfold subFr; kernel_rfl) (by kernel_rfl) ?_ ?_
     ·intro ρ a' w' hi' hf
      exact ⟨hf, by simp only; omega, by rw [← h2]; simp, by rw [hq1]; simp only [List.length_append, List.length_cons, List.length_nil]; omega, by simp only; omega⟩
     simp only [muQ]
     omega
    refine zR 24 b2 ?_
    refine zH [3, 5, 8, 9, 10] 0 ⟨.any (opsOf (sub B36 pAD1)) 10 [], [.block 1, .seq (sub B36 pAD6), kn0, .block 0, .seq (sub B36 pAD9)], [(3, .sl A1 n1 c1), (5, .io IntKind.u8 (↑y.toNat : Int)), (8, .sl (some b) (mkB k).size c), (9, .io .i64 (↑(mkB k).size : Int)), (10, .io .i64 (↑i : Int))], []⟩ ?_
    have hpl : plainC y = false := by
     simp only [plainC]
     first | (have := of_decide_eq_false b0; rw [decide_eq_false (p := 32 ≤ y.toNat) (by omega)]; rfl) | (have := of_decide_eq_false b1; rw [decide_eq_false (p := y.toNat ≤ 126) (by omega), Bool.false_and, Bool.and_false]) | (rw [decide_eq_false (p := y.toNat ≠ 34) (by simp at b2 ⊢; omega), Bool.false_and, Bool.and_false, Bool.and_false]) | (rw [decide_eq_false (p := y.toNat ≠ 92) (by simp at b3 ⊢; omega), Bool.and_false, Bool.and_false, Bool.and_false])
    have hq1 : q1 y = [92, 120, hexB (y.toNat / 16), hexB (y.toNat % 16)] := by unfold q1; rw [hpl]; rfl
    refine At.cutN (σ := Option Addr × Nat) (fun x => [(3, .sl x.1 (n1 + 4) x.2), (8, .sl (some b) (mkB k).size c), (9, .io .i64 ((mkB k).size : Int)), (10, .io .i64 (i : Int))]) (fun _ => []) (fun x => RowE w (fun _ => False) [] w.heap.size 5 1 x.1 (n1 + 4) x.2 (bw (acc ++ q1 y)) [(some b, bytesV (mkB k))]) rfl ?_ (fun x => ?_)
    ·refine At.purify0 (fun e a w h => h.1) 20 ?_
     refine At.sixFirst (fun e a w h => h.1) 3 ⟨#[48, 49, 50, 51, 52, 53, 54, 55, 56, 57, 97, 98, 99, 100, 101, 102]⟩ ((y.toNat : Int).fdiv (2 ^ (min (4 : Int).toNat IntKind.u8.bits))) (hexB (y.toNat / 16)) (by kernel_rfl) (by kernel_rfl) (by rw [shr4b]; omega) (by rw [shr4b, Int.toNat_natCast]; exact hex_at (by omega)) ?_
     refine At.sixFirst (fun e a w h => h.1) 6 ⟨#[48, 49, 50, 51, 52, 53, 54, 55, 56, 57, 97, 98, 99, 100, 101, 102]⟩ (IntKind.u8.wrap ((BitVec.ofInt IntKind.u8.bits (y.toNat : Int) &&& BitVec.ofInt IntKind.u8.bits 15).toNat : Int)) (hexB (y.toNat % 16)) (by kernel_rfl) (by kernel_rfl) (by rw [and15b]; omega) (by rw [and15b, Int.toNat_natCast]; exact hex_at (by omega)) ?_
     refine At.purify0 (fun e a w h => h.1) 20 ?_
     refine zH [3, 8, 9, 10, 32, 39] 1 ⟨.ops (opsOf (sub B36 pAD1)) (((opsOf (sub B36 pAD1)).toList.drop 8).take 1), [.any (opsOf (sub B36 pAD1)) 1 [8, 7, 6, 3, 5, 4, 2, 1, 0]], [(3, .sl A1 n1 c1), (8, .sl (some b) (mkB k).size c), (9, .io .i64 (↑(mkB k).size : Int)), (10, .io .i64 (↑i : Int)), (32, .sl A1 n1 c1), (39, .ls 0 0 4 4)], [([.v (.int IntKind.u8 92), .v (.int IntKind.u8 120), .io IntKind.u8 (↑(hexB (y.toNat / 16)).toNat : Int), .io IntKind.u8 (↑(hexB (y.toNat % 16)).toNat : Int)], 5)]⟩ ?_
     refine At.appE (108) (5) (1) (1) (A1) (n1) (c1) (4) ([.v (.int IntKind.u8 92), .v (.int IntKind.u8 120), .io IntKind.u8 (↑(hexB (y.toNat / 16)).toNat : Int), .io IntKind.u8 (↑(hexB (y.toNat % 16)).toNat : Int)]) _ _ _ _ ([.int IntKind.u8 92, .int IntKind.u8 120, .int IntKind.u8 (↑(hexB (y.toNat / 16)).toNat : Int), .int IntKind.u8 (↑(hexB (y.toNat % 16)).toNat : Int)]) _ (by kernel_rfl) (fun ρ => by kernel_rfl) (by first | omega | (simp only [Go.maxLen]; omega)) (by first | omega | (simp only [Go.maxLen]; omega)) (by first | omega | (simp only [Go.maxLen]; omega)) fun A0 c0 => ?_
     refine zH [3, 8, 9, 10] 0 ⟨.exit .normal, [], [(3, .sl A0 (n1 + 4) c0), (8, .sl (some b) (mkB k).size c), (9, .io .i64 (↑(mkB k).size : Int)), (10, .io .i64 (↑i : Int))], []⟩ ?_
     exact At.fin (A0, c0) rfl rfl (by unfold subFr; kernel_rfl) rfl (fun _ _ _ _ h => by rw [hq1, bw_app]; exact h)
    refine zH [3, 8, 9, 10] 0 ⟨.exit .normal, [kn0, .block 0, .seq (sub B36 pAD9)], [(3, .sl x.fst (n1 + 4) x.snd), (8, .sl (some b) (mkB k).size c), (9, .io .i64 (↑(mkB k).size : Int)), (10, .io .i64 (IntKind.i64.wrap ((↑i : Int) + 1)))], []⟩ ?_
    have hw3 : IntKind.i64.wrap ((i : Int) + 1) = ((i + 1 : Nat) : Int) := by
     rw [wrap63 (by omega) (by omega)]
     omega
    rw [hw3]
    refine At.next (σ := QSt) ⟨i + 1, x.1, n1 + 4, x.2, acc ++ q1 y⟩ rfl rfl (by unfold subFr; kernel_rfl) (by kernel_rfl) ?_ ?_
    ·intro ρ a' w' hi' hf
     exact ⟨hf, by simp only; omega, by rw [← h2]; simp, by rw [hq1]; simp only [List.length_append, List.length_cons, List.length_nil]; omega, by simp only; omega⟩
    simp only [muQ]
    omega
   refine zR 20 b1 ?_
   refine zH [3, 5, 8, 9, 10] 0 ⟨.any (opsOf (sub B36 pAD1)) 10 [], [.block 1, .seq (sub B36 pAD6), kn0, .block 0, .seq (sub B36 pAD9)], [(3, .sl A1 n1 c1), (5, .io IntKind.u8 (↑y.toNat : Int)), (8, .sl (some b) (mkB k).size c), (9, .io .i64 (↑(mkB k).size : Int)), (10, .io .i64 (↑i : Int))], []⟩ ?_
   have hpl : plainC y = false := by
    simp only [plainC]
    first | (have := of_decide_eq_false b0; rw [decide_eq_false (p := 32 ≤ y.toNat) (by omega)]; rfl) | (have := of_decide_eq_false b1; rw [decide_eq_false (p := y.toNat ≤ 126) (by omega), Bool.false_and, Bool.and_false]) | (rw [decide_eq_false (p := y.toNat ≠ 34) (by simp at b2 ⊢; omega), Bool.false_and, Bool.and_false, Bool.and_false]) | (rw [decide_eq_false (p := y.toNat ≠ 92) (by simp at b3 ⊢; omega), Bool.and_false, Bool.and_false, Bool.and_false])
   have hq1 : q1 y = [92, 120, hexB (y.toNat / 16), hexB (y.toNat % 16)] := by unfold q1; rw [hpl]; rfl
   refine At.cutN (σ := Option Addr × Nat) (fun x => [(3, .sl x.1 (n1 + 4) x.2), (8, .sl (some b) (mkB k).size c), (9, .io .i64 ((mkB k).size : Int)), (10, .io .i64 (i : Int))]) (fun _ => []) (fun x => RowE w (fun _ => False) [] w.heap.size 5 1 x.1 (n1 + 4) x.2 (bw (acc ++ q1 y)) [(some b, bytesV (mkB k))]) rfl ?_ (fun x => ?_)
   ·refine At.purify0 (fun e a w h => h.1) 20 ?_
    refine At.sixFirst (fun e a w h => h.1) 3 ⟨#[48, 49, 50, 51, 52, 53, 54, 55, 56, 57, 97, 98, 99, 100, 101, 102]⟩ ((y.toNat : Int).fdiv (2 ^ (min (4 : Int).toNat IntKind.u8.bits))) (hexB (y.toNat / 16)) (by kernel_rfl) (by kernel_rfl) (by rw [shr4b]; omega) (by rw [shr4b, Int.toNat_natCast]; exact hex_at (by omega)) ?_
    refine At.sixFirst (fun e a w h => h.1) 6 ⟨#[48, 49, 50, 51, 52, 53, 54, 55, 56, 57, 97, 98, 99, 100, 101, 102]⟩ (IntKind.u8.wrap ((BitVec.ofInt IntKind.u8.bits (y.toNat : Int) &&& BitVec.ofInt IntKind.u8.bits 15).toNat : Int)) (hexB (y.toNat % 16)) (by kernel_rfl) (by kernel_rfl) (by rw [and15b]; omega) (by rw [and15b, Int.toNat_natCast]; exact hex_at (by omega)) ?_
    refine At.purify0 (fun e a w h => h.1) 20 ?_
    refine zH [3, 8, 9, 10, 32, 39] 1 ⟨.ops (opsOf (sub B36 pAD1)) (((opsOf (sub B36 pAD1)).toList.drop 8).take 1), [.any (opsOf (sub B36 pAD1)) 1 [8, 7, 6, 3, 5, 4, 2, 1, 0]], [(3, .sl A1 n1 c1), (8, .sl (some b) (mkB k).size c), (9, .io .i64 (↑(mkB k).size : Int)), (10, .io .i64 (↑i : Int)), (32, .sl A1 n1 c1), (39, .ls 0 0 4 4)], [([.v (.int IntKind.u8 92), .v (.int IntKind.u8 120), .io IntKind.u8 (↑(hexB (y.toNat / 16)).toNat : Int), .io IntKind.u8 (↑(hexB (y.toNat % 16)).toNat : Int)], 5)]⟩ ?_
    refine At.appE (108) (5) (1) (1) (A1) (n1) (c1) (4) ([.v (.int IntKind.u8 92), .v (.int IntKind.u8 120), .io IntKind.u8 (↑(hexB (y.toNat / 16)).toNat : Int), .io IntKind.u8 (↑(hexB (y.toNat % 16)).toNat : Int)]) _ _ _ _ ([.int IntKind.u8 92, .int IntKind.u8 120, .int IntKind.u8 (↑(hexB (y.toNat / 16)).toNat : Int), .int IntKind.u8 (↑(hexB (y.toNat % 16)).toNat : Int)]) _ (by kernel_rfl) (fun ρ => by kernel_rfl) (by first | omega | (simp only [Go.maxLen]; omega)) (by first | omega | (simp only [Go.maxLen]; omega)) (by first | omega | (simp only [Go.maxLen]; omega)) fun A0 c0 => ?_
    refine zH [3, 8, 9, 10] 0 ⟨.exit .normal, [], [(3, .sl A0 (n1 + 4) c0), (8, .sl (some b) (mkB k).size c), (9, .io .i64 (↑(mkB k).size : Int)), (10, .io .i64 (↑i : Int))], []⟩ ?_
    exact At.fin (A0, c0) rfl rfl (by unfold subFr; kernel_rfl) rfl (fun _ _ _ _ h => by rw [hq1, bw_app]; exact h)
   refine zH [3, 8, 9, 10] 0 ⟨.exit .normal, [kn0, .block 0, .seq (sub B36 pAD9)], [(3, .sl x.fst (n1 + 4) x.snd), (8, .sl (some b) (mkB k).size c), (9, .io .i64 (↑(mkB k).size : Int)), (10, .io .i64 (IntKind.i64.wrap ((↑i : Int) + 1)))], []⟩ ?_
   have hw3 : IntKind.i64.wrap ((i : Int) + 1) = ((i + 1 : Nat) : Int) := by
    rw [wrap63 (by omega) (by omega)]
    omega
   rw [hw3]
   refine At.next (σ := QSt) ⟨i + 1, x.1, n1 + 4, x.2, acc ++ q1 y⟩ rfl rfl (by unfold subFr; kernel_rfl) (by kernel_rfl) ?_ ?_
   ·intro ρ a' w' hi' hf
    exact ⟨hf, by simp only; omega, by rw [← h2]; simp, by rw [hq1]; simp only [List.length_append, List.length_cons, List.length_nil]; omega, by simp only; omega⟩
   simp only [muQ]
   omega
  refine zR 16 b0 ?_
  refine zH [3, 5, 8, 9, 10] 0 ⟨.any (opsOf (sub B36 pAD1)) 10 [], [.block 1, .seq (sub B36 pAD6), kn0, .block 0, .seq (sub B36 pAD9)], [(3, .sl A1 n1 c1), (5, .io IntKind.u8 (↑y.toNat : Int)), (8, .sl (some b) (mkB k).size c), (9, .io .i64 (↑(mkB k).size : Int)), (10, .io .i64 (↑i : Int))], []⟩ ?_
  have hpl : plainC y = false := by
   simp only [plainC]
   first | (have := of_decide_eq_false b0; rw [decide_eq_false (p := 32 ≤ y.toNat) (by omega)]; rfl) | (have := of_decide_eq_false b1; rw [decide_eq_false (p := y.toNat ≤ 126) (by omega), Bool.false_and, Bool.and_false]) | (rw [decide_eq_false (p := y.toNat ≠ 34) (by simp at b2 ⊢; omega), Bool.false_and, Bool.and_false, Bool.and_false]) | (rw [decide_eq_false (p := y.toNat ≠ 92) (by simp at b3 ⊢; omega), Bool.and_false, Bool.and_false, Bool.and_false])
  have hq1 : q1 y = [92, 120, hexB (y.toNat / 16), hexB (y.toNat % 16)] := by unfold q1; rw [hpl]; rfl
  refine At.cutN (σ := Option Addr × Nat) (fun x => [(3, .sl x.1 (n1 + 4) x.2), (8, .sl (some b) (mkB k).size c), (9, .io .i64 ((mkB k).size : Int)), (10, .io .i64 (i : Int))]) (fun _ => []) (fun x => RowE w (fun _ => False) [] w.heap.size 5 1 x.1 (n1 + 4) x.2 (bw (acc ++ q1 y)) [(some b, bytesV (mkB k))]) rfl ?_ (fun x => ?_)
  ·refine At.purify0 (fun e a w h => h.1) 20 ?_
   refine At.sixFirst (fun e a w h => h.1) 3 ⟨#[48, 49, 50, 51, 52, 53, 54, 55, 56, 57, 97, 98, 99, 100, 101, 102]⟩ ((y.toNat : Int).fdiv (2 ^ (min (4 : Int).toNat IntKind.u8.bits))) (hexB (y.toNat / 16)) (by kernel_rfl) (by kernel_rfl) (by rw [shr4b]; omega) (by rw [shr4b, Int.toNat_natCast]; exact hex_at (by omega)) ?_
   refine At.sixFirst (fun e a w h => h.1) 6 ⟨#[48, 49, 50, 51, 52, 53, 54, 55, 56, 57, 97, 98, 99, 100, 101, 102]⟩ (IntKind.u8.wrap ((BitVec.ofInt IntKind.u8.bits (y.toNat : Int) &&& BitVec.ofInt IntKind.u8.bits 15).toNat : Int)) (hexB (y.toNat % 16)) (by kernel_rfl) (by kernel_rfl) (by rw [and15b]; omega) (by rw [and15b, Int.toNat_natCast]; exact hex_at (by omega)) ?_
   refine At.purify0 (fun e a w h => h.1) 20 ?_
   refine zH [3, 8, 9, 10, 32, 39] 1 ⟨.ops (opsOf (sub B36 pAD1)) (((opsOf (sub B36 pAD1)).toList.drop 8).take 1), [.any (opsOf (sub B36 pAD1)) 1 [8, 7, 6, 3, 5, 4, 2, 1, 0]], [(3, .sl A1 n1 c1), (8, .sl (some b) (mkB k).size c), (9, .io .i64 (↑(mkB k).size : Int)), (10, .io .i64 (↑i : Int)), (32, .sl A1 n1 c1), (39, .ls 0 0 4 4)], [([.v (.int IntKind.u8 92), .v (.int IntKind.u8 120), .io IntKind.u8 (↑(hexB (y.toNat / 16)).toNat : Int), .io IntKind.u8 (↑(hexB (y.toNat % 16)).toNat : Int)], 5)]⟩ ?_
   refine At.appE (108) (5) (1) (1) (A1) (n1) (c1) (4) ([.v (.int IntKind.u8 92), .v (.int IntKind.u8 120), .io IntKind.u8 (↑(hexB (y.toNat / 16)).toNat : Int), .io IntKind.u8 (↑(hexB (y.toNat % 16)).toNat : Int)]) _ _ _ _ ([.int IntKind.u8 92, .int IntKind.u8 120, .int IntKind.u8 (↑(hexB (y.toNat / 16)).toNat : Int), .int IntKind.u8 (↑(hexB (y.toNat % 16)).toNat : Int)]) _ (by kernel_rfl) (fun ρ => by kernel_rfl) (by first | omega | (simp only [Go.maxLen]; omega)) (by first | omega | (simp only [Go.maxLen]; omega)) (by first | omega | (simp only [Go.maxLen]; omega)) fun A0 c0 => ?_
   refine zH [3, 8, 9, 10] 0 ⟨.exit .normal, [], [(3, .sl A0 (n1 + 4) c0), (8, .sl (some b) (mkB k).size c), (9, .io .i64 (↑(mkB k).size : Int)), (10, .io .i64 (↑i : Int))], []⟩ ?_
   exact At.fin (A0, c0) rfl rfl (by unfold subFr; kernel_rfl) rfl (fun _ _ _ _ h => by rw [hq1, bw_app]; exact h)
  refine zH [3, 8, 9, 10] 0 ⟨.exit .normal, [kn0, .block 0, .seq (sub B36 pAD9)], [(3, .sl x.fst (n1 + 4) x.snd), (8, .sl (some b) (mkB k).size c), (9, .io .i64 (↑(mkB k).size : Int)), (10, .io .i64 (IntKind.i64.wrap ((↑i : Int) + 1)))], []⟩ ?_
  have hw3 : IntKind.i64.wrap ((i : Int) + 1) = ((i + 1 : Nat) : Int) := by
   rw [wrap63 (by omega) (by omega)]
   omega
  rw [hw3]
  refine At.next (σ := QSt) ⟨i + 1, x.1, n1 + 4, x.2, acc ++ q1 y⟩ rfl rfl (by unfold subFr; kernel_rfl) (by kernel_rfl) ?_ ?_
  ·intro ρ a' w' hi' hf
   exact ⟨hf, by simp only; omega, by rw [← h2]; simp, by rw [hq1]; simp only [List.length_append, List.length_cons, List.length_nil]; omega, by simp only; omega⟩
  simp only [muQ]
  omega
 refine zR 11 b0 ?_
 refine zH [42, 43] 1 ⟨pops B36 [1, 1, 1, 0] 2, [.seq (sub B36 pAD8)], [(42, .sl A1 n1 c1), (43, .ls 0 0 1 1)], [([.v (.int IntKind.u8 34)], 5)]⟩ ?_
 refine At.appE (108) (5) (1) (1) (A1) (n1) (c1) (1) ([.v (.int IntKind.u8 34)]) _ _ _ _ ([.int IntKind.u8 34]) _ (by kernel_rfl) (fun ρ => by kernel_rfl) (by first | omega | (simp only [Go.maxLen]; omega)) (by first | omega | (simp only [Go.maxLen]; omega)) (by first | omega | (simp only [Go.maxLen]; omega)) fun A1 c1 => ?_
 refine zH [44] 0 ⟨pops B36 [1, 1, 1, 0] 3, [.seq (sub B36 pAD8)], [(44, .sl A1 (n1 + 1) c1)], []⟩ ?_
 have hi : ¬ (i : Int) < ((mkB k).size : Int) := of_decide_eq_false b0
 rw [mkB_size] at hi
 have hd : k.drop i = [] := List.drop_eq_nil_of_le (by omega)
 rw [hd, List.flatMap_nil, List.nil_append] at h2
 refine At.mono (F' := RowE w (fun _ => False) [] w.heap.size 5 1 A1 (n1 + 1) c1 (bw (acc ++ [34])) [(some b, bytesV (mkB k))]) (fun ρ w1 h => by rw [bw_app]; exact h) ?_
 refine At.cvy A1 (n1 + 1) c1 ((acc ++ [34]).map UInt8.toNat) (.so (mkB (acc ++ [34]))) (by kernel_rfl) RowE.stable (fun ρ => by rw [strOf_map]; rfl) (fun ρ w1 hm hf => row_cw hf.1.1.1) ?_
 refine zH [2] 0 ⟨.exit .ret, [], [(2, .so (mkB (acc ++ [34])))], []⟩ ?_
 refine zE (.so (mkB (acc ++ [34]))) ?_
 intro ρ w9 hm hf
 exact ⟨by rw [← h2]; rfl, hm.below⟩
end Go.Proofs.YtkjnbafdmjakgaaGreatDoor
end
section
namespace Go.Proofs.YtkjnbafdmjakgaaGreatDoor
open Go.RowKit Go.Sx
def mayP (key : ByteArray) (kd : Int) : Bool := decide ((key.size : Int) ≤ 256) && (decide (kd ≥ 1) && decide (kd ≤ 3))
theorem mkB_app (x y : List UInt8) : mkB x ++ mkB y = mkB (x ++ y) := by
 apply ByteArray.ext
 rw [ByteArray.data_append]
 simp [mkB]
section
variable {Q : Exit → Act → World → Prop} {N : Nat} {w0 : World} {ntm : Nat} {F : List Nat → World → Prop}
theorem catW {s : S} (x y : List UInt8) (nx ny : Nat) (hq : catI Tryz.prog ntm s = some (mkB x, mkB y)) (hx : x.length ≤ nx) (hy : y.length ≤ ny) (hs : nx + ny ≤ 1000000) (hF : Stable F) (h : ∀ t, t = x ++ y → t.length ≤ nx + ny → At Tryz.prog Q N w0 ntm F (s.tail ntm (.so (mkB t)))) : At Tryz.prog Q N w0 ntm F s := by
 refine At.cat _ _ hq (by rw [mkB_size, mkB_size]; omega) hF ?_
 rw [mkB_app]
 exact h _ rfl (by rw [List.length_append]; omega)
end
theorem grown_under (w : World) (q : Nat) (os : Array Obj) : Below w.heap.size w (Sort.grow (w.drewN q) os) :=
 ⟨rfl, rfl, rfl, by simp [Sort.grow], fun i hi => by
  show ((w.drewN q).heap ++ os)[i]? = _
  rw [Array.getElem?_append_left (by show i < w.heap.size; omega)]
  rfl⟩
theorem fmt_any (n : Int) (h : in64 n) (w : World) (htab : Lib.TabIs Tryz.prog w "internal/strconv.uint64pow10" .u64 Lib.pow10Tab) : Calls Tryz.prog 39 #[.int .i64 n, .int .i64 10] w fun e w' => e = .returned (.string (mkB (Lib.itoa n))) ∧ Below w.heap.size w w' :=
 (Tryz.strconv_FormatInt_10 n h.1 h.2 w htab).mono fun e w' h => by
  obtain ⟨rfl, k, os, rfl⟩ := h
  exact ⟨rfl, grown_under w k os⟩
theorem tab_below {B : Nat} {w w' : World} {n : String} {k : IntKind} {zs : List Int} (h : Lib.TabIs Tryz.prog w n k zs) (hb : Below B w w') (hB : B = w.heap.size) : Lib.TabIs Tryz.prog w' n k zs := by
 subst hB
 unfold Lib.TabIs World.var? at h ⊢
 cases hg : Tryz.prog.globalNamed n with
 | none => rw [hg] at h; cases h
 | some g =>
  rw [hg] at h
  simp only [Option.bind_some] at h ⊢
  have hlt : g < w.heap.size := by
   rcases Nat.lt_or_ge g w.heap.size with h' | h'
   ·exact h'
   rw [Array.getElem?_eq_none h'] at h; cases h
  rw [hb.block g hlt]
  exact h
theorem itoa_short {n : Int} (h : in64 n) : (Lib.itoa n).length ≤ 21 := Lib.itoa_length_le n h.1 h.2
theorem quote_short {k : List UInt8} (h : k.length ≤ 256) : (quoteB k).length ≤ 1026 := by
 have go : ∀ l : List UInt8, (l.flatMap q1).length ≤ 4 * l.length := by
  intro l
  induction l with
  | nil => simp
  | cons c l ih =>
   have : (q1 c).length ≤ 4 := by unfold q1; split <;> simp
   rw [List.flatMap_cons, List.length_append, List.length_cons]
   omega
 have := go k
 simp only [quoteB, List.length_cons, List.length_append, List.length_nil]
 omega
def kindN (kd : Int) : List UInt8 := if kd = 1 then [101, 97, 114, 108, 121] else if kd = 2 then [111, 110, 116, 105, 109, 101] else [108, 97, 116, 101]
def lineB (k : List UInt8) (st en kd nt ct sm mn mx : Int) : List UInt8 := quoteB k ++ 32 :: (kindN kd ++ [st, en, nt, ct, sm, mn, mx].flatMap fun n => 32 :: Lib.itoa n)
def paneL (key : ByteArray) (st en kd nt ct sm mn mx : Int) : List SV := [.so key, .io .i64 st, .io .i64 en, .io .i64 kd, .io .i64 nt, .io .i64 ct, .io .i64 sm, .io .i64 mn, .io .i64 mx]
noncomputable def B37 : Code := (Tryz.f37.body).getD .skip
set_option maxHeartbeats 4000000 in
set_option maxRecDepth 100000 in
theorem names_any (w : World) : Calls Tryz.prog 37 #[] w fun e w' => e = .returned (.agg #[.string ⟨#[]⟩, .string ⟨#[101, 97, 114, 108, 121]⟩, .string ⟨#[111, 110, 116, 105, 109, 101]⟩, .string ⟨#[108, 97, 116, 101]⟩]) ∧ Below w.heap.size w w' := by
 refine enter (fn := Tryz.f37) (c := B37) [] Tryz.func37 rfl rfl ?_
 refine zM [0] 1 ⟨.exit .ret, [], [(0, .lp 0 0)], [(zAD0, 75)]⟩ ?_
 refine zE (.agg zAD0) ?_
 intro ρ w9 hm hf
 exact ⟨rfl, hm.below⟩
noncomputable def B38 : Code := (Tryz.f38.body).getD .skip
set_option maxHeartbeats 4000000 in
set_option maxRecDepth 100000 in
theorem numbers_any (key : ByteArray) (st en kd nt ct sm mn mx : Int) (w : World) : Calls Tryz.prog 38 #[.agg #[.string key, .int .i64 st, .int .i64 en, .int .i64 kd, .int .i64 nt, .int .i64 ct, .int .i64 sm, .int .i64 mn, .int .i64 mx]] w fun e w' => e = .returned (.agg #[.int .i64 st, .int .i64 en, .int .i64 nt, .int .i64 ct, .int .i64 sm, .int .i64 mn, .int .i64 mx]) ∧ Below w.heap.size w w' := by
 refine enter (fn := Tryz.f38) (c := B38) [.agg (paneL key st en kd nt ct sm mn mx)] Tryz.func38 rfl rfl ?_
 refine zM [2] 2 ⟨.exit .ret, [], [(2, .lp 1 0)], [([.so key, .io .i64 st, .io .i64 en, .io .i64 kd, .io .i64 nt, .io .i64 ct, .io .i64 sm, .io .i64 mn, .io .i64 mx], 40), ([.io .i64 st, .io .i64 en, .io .i64 nt, .io .i64 ct, .io .i64 sm, .io .i64 mn, .io .i64 mx], 77)]⟩ ?_
 refine zE (.agg [.io .i64 st, .io .i64 en, .io .i64 nt, .io .i64 ct, .io .i64 sm, .io .i64 mn, .io .i64 mx]) ?_
 intro ρ w9 hm hf
 exact ⟨rfl, hm.below⟩
noncomputable def B35 : Code := (Tryz.f35.body).getD .skip
set_option maxHeartbeats 4000000 in
set_option maxRecDepth 100000 in
theorem may_any (key : ByteArray) (st en kd nt ct sm mn mx : Int) (w : World) : Calls Tryz.prog 35 #[.agg #[.string key, .int .i64 st, .int .i64 en, .int .i64 kd, .int .i64 nt, .int .i64 ct, .int .i64 sm, .int .i64 mn, .int .i64 mx]] w fun e w' => e = .returned (.bool (mayP key kd)) ∧ Below w.heap.size w w' := by
 refine enter (fn := Tryz.f35) (c := B35) [.agg (paneL key st en kd nt ct sm mn mx)] Tryz.func35 rfl rfl ?_
 refine zM [1, 7] 1 ⟨pops B35 [1, 0] 5, [.seq (sub B35 [1, 1])], [(1, .lp 0 0), (7, .bo (decide ((↑key.size : Int) ≤ 256)))], [([.so key, .io .i64 st, .io .i64 en, .io .i64 kd, .io .i64 nt, .io .i64 ct, .io .i64 sm, .io .i64 mn, .io .i64 mx], 40)]⟩ ?_
 rcases Bool.eq_false_or_eq_true (decide ((↑key.size : Int) ≤ 256)) with b0 | b0
 ·refine zR 7 b0 ?_
  refine zM [1, 12] 1 ⟨pops B35 [1, 0] 10, [.seq (sub B35 [1, 1])], [(1, .lp 0 0), (12, .bo (decide (kd ≥ 1)))], [([.so key, .io .i64 st, .io .i64 en, .io .i64 kd, .io .i64 nt, .io .i64 ct, .io .i64 sm, .io .i64 mn, .io .i64 mx], 40)]⟩ ?_
  rcases Bool.eq_false_or_eq_true (decide (kd ≥ 1)) with b1 | b1
  ·refine zR 12 b1 ?_
   refine zM [2] 0 ⟨.exit .ret, [], [(2, .bo (decide (kd ≤ 3)))], []⟩ ?_
   refine zE (.bo (decide (kd ≤ 3))) ?_
   intro ρ w9 hm hf
   refine ⟨?_, hm.below⟩
   simp only [mayP, *, Bool.true_and, Bool.false_and]
   rfl
  refine zR 12 b1 ?_
  refine zM [2] 0 ⟨.exit .ret, [], [(2, .v (.bool false))], []⟩ ?_
  refine zE (.v (.bool false)) ?_
  intro ρ w9 hm hf
  refine ⟨?_, hm.below⟩
  simp only [mayP, *, Bool.true_and, Bool.false_and]
  rfl
 refine zR 7 b0 ?_
 refine zM [2] 0 ⟨.exit .ret, [], [(2, .v (.bool false))], []⟩ ?_
 refine zE (.v (.bool false)) ?_
 intro ρ w9 hm hf
 refine ⟨?_, hm.below⟩
 simp only [mayP, *, Bool.true_and, Bool.false_and]
 rfl
noncomputable def B19 : Code := (Tryz.f19.body).getD .skip
set_option maxHeartbeats 20000000 in
set_option maxRecDepth 100000 in
theorem line_ok (k : List UInt8) (st en kd nt ct sm mn mx : Int) (hk : k.length ≤ 256) (hkd : kd = 1 ∨ kd = 2 ∨ kd = 3) (i1 : in64 st) (i2 : in64 en) (i3 : in64 nt) (i4 : in64 ct) (i5 : in64 sm) (i6 : in64 mn) (i7 : in64 mx) (w : World) (htab : Lib.TabIs Tryz.prog w "internal/strconv.uint64pow10" .u64 Lib.pow10Tab) :
  Calls Tryz.prog 19 #[.agg #[.string (mkB k), .int .i64 st, .int .i64 en, .int .i64 kd, .int .i64 nt, .int .i64 ct, .int .i64 sm, .int .i64 mn, .int .i64 mx]] w fun e w' => e = .returned (.tuple #[.string (mkB (lineB k st en kd nt ct sm mn mx)), .int .i64 0]) ∧ Below w.heap.size w w' := by
 rcases hkd with rfl | rfl | rfl
 all_goals have hl0 := itoa_short i1
 all_goals have hl1 := itoa_short i2
 all_goals have hl2 := itoa_short i3
 all_goals have hl3 := itoa_short i4
 all_goals have hl4 := itoa_short i5
 all_goals have hl5 := itoa_short i6
 all_goals have hl6 := itoa_short i7
 all_goals have hlq := quote_short hk
 ·refine enter (fn := Tryz.f19) (c := B19) [.agg [.so (mkB k), .io .i64 st, .io .i64 en, .v (.int .i64 1), .io .i64 nt, .io .i64 ct, .io .i64 sm, .io .i64 mn, .io .i64 mx]] Tryz.func19 rfl rfl ?_
  refine zM [1, 7] 1 ⟨pops B19 [1, 0, 0] 1, [.seq (sub B19 [1, 0, 1]), .seq (sub B19 [1, 1])], [(1, .lp 0 0), (7, .agg [.so (mkB k), .io .i64 st, .io .i64 en, .v (.int .i64 1), .io .i64 nt, .io .i64 ct, .io .i64 sm, .io .i64 mn, .io .i64 mx])], [([.so (mkB k), .io .i64 st, .io .i64 en, .v (.int .i64 1), .io .i64 nt, .io .i64 ct, .io .i64 sm, .io .i64 mn, .io .i64 mx], 40)]⟩ ?_
  refine zC noF_stable 35 [.agg [.so (mkB k), .io .i64 st, .io .i64 en, .v (.int .i64 1), .io .i64 nt, .io .i64 ct, .io .i64 sm, .io .i64 mn, .io .i64 mx]] (.v (.bool true)) (fun _ _ w1 hi _ => (may_any (mkB k) st en _ nt ct sm mn mx w1).mono fun e w2 h => ⟨h.1.trans (by rw [show mayP (mkB k) _ = true from by simp only [mayP, mkB_size, Bool.and_eq_true, decide_eq_true_eq]; omega]; rfl), h.2⟩) ?_
  refine zM [1, 11] 1 ⟨pqops B19 [1, 1, 0] 2, [.seq (sub B19 pAD9)], [(1, .lp 0 0), (11, .so (mkB k))], [([.so (mkB k), .io .i64 st, .io .i64 en, .v (.int .i64 1), .io .i64 nt, .io .i64 ct, .io .i64 sm, .io .i64 mn, .io .i64 mx], 40)]⟩ ?_
  refine zC noF_stable 36 [.so (mkB k)] (.so (mkB (quoteB k))) (fun _ _ w1 hi _ => quote_any k (by omega) w1) ?_
  refine zM [1, 12] 1 ⟨pqops B19 [1, 1, 0] 3, [.seq (sub B19 pAD9)], [(1, .lp 0 0), (12, .so (mkB (quoteB k)))], [([.so (mkB k), .io .i64 st, .io .i64 en, .v (.int .i64 1), .io .i64 nt, .io .i64 ct, .io .i64 sm, .io .i64 mn, .io .i64 mx], 40)]⟩ ?_
  refine catW (quoteB k) [32] 1026 1 (by kernel_rfl) hlq (by decide) (by decide) noF_stable fun t0 ht0 hn0 => ?_
  refine zM [1, 13] 1 ⟨pqops B19 [1, 1, 0] 4, [.seq (sub B19 pAD9)], [(1, .lp 0 0), (13, .so (mkB t0))], [([.so (mkB k), .io .i64 st, .io .i64 en, .v (.int .i64 1), .io .i64 nt, .io .i64 ct, .io .i64 sm, .io .i64 mn, .io .i64 mx], 40)]⟩ ?_
  refine zC noF_stable 37 [] (.agg [.v (.string ⟨#[]⟩), .v (.string ⟨#[101, 97, 114, 108, 121]⟩), .v (.string ⟨#[111, 110, 116, 105, 109, 101]⟩), .v (.string ⟨#[108, 97, 116, 101]⟩)]) (fun _ _ w1 hi _ => names_any w1) ?_
  refine zM [1, 13, 17] 1 ⟨pqops B19 [1, 1, 0] 8, [.seq (sub B19 pAD9)], [(1, .lp 0 0), (13, .so (mkB t0)), (17, .v (.string (ByteArray.mk #[101, 97, 114, 108, 121])))], [([.so (mkB k), .io .i64 st, .io .i64 en, .v (.int .i64 1), .io .i64 nt, .io .i64 ct, .io .i64 sm, .io .i64 mn, .io .i64 mx], 40)]⟩ ?_
  refine catW t0 [101, 97, 114, 108, 121] 1027 5 (by kernel_rfl) hn0 (by decide) (by decide) noF_stable fun t1 ht1 hn1 => ?_
  refine zM [4, 19] 0 ⟨pops B19 [1, 1, 1, 0, 0] 1, [.seq (sub B19 [1, 1, 1, 0, 1]), .seq (sub B19 pAD8)], [(4, .so (mkB t1)), (19, .agg [.so (mkB k), .io .i64 st, .io .i64 en, .v (.int .i64 1), .io .i64 nt, .io .i64 ct, .io .i64 sm, .io .i64 mn, .io .i64 mx])], []⟩ ?_
  refine zC noF_stable 38 [.agg [.so (mkB k), .io .i64 st, .io .i64 en, .v (.int .i64 1), .io .i64 nt, .io .i64 ct, .io .i64 sm, .io .i64 mn, .io .i64 mx]] (.agg [.io .i64 st, .io .i64 en, .io .i64 nt, .io .i64 ct, .io .i64 sm, .io .i64 mn, .io .i64 mx]) (fun _ _ w1 hi _ => numbers_any (mkB k) st en _ nt ct sm mn mx w1) ?_
  refine zM [20, 21, 24, 25] 0 ⟨pops B19 pAD4 2, [.block 1, .seq (sub B19 pAD5), .rounds (sub B19 pAD7) 19, .block 0, .seq (sub B19 pAD8)], [(20, .agg [.io .i64 st, .io .i64 en, .io .i64 nt, .io .i64 ct, .io .i64 sm, .io .i64 mn, .io .i64 mx]), (21, .v (.int .i64 0)), (24, .so (mkB t1)), (25, .io .i64 st)], []⟩ ?_
  refine zC noF_stable 39 [.io .i64 st, .v (.int .i64 10)] (.so (mkB (Lib.itoa st))) (fun _ _ w1 hi _ => fmt_any _ i1 w1 (tab_below htab hi.mem.below rfl)) ?_
  refine zM [20, 21, 24, 26] 0 ⟨pops B19 pAD4 3, [.block 1, .seq (sub B19 pAD5), .rounds (sub B19 pAD7) 19, .block 0, .seq (sub B19 pAD8)], [(20, .agg [.io .i64 st, .io .i64 en, .io .i64 nt, .io .i64 ct, .io .i64 sm, .io .i64 mn, .io .i64 mx]), (21, .v (.int .i64 0)), (24, .so (mkB t1)), (26, .so (mkB (Lib.itoa st)))], []⟩ ?_
  refine catW [32] (Lib.itoa st) 1 21 (by kernel_rfl) (by decide) hl0 (by decide) noF_stable fun t2 ht2 hn2 => ?_
  refine zM [20, 21, 24, 27] 0 ⟨pops B19 pAD4 4, [.block 1, .seq (sub B19 pAD5), .rounds (sub B19 pAD7) 19, .block 0, .seq (sub B19 pAD8)], [(20, .agg [.io .i64 st, .io .i64 en, .io .i64 nt, .io .i64 ct, .io .i64 sm, .io .i64 mn, .io .i64 mx]), (21, .v (.int .i64 0)), (24, .so (mkB t1)), (27, .so (mkB t2))], []⟩ ?_
  refine catW t1 t2 1032 22 (by kernel_rfl) hn1 hn2 (by decide) noF_stable fun t3 ht3 hn3 => ?_
  refine zM [20, 21, 24, 25] 0 ⟨pops B19 pAD4 2, [.block 1, .seq (sub B19 pAD5), .rounds (sub B19 pAD7) 18, .block 0, .seq (sub B19 pAD8)], [(20, .agg [.io .i64 st, .io .i64 en, .io .i64 nt, .io .i64 ct, .io .i64 sm, .io .i64 mn, .io .i64 mx]), (21, .v (.int .i64 1)), (24, .so (mkB t3)), (25, .io .i64 en)], []⟩ ?_
  refine zC noF_stable 39 [.io .i64 en, .v (.int .i64 10)] (.so (mkB (Lib.itoa en))) (fun _ _ w1 hi _ => fmt_any _ i2 w1 (tab_below htab hi.mem.below rfl)) ?_
  refine zM [20, 21, 24, 26] 0 ⟨pops B19 pAD4 3, [.block 1, .seq (sub B19 pAD5), .rounds (sub B19 pAD7) 18, .block 0, .seq (sub B19 pAD8)], [(20, .agg [.io .i64 st, .io .i64 en, .io .i64 nt, .io .i64 ct, .io .i64 sm, .io .i64 mn, .io .i64 mx]), (21, .v (.int .i64 1)), (24, .so (mkB t3)), (26, .so (mkB (Lib.itoa en)))], []⟩ ?_
  refine catW [32] (Lib.itoa en) 1 21 (by kernel_rfl) (by decide) hl1 (by decide) noF_stable fun t4 ht4 hn4 => ?_
  refine zM [20, 21, 24, 27] 0 ⟨pops B19 pAD4 4, [.block 1, .seq (sub B19 pAD5), .rounds (sub B19 pAD7) 18, .block 0, .seq (sub B19 pAD8)], [(20, .agg [.io .i64 st, .io .i64 en, .io .i64 nt, .io .i64 ct, .io .i64 sm, .io .i64 mn, .io .i64 mx]), (21, .v (.int .i64 1)), (24, .so (mkB t3)), (27, .so (mkB t4))], []⟩ ?_
  refine catW t3 t4 1054 22 (by kernel_rfl) hn3 hn4 (by decide) noF_stable fun t5 ht5 hn5 => ?_
  refine zM [20, 21, 24, 25] 0 ⟨pops B19 pAD4 2, [.block 1, .seq (sub B19 pAD5), .rounds (sub B19 pAD7) 17, .block 0, .seq (sub B19 pAD8)], [(20, .agg [.io .i64 st, .io .i64 en, .io .i64 nt, .io .i64 ct, .io .i64 sm, .io .i64 mn, .io .i64 mx]), (21, .v (.int .i64 2)), (24, .so (mkB t5)), (25, .io .i64 nt)], []⟩ ?_
  refine zC noF_stable 39 [.io .i64 nt, .v (.int .i64 10)] (.so (mkB (Lib.itoa nt))) (fun _ _ w1 hi _ => fmt_any _ i3 w1 (tab_below htab hi.mem.below rfl)) ?_
  refine zM [20, 21, 24, 26] 0 ⟨pops B19 pAD4 3, [.block 1, .seq (sub B19 pAD5), .rounds (sub B19 pAD7) 17, .block 0, .seq (sub B19 pAD8)], [(20, .agg [.io .i64 st, .io .i64 en, .io .i64 nt, .io .i64 ct, .io .i64 sm, .io .i64 mn, .io .i64 mx]), (21, .v (.int .i64 2)), (24, .so (mkB t5)), (26, .so (mkB (Lib.itoa nt)))], []⟩ ?_
  refine catW [32] (Lib.itoa nt) 1 21 (by kernel_rfl) (by decide) hl2 (by decide) noF_stable fun t6 ht6 hn6 => ?_
  refine zM [20, 21, 24, 27] 0 ⟨pops B19 pAD4 4, [.block 1, .seq (sub B19 pAD5), .rounds (sub B19 pAD7) 17, .block 0, .seq (sub B19 pAD8)], [(20, .agg [.io .i64 st, .io .i64 en, .io .i64 nt, .io .i64 ct, .io .i64 sm, .io .i64 mn, .io .i64 mx]), (21, .v (.int .i64 2)), (24, .so (mkB t5)), (27, .so (mkB t6))], []⟩ ?_
  refine catW t5 t6 1076 22 (by kernel_rfl) hn5 hn6 (by decide) noF_stable fun t7 ht7 hn7 => ?_
  refine zM [20, 21, 24, 25] 0 ⟨pops B19 pAD4 2, [.block 1, .seq (sub B19 pAD5), .rounds (sub B19 pAD7) 16, .block 0, .seq (sub B19 pAD8)], [(20, .agg [.io .i64 st, .io .i64 en, .io .i64 nt, .io .i64 ct, .io .i64 sm, .io .i64 mn, .io .i64 mx]), (21, .v (.int .i64 3)), (24, .so (mkB t7)), (25, .io .i64 ct)], []⟩ ?_
  refine zC noF_stable 39 [.io .i64 ct, .v (.int .i64 10)] (.so (mkB (Lib.itoa ct))) (fun _ _ w1 hi _ => fmt_any _ i4 w1 (tab_below htab hi.mem.below rfl)) ?_
  refine zM [20, 21, 24, 26] 0 ⟨pops B19 pAD4 3, [.block 1, .seq (sub B19 pAD5), .rounds (sub B19 pAD7) 16, .block 0, .seq (sub B19 pAD8)], [(20, .agg [.io .i64 st, .io .i64 en, .io .i64 nt, .io .i64 ct, .io .i64 sm, .io .i64 mn, .io .i64 mx]), (21, .v (.int .i64 3)), (24, .so (mkB t7)), (26, .so (mkB (Lib.itoa ct)))], []⟩ ?_
  refine catW [32] (Lib.itoa ct) 1 21 (by kernel_rfl) (by decide) hl3 (by decide) noF_stable fun t8 ht8 hn8 => ?_
  refine zM [20, 21, 24, 27] 0 ⟨pops B19 pAD4 4, [.block 1, .seq (sub B19 pAD5), .rounds (sub B19 pAD7) 16, .block 0, .seq (sub B19 pAD8)], [(20, .agg [.io .i64 st, .io .i64 en, .io .i64 nt, .io .i64 ct, .io .i64 sm, .io .i64 mn, .io .i64 mx]), (21, .v (.int .i64 3)), (24, .so (mkB t7)), (27, .so (mkB t8))], []⟩ ?_
  refine catW t7 t8 1098 22 (by kernel_rfl) hn7 hn8 (by decide) noF_stable fun t9 ht9 hn9 => ?_
  refine zM [20, 21, 24, 25] 0 ⟨pops B19 pAD4 2, [.block 1, .seq (sub B19 pAD5), .rounds (sub B19 pAD7) 15, .block 0, .seq (sub B19 pAD8)], [(20, .agg [.io .i64 st, .io .i64 en, .io .i64 nt, .io .i64 ct, .io .i64 sm, .io .i64 mn, .io .i64 mx]), (21, .v (.int .i64 4)), (24, .so (mkB t9)), (25, .io .i64 sm)], []⟩ ?_
  refine zC noF_stable 39 [.io .i64 sm, .v (.int .i64 10)] (.so (mkB (Lib.itoa sm))) (fun _ _ w1 hi _ => fmt_any _ i5 w1 (tab_below htab hi.mem.below rfl)) ?_
  refine zM [20, 21, 24, 26] 0 ⟨pops B19 pAD4 3, [.block 1, .seq (sub B19 pAD5), .rounds (sub B19 pAD7) 15, .block 0, .seq (sub B19 pAD8)], [(20, .agg [.io .i64 st, .io .i64 en, .io .i64 nt, .io .i64 ct, .io .i64 sm, .io .i64 mn, .io .i64 mx]), (21, .v (.int .i64 4)), (24, .so (mkB t9)), (26, .so (mkB (Lib.itoa sm)))], []⟩ ?_
  refine catW [32] (Lib.itoa sm) 1 21 (by kernel_rfl) (by decide) hl4 (by decide) noF_stable fun t10 ht10 hn10 => ?_
  refine zM [20, 21, 24, 27] 0 ⟨pops B19 pAD4 4, [.block 1, .seq (sub B19 pAD5), .rounds (sub B19 pAD7) 15, .block 0, .seq (sub B19 pAD8)], [(20, .agg [.io .i64 st, .io .i64 en, .io .i64 nt, .io .i64 ct, .io .i64 sm, .io .i64 mn, .io .i64 mx]), (21, .v (.int .i64 4)), (24, .so (mkB t9)), (27, .so (mkB t10))], []⟩ ?_
  refine catW t9 t10 1120 22 (by kernel_rfl) hn9 hn10 (by decide) noF_stable fun t11 ht11 hn11 => ?_
  refine zM [20, 21, 24, 25] 0 ⟨pops B19 pAD4 2, [.block 1, .seq (sub B19 pAD5), .rounds (sub B19 pAD7) 14, .block 0, .seq (sub B19 pAD8)], [(20, .agg [.io .i64 st, .io .i64 en, .io .i64 nt, .io .i64 ct, .io .i64 sm, .io .i64 mn, .io .i64 mx]), (21, .v (.int .i64 5)), (24, .so (mkB t11)), (25, .io .i64 mn)], []⟩ ?_
  refine zC noF_stable 39 [.io .i64 mn, .v (.int .i64 10)] (.so (mkB (Lib.itoa mn))) (fun _ _ w1 hi _ => fmt_any _ i6 w1 (tab_below htab hi.mem.below rfl)) ?_
  refine zM [20, 21, 24, 26] 0 ⟨pops B19 pAD4 3, [.block 1, .seq (sub B19 pAD5), .rounds (sub B19 pAD7) 14, .block 0, .seq (sub B19 pAD8)], [(20, .agg [.io .i64 st, .io .i64 en, .io .i64 nt, .io .i64 ct, .io .i64 sm, .io .i64 mn, .io .i64 mx]), (21, .v (.int .i64 5)), (24, .so (mkB t11)), (26, .so (mkB (Lib.itoa mn)))], []⟩ ?_
  refine catW [32] (Lib.itoa mn) 1 21 (by kernel_rfl) (by decide) hl5 (by decide) noF_stable fun t12 ht12 hn12 => ?_
  refine zM [20, 21, 24, 27] 0 ⟨pops B19 pAD4 4, [.block 1, .seq (sub B19 pAD5), .rounds (sub B19 pAD7) 14, .block 0, .seq (sub B19 pAD8)], [(20, .agg [.io .i64 st, .io .i64 en, .io .i64 nt, .io .i64 ct, .io .i64 sm, .io .i64 mn, .io .i64 mx]), (21, .v (.int .i64 5)), (24, .so (mkB t11)), (27, .so (mkB t12))], []⟩ ?_
  refine catW t11 t12 1142 22 (by kernel_rfl) hn11 hn12 (by decide) noF_stable fun t13 ht13 hn13 => ?_
  refine zM [20, 21, 24, 25] 0 ⟨pops B19 pAD4 2, [.block 1, .seq (sub B19 pAD5), .rounds (sub B19 pAD7) 13, .block 0, .seq (sub B19 pAD8)], [(20, .agg [.io .i64 st, .io .i64 en, .io .i64 nt, .io .i64 ct, .io .i64 sm, .io .i64 mn, .io .i64 mx]), (21, .v (.int .i64 6)), (24, .so (mkB t13)), (25, .io .i64 mx)], []⟩ ?_
  refine zC noF_stable 39 [.io .i64 mx, .v (.int .i64 10)] (.so (mkB (Lib.itoa mx))) (fun _ _ w1 hi _ => fmt_any _ i7 w1 (tab_below htab hi.mem.below rfl)) ?_
  refine zM [20, 21, 24, 26] 0 ⟨pops B19 pAD4 3, [.block 1, .seq (sub B19 pAD5), .rounds (sub B19 pAD7) 13, .block 0, .seq (sub B19 pAD8)], [(20, .agg [.io .i64 st, .io .i64 en, .io .i64 nt, .io .i64 ct, .io .i64 sm, .io .i64 mn, .io .i64 mx]), (21, .v (.int .i64 6)), (24, .so (mkB t13)), (26, .so (mkB (Lib.itoa mx)))], []⟩ ?_
  refine catW [32] (Lib.itoa mx) 1 21 (by kernel_rfl) (by decide) hl6 (by decide) noF_stable fun t14 ht14 hn14 => ?_
  refine zM [20, 21, 24, 27] 0 ⟨pops B19 pAD4 4, [.block 1, .seq (sub B19 pAD5), .rounds (sub B19 pAD7) 13, .block 0, .seq (sub B19 pAD8)], [(20, .agg [.io .i64 st, .io .i64 en, .io .i64 nt, .io .i64 ct, .io .i64 sm, .io .i64 mn, .io .i64 mx]), (21, .v (.int .i64 6)), (24, .so (mkB t13)), (27, .so (mkB t14))], []⟩ ?_
  refine catW t13 t14 1164 22 (by kernel_rfl) hn13 hn14 (by decide) noF_stable fun t15 ht15 hn15 => ?_
  refine zM [2, 3] 0 ⟨.exit .ret, [], [(2, .so (mkB t15)), (3, .v (.int .i64 0))], []⟩ ?_
  refine zE (.tup [.so (mkB t15), .v (.int .i64 0)]) ?_
  intro ρ w9 hm hf
  refine ⟨?_, hm.below⟩
  have e : t15 = lineB k st en 1 nt ct sm mn mx := by
   subst_vars
   simp only [lineB, List.flatMap_cons, List.flatMap_nil, List.append_assoc, List.nil_append, List.cons_append, List.append_nil]
   rfl
  rw [← e]
  rfl
 ·refine enter (fn := Tryz.f19) (c := B19) [.agg [.so (mkB k), .io .i64 st, .io .i64 en, .v (.int .i64 2), .io .i64 nt, .io .i64 ct, .io .i64 sm, .io .i64 mn, .io .i64 mx]] Tryz.func19 rfl rfl ?_
  refine zM [1, 7] 1 ⟨pops B19 [1, 0, 0] 1, [.seq (sub B19 [1, 0, 1]), .seq (sub B19 [1, 1])], [(1, .lp 0 0), (7, .agg [.so (mkB k), .io .i64 st, .io .i64 en, .v (.int .i64 2), .io .i64 nt, .io .i64 ct, .io .i64 sm, .io .i64 mn, .io .i64 mx])], [([.so (mkB k), .io .i64 st, .io .i64 en, .v (.int .i64 2), .io .i64 nt, .io .i64 ct, .io .i64 sm, .io .i64 mn, .io .i64 mx], 40)]⟩ ?_
  refine zC noF_stable 35 [.agg [.so (mkB k), .io .i64 st, .io .i64 en, .v (.int .i64 2), .io .i64 nt, .io .i64 ct, .io .i64 sm, .io .i64 mn, .io .i64 mx]] (.v (.bool true)) (fun _ _ w1 hi _ => (may_any (mkB k) st en _ nt ct sm mn mx w1).mono fun e w2 h => ⟨h.1.trans (by rw [show mayP (mkB k) _ = true from by simp only [mayP, mkB_size, Bool.and_eq_true, decide_eq_true_eq]; omega]; rfl), h.2⟩) ?_
  refine zM [1, 11] 1 ⟨pqops B19 [1, 1, 0] 2, [.seq (sub B19 pAD9)], [(1, .lp 0 0), (11, .so (mkB k))], [([.so (mkB k), .io .i64 st, .io .i64 en, .v (.int .i64 2), .io .i64 nt, .io .i64 ct, .io .i64 sm, .io .i64 mn, .io .i64 mx], 40)]⟩ ?_
  refine zC noF_stable 36 [.so (mkB k)] (.so (mkB (quoteB k))) (fun _ _ w1 hi _ => quote_any k (by omega) w1) ?_
  refine zM [1, 12] 1 ⟨pqops B19 [1, 1, 0] 3, [.seq (sub B19 pAD9)], [(1, .lp 0 0), (12, .so (mkB (quoteB k)))], [([.so (mkB k), .io .i64 st, .io .i64 en, .v (.int .i64 2), .io .i64 nt, .io .i64 ct, .io .i64 sm, .io .i64 mn, .io .i64 mx], 40)]⟩ ?_
  refine catW (quoteB k) [32] 1026 1 (by kernel_rfl) hlq (by decide) (by decide) noF_stable fun t0 ht0 hn0 => ?_
  refine zM [1, 13] 1 ⟨pqops B19 [1, 1, 0] 4, [.seq (sub B19 pAD9)], [(1, .lp 0 0), (13, .so (mkB t0))], [([.so (mkB k), .io .i64 st, .io .i64 en, .v (.int .i64 2), .io .i64 nt, .io .i64 ct, .io .i64 sm, .io .i64 mn, .io .i64 mx], 40)]⟩ ?_
  refine zC noF_stable 37 [] (.agg [.v (.string ⟨#[]⟩), .v (.string ⟨#[101, 97, 114, 108, 121]⟩), .v (.string ⟨#[111, 110, 116, 105, 109, 101]⟩), .v (.string ⟨#[108, 97, 116, 101]⟩)]) (fun _ _ w1 hi _ => names_any w1) ?_
  refine zM [1, 13, 17] 1 ⟨pqops B19 [1, 1, 0] 8, [.seq (sub B19 pAD9)], [(1, .lp 0 0), (13, .so (mkB t0)), (17, .v (.string (ByteArray.mk #[111, 110, 116, 105, 109, 101])))], [([.so (mkB k), .io .i64 st, .io .i64 en, .v (.int .i64 2), .io .i64 nt, .io .i64 ct, .io .i64 sm, .io .i64 mn, .io .i64 mx], 40)]⟩ ?_
  refine catW t0 [111, 110, 116, 105, 109, 101] 1027 6 (by kernel_rfl) hn0 (by decide) (by decide) noF_stable fun t1 ht1 hn1 => ?_
  refine zM [4, 19] 0 ⟨pops B19 [1, 1, 1, 0, 0] 1, [.seq (sub B19 [1, 1, 1, 0, 1]), .seq (sub B19 pAD8)], [(4, .so (mkB t1)), (19, .agg [.so (mkB k), .io .i64 st, .io .i64 en, .v (.int .i64 2), .io .i64 nt, .io .i64 ct, .io .i64 sm, .io .i64 mn, .io .i64 mx])], []⟩ ?_
  refine zC noF_stable 38 [.agg [.so (mkB k), .io .i64 st, .io .i64 en, .v (.int .i64 2), .io .i64 nt, .io .i64 ct, .io .i64 sm, .io .i64 mn, .io .i64 mx]] (.agg [.io .i64 st, .io .i64 en, .io .i64 nt, .io .i64 ct, .io .i64 sm, .io .i64 mn, .io .i64 mx]) (fun _ _ w1 hi _ => numbers_any (mkB k) st en _ nt ct sm mn mx w1) ?_
  refine zM [20, 21, 24, 25] 0 ⟨pops B19 pAD4 2, [.block 1, .seq (sub B19 pAD5), .rounds (sub B19 pAD7) 19, .block 0, .seq (sub B19 pAD8)], [(20, .agg [.io .i64 st, .io .i64 en, .io .i64 nt, .io .i64 ct, .io .i64 sm, .io .i64 mn, .io .i64 mx]), (21, .v (.int .i64 0)), (24, .so (mkB t1)), (25, .io .i64 st)], []⟩ ?_
  refine zC noF_stable 39 [.io .i64 st, .v (.int .i64 10)] (.so (mkB (Lib.itoa st))) (fun _ _ w1 hi _ => fmt_any _ i1 w1 (tab_below htab hi.mem.below rfl)) ?_
  refine zM [20, 21, 24, 26] 0 ⟨pops B19 pAD4 3, [.block 1, .seq (sub B19 pAD5), .rounds (sub B19 pAD7) 19, .block 0, .seq (sub B19 pAD8)], [(20, .agg [.io .i64 st, .io .i64 en, .io .i64 nt, .io .i64 ct, .io .i64 sm, .io .i64 mn, .io .i64 mx]), (21, .v (.int .i64 0)), (24, .so (mkB t1)), (26, .so (mkB (Lib.itoa st)))], []⟩ ?_
  refine catW [32] (Lib.itoa st) 1 21 (by kernel_rfl) (by decide) hl0 (by decide) noF_stable fun t2 ht2 hn2 => ?_
  refine zM [20, 21, 24, 27] 0 ⟨pops B19 pAD4 4, [.block 1, .seq (sub B19 pAD5), .rounds (sub B19 pAD7) 19, .block 0, .seq (sub B19 pAD8)], [(20, .agg [.io .i64 st, .io .i64 en, .io .i64 nt, .io .i64 ct, .io .i64 sm, .io .i64 mn, .io .i64 mx]), (21, .v (.int .i64 0)), (24, .so (mkB t1)), (27, .so (mkB t2))], []⟩ ?_
  refine catW t1 t2 1033 22 (by kernel_rfl) hn1 hn2 (by decide) noF_stable fun t3 ht3 hn3 => ?_
  refine zM [20, 21, 24, 25] 0 ⟨pops B19 pAD4 2, [.block 1, .seq (sub B19 pAD5), .rounds (sub B19 pAD7) 18, .block 0, .seq (sub B19 pAD8)], [(20, .agg [.io .i64 st, .io .i64 en, .io .i64 nt, .io .i64 ct, .io .i64 sm, .io .i64 mn, .io .i64 mx]), (21, .v (.int .i64 1)), (24, .so (mkB t3)), (25, .io .i64 en)], []⟩ ?_
  refine zC noF_stable 39 [.io .i64 en, .v (.int .i64 10)] (.so (mkB (Lib.itoa en))) (fun _ _ w1 hi _ => fmt_any _ i2 w1 (tab_below htab hi.mem.below rfl)) ?_
  refine zM [20, 21, 24, 26] 0 ⟨pops B19 pAD4 3, [.block 1, .seq (sub B19 pAD5), .rounds (sub B19 pAD7) 18, .block 0, .seq (sub B19 pAD8)], [(20, .agg [.io .i64 st, .io .i64 en, .io .i64 nt, .io .i64 ct, .io .i64 sm, .io .i64 mn, .io .i64 mx]), (21, .v (.int .i64 1)), (24, .so (mkB t3)), (26, .so (mkB (Lib.itoa en)))], []⟩ ?_
  refine catW [32] (Lib.itoa en) 1 21 (by kernel_rfl) (by decide) hl1 (by decide) noF_stable fun t4 ht4 hn4 => ?_
  refine zM [20, 21, 24, 27] 0 ⟨pops B19 pAD4 4, [.block 1, .seq (sub B19 pAD5), .rounds (sub B19 pAD7) 18, .block 0, .seq (sub B19 pAD8)], [(20, .agg [.io .i64 st, .io .i64 en, .io .i64 nt, .io .i64 ct, .io .i64 sm, .io .i64 mn, .io .i64 mx]), (21, .v (.int .i64 1)), (24, .so (mkB t3)), (27, .so (mkB t4))], []⟩ ?_
  refine catW t3 t4 1055 22 (by kernel_rfl) hn3 hn4 (by decide) noF_stable fun t5 ht5 hn5 => ?_
  refine zM [20, 21, 24, 25] 0 ⟨pops B19 pAD4 2, [.block 1, .seq (sub B19 pAD5), .rounds (sub B19 pAD7) 17, .block 0, .seq (sub B19 pAD8)], [(20, .agg [.io .i64 st, .io .i64 en, .io .i64 nt, .io .i64 ct, .io .i64 sm, .io .i64 mn, .io .i64 mx]), (21, .v (.int .i64 2)), (24, .so (mkB t5)), (25, .io .i64 nt)], []⟩ ?_
  refine zC noF_stable 39 [.io .i64 nt, .v (.int .i64 10)] (.so (mkB (Lib.itoa nt))) (fun _ _ w1 hi _ => fmt_any _ i3 w1 (tab_below htab hi.mem.below rfl)) ?_
  refine zM [20, 21, 24, 26] 0 ⟨pops B19 pAD4 3, [.block 1, .seq (sub B19 pAD5), .rounds (sub B19 pAD7) 17, .block 0, .seq (sub B19 pAD8)], [(20, .agg [.io .i64 st, .io .i64 en, .io .i64 nt, .io .i64 ct, .io .i64 sm, .io .i64 mn, .io .i64 mx]), (21, .v (.int .i64 2)), (24, .so (mkB t5)), (26, .so (mkB (Lib.itoa nt)))], []⟩ ?_
  refine catW [32] (Lib.itoa nt) 1 21 (by kernel_rfl) (by decide) hl2 (by decide) noF_stable fun t6 ht6 hn6 => ?_
  refine zM [20, 21, 24, 27] 0 ⟨pops B19 pAD4 4, [.block 1, .seq (sub B19 pAD5), .rounds (sub B19 pAD7) 17, .block 0, .seq (sub B19 pAD8)], [(20, .agg [.io .i64 st, .io .i64 en, .io .i64 nt, .io .i64 ct, .io .i64 sm, .io .i64 mn, .io .i64 mx]), (21, .v (.int .i64 2)), (24, .so (mkB t5)), (27, .so (mkB t6))], []⟩ ?_
  refine catW t5 t6 1077 22 (by kernel_rfl) hn5 hn6 (by decide) noF_stable fun t7 ht7 hn7 => ?_
  refine zM [20, 21, 24, 25] 0 ⟨pops B19 pAD4 2, [.block 1, .seq (sub B19 pAD5), .rounds (sub B19 pAD7) 16, .block 0, .seq (sub B19 pAD8)], [(20, .agg [.io .i64 st, .io .i64 en, .io .i64 nt, .io .i64 ct, .io .i64 sm, .io .i64 mn, .io .i64 mx]), (21, .v (.int .i64 3)), (24, .so (mkB t7)), (25, .io .i64 ct)], []⟩ ?_
  refine zC noF_stable 39 [.io .i64 ct, .v (.int .i64 10)] (.so (mkB (Lib.itoa ct))) (fun _ _ w1 hi _ => fmt_any _ i4 w1 (tab_below htab hi.mem.below rfl)) ?_
  refine zM [20, 21, 24, 26] 0 ⟨pops B19 pAD4 3, [.block 1, .seq (sub B19 pAD5), .rounds (sub B19 pAD7) 16, .block 0, .seq (sub B19 pAD8)], [(20, .agg [.io .i64 st, .io .i64 en, .io .i64 nt, .io .i64 ct, .io .i64 sm, .io .i64 mn, .io .i64 mx]), (21, .v (.int .i64 3)), (24, .so (mkB t7)), (26, .so (mkB (Lib.itoa ct)))], []⟩ ?_
  refine catW [32] (Lib.itoa ct) 1 21 (by kernel_rfl) (by decide) hl3 (by decide) noF_stable fun t8 ht8 hn8 => ?_
  refine zM [20, 21, 24, 27] 0 ⟨pops B19 pAD4 4, [.block 1, .seq (sub B19 pAD5), .rounds (sub B19 pAD7) 16, .block 0, .seq (sub B19 pAD8)], [(20, .agg [.io .i64 st, .io .i64 en, .io .i64 nt, .io .i64 ct, .io .i64 sm, .io .i64 mn, .io .i64 mx]), (21, .v (.int .i64 3)), (24, .so (mkB t7)), (27, .so (mkB t8))], []⟩ ?_
  refine catW t7 t8 1099 22 (by kernel_rfl) hn7 hn8 (by decide) noF_stable fun t9 ht9 hn9 => ?_
  refine zM [20, 21, 24, 25] 0 ⟨pops B19 pAD4 2, [.block 1, .seq (sub B19 pAD5), .rounds (sub B19 pAD7) 15, .block 0, .seq (sub B19 pAD8)], [(20, .agg [.io .i64 st, .io .i64 en, .io .i64 nt, .io .i64 ct, .io .i64 sm, .io .i64 mn, .io .i64 mx]), (21, .v (.int .i64 4)), (24, .so (mkB t9)), (25, .io .i64 sm)], []⟩ ?_
  refine zC noF_stable 39 [.io .i64 sm, .v (.int .i64 10)] (.so (mkB (Lib.itoa sm))) (fun _ _ w1 hi _ => fmt_any _ i5 w1 (tab_below htab hi.mem.below rfl)) ?_
  refine zM [20, 21, 24, 26] 0 ⟨pops B19 pAD4 3, [.block 1, .seq (sub B19 pAD5), .rounds (sub B19 pAD7) 15, .block 0, .seq (sub B19 pAD8)], [(20, .agg [.io .i64 st, .io .i64 en, .io .i64 nt, .io .i64 ct, .io .i64 sm, .io .i64 mn, .io .i64 mx]), (21, .v (.int .i64 4)), (24, .so (mkB t9)), (26, .so (mkB (Lib.itoa sm)))], []⟩ ?_
  refine catW [32] (Lib.itoa sm) 1 21 (by kernel_rfl) (by decide) hl4 (by decide) noF_stable fun t10 ht10 hn10 => ?_
  refine zM [20, 21, 24, 27] 0 ⟨pops B19 pAD4 4, [.block 1, .seq (sub B19 pAD5), .rounds (sub B19 pAD7) 15, .block 0, .seq (sub B19 pAD8)], [(20, .agg [.io .i64 st, .io .i64 en, .io .i64 nt, .io .i64 ct, .io .i64 sm, .io .i64 mn, .io .i64 mx]), (21, .v (.int .i64 4)), (24, .so (mkB t9)), (27, .so (mkB t10))], []⟩ ?_
  refine catW t9 t10 1121 22 (by kernel_rfl) hn9 hn10 (by decide) noF_stable fun t11 ht11 hn11 => ?_
  refine zM [20, 21, 24, 25] 0 ⟨pops B19 pAD4 2, [.block 1, .seq (sub B19 pAD5), .rounds (sub B19 pAD7) 14, .block 0, .seq (sub B19 pAD8)], [(20, .agg [.io .i64 st, .io .i64 en, .io .i64 nt, .io .i64 ct, .io .i64 sm, .io .i64 mn, .io .i64 mx]), (21, .v (.int .i64 5)), (24, .so (mkB t11)), (25, .io .i64 mn)], []⟩ ?_
  refine zC noF_stable 39 [.io .i64 mn, .v (.int .i64 10)] (.so (mkB (Lib.itoa mn))) (fun _ _ w1 hi _ => fmt_any _ i6 w1 (tab_below htab hi.mem.below rfl)) ?_
  refine zM [20, 21, 24, 26] 0 ⟨pops B19 pAD4 3, [.block 1, .seq (sub B19 pAD5), .rounds (sub B19 pAD7) 14, .block 0, .seq (sub B19 pAD8)], [(20, .agg [.io .i64 st, .io .i64 en, .io .i64 nt, .io .i64 ct, .io .i64 sm, .io .i64 mn, .io .i64 mx]), (21, .v (.int .i64 5)), (24, .so (mkB t11)), (26, .so (mkB (Lib.itoa mn)))], []⟩ ?_
  refine catW [32] (Lib.itoa mn) 1 21 (by kernel_rfl) (by decide) hl5 (by decide) noF_stable fun t12 ht12 hn12 => ?_
  refine zM [20, 21, 24, 27] 0 ⟨pops B19 pAD4 4, [.block 1, .seq (sub B19 pAD5), .rounds (sub B19 pAD7) 14, .block 0, .seq (sub B19 pAD8)], [(20, .agg [.io .i64 st, .io .i64 en, .io .i64 nt, .io .i64 ct, .io .i64 sm, .io .i64 mn, .io .i64 mx]), (21, .v (.int .i64 5)), (24, .so (mkB t11)), (27, .so (mkB t12))], []⟩ ?_
  refine catW t11 t12 1143 22 (by kernel_rfl) hn11 hn12 (by decide) noF_stable fun t13 ht13 hn13 => ?_
  refine zM [20, 21, 24, 25] 0 ⟨pops B19 pAD4 2, [.block 1, .seq (sub B19 pAD5), .rounds (sub B19 pAD7) 13, .block 0, .seq (sub B19 pAD8)], [(20, .agg [.io .i64 st, .io .i64 en, .io .i64 nt, .io .i64 ct, .io .i64 sm, .io .i64 mn, .io .i64 mx]), (21, .v (.int .i64 6)), (24, .so (mkB t13)), (25, .io .i64 mx)], []⟩ ?_
  refine zC noF_stable 39 [.io .i64 mx, .v (.int .i64 10)] (.so (mkB (Lib.itoa mx))) (fun _ _ w1 hi _ => fmt_any _ i7 w1 (tab_below htab hi.mem.below rfl)) ?_
  refine zM [20, 21, 24, 26] 0 ⟨pops B19 pAD4 3, [.block 1, .seq (sub B19 pAD5), .rounds (sub B19 pAD7) 13, .block 0, .seq (sub B19 pAD8)], [(20, .agg [.io .i64 st, .io .i64 en, .io .i64 nt, .io .i64 ct, .io .i64 sm, .io .i64 mn, .io .i64 mx]), (21, .v (.int .i64 6)), (24, .so (mkB t13)), (26, .so (mkB (Lib.itoa mx)))], []⟩ ?_
  refine catW [32] (Lib.itoa mx) 1 21 (by kernel_rfl) (by decide) hl6 (by decide) noF_stable fun t14 ht14 hn14 => ?_
  refine zM [20, 21, 24, 27] 0 ⟨pops B19 pAD4 4, [.block 1, .seq (sub B19 pAD5), .rounds (sub B19 pAD7) 13, .block 0, .seq (sub B19 pAD8)], [(20, .agg [.io .i64 st, .io .i64 en, .io .i64 nt, .io .i64 ct, .io .i64 sm, .io .i64 mn, .io .i64 mx]), (21, .v (.int .i64 6)), (24, .so (mkB t13)), (27, .so (mkB t14))], []⟩ ?_
  refine catW t13 t14 1165 22 (by kernel_rfl) hn13 hn14 (by decide) noF_stable fun t15 ht15 hn15 => ?_
  refine zM [2, 3] 0 ⟨.exit .ret, [], [(2, .so (mkB t15)), (3, .v (.int .i64 0))], []⟩ ?_
  refine zE (.tup [.so (mkB t15), .v (.int .i64 0)]) ?_
  intro ρ w9 hm hf
  refine ⟨?_, hm.below⟩
  have e : t15 = lineB k st en 2 nt ct sm mn mx := by
   subst_vars
   simp only [lineB, List.flatMap_cons, List.flatMap_nil, List.append_assoc, List.nil_append, List.cons_append, List.append_nil]
   rfl
  rw [← e]
  rfl
 refine enter (fn := Tryz.f19) (c := B19) [.agg [.so (mkB k), .io .i64 st, .io .i64 en, .v (.int .i64 3), .io .i64 nt, .io .i64 ct, .io .i64 sm, .io .i64 mn, .io .i64 mx]] Tryz.func19 rfl rfl ?_
 refine zM [1, 7] 1 ⟨pops B19 [1, 0, 0] 1, [.seq (sub B19 [1, 0, 1]), .seq (sub B19 [1, 1])], [(1, .lp 0 0), (7, .agg [.so (mkB k), .io .i64 st, .io .i64 en, .v (.int .i64 3), .io .i64 nt, .io .i64 ct, .io .i64 sm, .io .i64 mn, .io .i64 mx])], [([.so (mkB k), .io .i64 st, .io .i64 en, .v (.int .i64 3), .io .i64 nt, .io .i64 ct, .io .i64 sm, .io .i64 mn, .io .i64 mx], 40)]⟩ ?_
 refine zC noF_stable 35 [.agg [.so (mkB k), .io .i64 st, .io .i64 en, .v (.int .i64 3), .io .i64 nt, .io .i64 ct, .io .i64 sm, .io .i64 mn, .io .i64 mx]] (.v (.bool true)) (fun _ _ w1 hi _ => (may_any (mkB k) st en _ nt ct sm mn mx w1).mono fun e w2 h => ⟨h.1.trans (by rw [show mayP (mkB k) _ = true from by simp only [mayP, mkB_size, Bool.and_eq_true, decide_eq_true_eq]; omega]; rfl), h.2⟩) ?_
 refine zM [1, 11] 1 ⟨pqops B19 [1, 1, 0] 2, [.seq (sub B19 pAD9)], [(1, .lp 0 0), (11, .so (mkB k))], [([.so (mkB k), .io .i64 st, .io .i64 en, .v (.int .i64 3), .io .i64 nt, .io .i64 ct, .io .i64 sm, .io .i64 mn, .io .i64 mx], 40)]⟩ ?_
 refine zC noF_stable 36 [.so (mkB k)] (.so (mkB (quoteB k))) (fun _ _ w1 hi _ => quote_any k (by omega) w1) ?_
 refine zM [1, 12] 1 ⟨pqops B19 [1, 1, 0] 3, [.seq (sub B19 pAD9)], [(1, .lp 0 0), (12, .so (mkB (quoteB k)))], [([.so (mkB k), .io .i64 st, .io .i64 en, .v (.int .i64 3), .io .i64 nt, .io .i64 ct, .io .i64 sm, .io .i64 mn, .io .i64 mx], 40)]⟩ ?_
 refine catW (quoteB k) [32] 1026 1 (by kernel_rfl) hlq (by decide) (by decide) noF_stable fun t0 ht0 hn0 => ?_
 refine zM [1, 13] 1 ⟨pqops B19 [1, 1, 0] 4, [.seq (sub B19 pAD9)], [(1, .lp 0 0), (13, .so (mkB t0))], [([.so (mkB k), .io .i64 st, .io .i64 en, .v (.int .i64 3), .io .i64 nt, .io .i64 ct, .io .i64 sm, .io .i64 mn, .io .i64 mx], 40)]⟩ ?_
 refine zC noF_stable 37 [] (.agg [.v (.string ⟨#[]⟩), .v (.string ⟨#[101, 97, 114, 108, 121]⟩), .v (.string ⟨#[111, 110, 116, 105, 109, 101]⟩), .v (.string ⟨#[108, 97, 116, 101]⟩)]) (fun _ _ w1 hi _ => names_any w1) ?_
 refine zM [1, 13, 17] 1 ⟨pqops B19 [1, 1, 0] 8, [.seq (sub B19 pAD9)], [(1, .lp 0 0), (13, .so (mkB t0)), (17, .v (.string (ByteArray.mk #[108, 97, 116, 101])))], [([.so (mkB k), .io .i64 st, .io .i64 en, .v (.int .i64 3), .io .i64 nt, .io .i64 ct, .io .i64 sm, .io .i64 mn, .io .i64 mx], 40)]⟩ ?_
 refine catW t0 [108, 97, 116, 101] 1027 4 (by kernel_rfl) hn0 (by decide) (by decide) noF_stable fun t1 ht1 hn1 => ?_
 refine zM [4, 19] 0 ⟨pops B19 [1, 1, 1, 0, 0] 1, [.seq (sub B19 [1, 1, 1, 0, 1]), .seq (sub B19 pAD8)], [(4, .so (mkB t1)), (19, .agg [.so (mkB k), .io .i64 st, .io .i64 en, .v (.int .i64 3), .io .i64 nt, .io .i64 ct, .io .i64 sm, .io .i64 mn, .io .i64 mx])], []⟩ ?_
 refine zC noF_stable 38 [.agg [.so (mkB k), .io .i64 st, .io .i64 en, .v (.int .i64 3), .io .i64 nt, .io .i64 ct, .io .i64 sm, .io .i64 mn, .io .i64 mx]] (.agg [.io .i64 st, .io .i64 en, .io .i64 nt, .io .i64 ct, .io .i64 sm, .io .i64 mn, .io .i64 mx]) (fun _ _ w1 hi _ => numbers_any (mkB k) st en _ nt ct sm mn mx w1) ?_
 refine zM [20, 21, 24, 25] 0 ⟨pops B19 pAD4 2, [.block 1, .seq (sub B19 pAD5), .rounds (sub B19 pAD7) 19, .block 0, .seq (sub B19 pAD8)], [(20, .agg [.io .i64 st, .io .i64 en, .io .i64 nt, .io .i64 ct, .io .i64 sm, .io .i64 mn, .io .i64 mx]), (21, .v (.int .i64 0)), (24, .so (mkB t1)), (25, .io .i64 st)], []⟩ ?_
 refine zC noF_stable 39 [.io .i64 st, .v (.int .i64 10)] (.so (mkB (Lib.itoa st))) (fun _ _ w1 hi _ => fmt_any _ i1 w1 (tab_below htab hi.mem.below rfl)) ?_
 refine zM [20, 21, 24, 26] 0 ⟨pops B19 pAD4 3, [.block 1, .seq (sub B19 pAD5), .rounds (sub B19 pAD7) 19, .block 0, .seq (sub B19 pAD8)], [(20, .agg [.io .i64 st, .io .i64 en, .io .i64 nt, .io .i64 ct, .io .i64 sm, .io .i64 mn, .io .i64 mx]), (21, .v (.int .i64 0)), (24, .so (mkB t1)), (26, .so (mkB (Lib.itoa st)))], []⟩ ?_
 refine catW [32] (Lib.itoa st) 1 21 (by kernel_rfl) (by decide) hl0 (by decide) noF_stable fun t2 ht2 hn2 => ?_
 refine zM [20, 21, 24, 27] 0 ⟨pops B19 pAD4 4, [.block 1, .seq (sub B19 pAD5), .rounds (sub B19 pAD7) 19, .block 0, .seq (sub B19 pAD8)], [(20, .agg [.io .i64 st, .io .i64 en, .io .i64 nt, .io .i64 ct, .io .i64 sm, .io .i64 mn, .io .i64 mx]), (21, .v (.int .i64 0)), (24, .so (mkB t1)), (27, .so (mkB t2))], []⟩ ?_
 refine catW t1 t2 1031 22 (by kernel_rfl) hn1 hn2 (by decide) noF_stable fun t3 ht3 hn3 => ?_
 refine zM [20, 21, 24, 25] 0 ⟨pops B19 pAD4 2, [.block 1, .seq (sub B19 pAD5), .rounds (sub B19 pAD7) 18, .block 0, .seq (sub B19 pAD8)], [(20, .agg [.io .i64 st, .io .i64 en, .io .i64 nt, .io .i64 ct, .io .i64 sm, .io .i64 mn, .io .i64 mx]), (21, .v (.int .i64 1)), (24, .so (mkB t3)), (25, .io .i64 en)], []⟩ ?_
 refine zC noF_stable 39 [.io .i64 en, .v (.int .i64 10)] (.so (mkB (Lib.itoa en))) (fun _ _ w1 hi _ => fmt_any _ i2 w1 (tab_below htab hi.mem.below rfl)) ?_
 refine zM [20, 21, 24, 26] 0 ⟨pops B19 pAD4 3, [.block 1, .seq (sub B19 pAD5), .rounds (sub B19 pAD7) 18, .block 0, .seq (sub B19 pAD8)], [(20, .agg [.io .i64 st, .io .i64 en, .io .i64 nt, .io .i64 ct, .io .i64 sm, .io .i64 mn, .io .i64 mx]), (21, .v (.int .i64 1)), (24, .so (mkB t3)), (26, .so (mkB (Lib.itoa en)))], []⟩ ?_
 refine catW [32] (Lib.itoa en) 1 21 (by kernel_rfl) (by decide) hl1 (by decide) noF_stable fun t4 ht4 hn4 => ?_
 refine zM [20, 21, 24, 27] 0 ⟨pops B19 pAD4 4, [.block 1, .seq (sub B19 pAD5), .rounds (sub B19 pAD7) 18, .block 0, .seq (sub B19 pAD8)], [(20, .agg [.io .i64 st, .io .i64 en, .io .i64 nt, .io .i64 ct, .io .i64 sm, .io .i64 mn, .io .i64 mx]), (21, .v (.int .i64 1)), (24, .so (mkB t3)), (27, .so (mkB t4))], []⟩ ?_
 refine catW t3 t4 1053 22 (by kernel_rfl) hn3 hn4 (by decide) noF_stable fun t5 ht5 hn5 => ?_
 refine zM [20, 21, 24, 25] 0 ⟨pops B19 pAD4 2, [.block 1, .seq (sub B19 pAD5), .rounds (sub B19 pAD7) 17, .block 0, .seq (sub B19 pAD8)], [(20, .agg [.io .i64 st, .io .i64 en, .io .i64 nt, .io .i64 ct, .io .i64 sm, .io .i64 mn, .io .i64 mx]), (21, .v (.int .i64 2)), (24, .so (mkB t5)), (25, .io .i64 nt)], []⟩ ?_
 refine zC noF_stable 39 [.io .i64 nt, .v (.int .i64 10)] (.so (mkB (Lib.itoa nt))) (fun _ _ w1 hi _ => fmt_any _ i3 w1 (tab_below htab hi.mem.below rfl)) ?_
 refine zM [20, 21, 24, 26] 0 ⟨pops B19 pAD4 3, [.block 1, .seq (sub B19 pAD5), .rounds (sub B19 pAD7) 17, .block 0, .seq (sub B19 pAD8)], [(20, .agg [.io .i64 st, .io .i64 en, .io .i64 nt, .io .i64 ct, .io .i64 sm, .io .i64 mn, .io .i64 mx]), (21, .v (.int .i64 2)), (24, .so (mkB t5)), (26, .so (mkB (Lib.itoa nt)))], []⟩ ?_
 refine catW [32] (Lib.itoa nt) 1 21 (by kernel_rfl) (by decide) hl2 (by decide) noF_stable fun t6 ht6 hn6 => ?_
 refine zM [20, 21, 24, 27] 0 ⟨pops B19 pAD4 4, [.block 1, .seq (sub B19 pAD5), .rounds (sub B19 pAD7) 17, .block 0, .seq (sub B19 pAD8)], [(20, .agg [.io .i64 st, .io .i64 en, .io .i64 nt, .io .i64 ct, .io .i64 sm, .io .i64 mn, .io .i64 mx]), (21, .v (.int .i64 2)), (24, .so (mkB t5)), (27, .so (mkB t6))], []⟩ ?_
 refine catW t5 t6 1075 22 (by kernel_rfl) hn5 hn6 (by decide) noF_stable fun t7 ht7 hn7 => ?_
 refine zM [20, 21, 24, 25] 0 ⟨pops B19 pAD4 2, [.block 1, .seq (sub B19 pAD5), .rounds (sub B19 pAD7) 16, .block 0, .seq (sub B19 pAD8)], [(20, .agg [.io .i64 st, .io .i64 en, .io .i64 nt, .io .i64 ct, .io .i64 sm, .io .i64 mn, .io .i64 mx]), (21, .v (.int .i64 3)), (24, .so (mkB t7)), (25, .io .i64 ct)], []⟩ ?_
 refine zC noF_stable 39 [.io .i64 ct, .v (.int .i64 10)] (.so (mkB (Lib.itoa ct))) (fun _ _ w1 hi _ => fmt_any _ i4 w1 (tab_below htab hi.mem.below rfl)) ?_
 refine zM [20, 21, 24, 26] 0 ⟨pops B19 pAD4 3, [.block 1, .seq (sub B19 pAD5), .rounds (sub B19 pAD7) 16, .block 0, .seq (sub B19 pAD8)], [(20, .agg [.io .i64 st, .io .i64 en, .io .i64 nt, .io .i64 ct, .io .i64 sm, .io .i64 mn, .io .i64 mx]), (21, .v (.int .i64 3)), (24, .so (mkB t7)), (26, .so (mkB (Lib.itoa ct)))], []⟩ ?_
 refine catW [32] (Lib.itoa ct) 1 21 (by kernel_rfl) (by decide) hl3 (by decide) noF_stable fun t8 ht8 hn8 => ?_
 refine zM [20, 21, 24, 27] 0 ⟨pops B19 pAD4 4, [.block 1, .seq (sub B19 pAD5), .rounds (sub B19 pAD7) 16, .block 0, .seq (sub B19 pAD8)], [(20, .agg [.io .i64 st, .io .i64 en, .io .i64 nt, .io .i64 ct, .io .i64 sm, .io .i64 mn, .io .i64 mx]), (21, .v (.int .i64 3)), (24, .so (mkB t7)), (27, .so (mkB t8))], []⟩ ?_
 refine catW t7 t8 1097 22 (by kernel_rfl) hn7 hn8 (by decide) noF_stable fun t9 ht9 hn9 => ?_
 refine zM [20, 21, 24, 25] 0 ⟨pops B19 pAD4 2, [.block 1, .seq (sub B19 pAD5), .rounds (sub B19 pAD7) 15, .block 0, .seq (sub B19 pAD8)], [(20, .agg [.io .i64 st, .io .i64 en, .io .i64 nt, .io .i64 ct, .io .i64 sm, .io .i64 mn, .io .i64 mx]), (21, .v (.int .i64 4)), (24, .so (mkB t9)), (25, .io .i64 sm)], []⟩ ?_
 refine zC noF_stable 39 [.io .i64 sm, .v (.int .i64 10)] (.so (mkB (Lib.itoa sm))) (fun _ _ w1 hi _ => fmt_any _ i5 w1 (tab_below htab hi.mem.below rfl)) ?_
 refine zM [20, 21, 24, 26] 0 ⟨pops B19 pAD4 3, [.block 1, .seq (sub B19 pAD5), .rounds (sub B19 pAD7) 15, .block 0, .seq (sub B19 pAD8)], [(20, .agg [.io .i64 st, .io .i64 en, .io .i64 nt, .io .i64 ct, .io .i64 sm, .io .i64 mn, .io .i64 mx]), (21, .v (.int .i64 4)), (24, .so (mkB t9)), (26, .so (mkB (Lib.itoa sm)))], []⟩ ?_
 refine catW [32] (Lib.itoa sm) 1 21 (by kernel_rfl) (by decide) hl4 (by decide) noF_stable fun t10 ht10 hn10 => ?_
 refine zM [20, 21, 24, 27] 0 ⟨pops B19 pAD4 4, [.block 1, .seq (sub B19 pAD5), .rounds (sub B19 pAD7) 15, .block 0, .seq (sub B19 pAD8)], [(20, .agg [.io .i64 st, .io .i64 en, .io .i64 nt, .io .i64 ct, .io .i64 sm, .io .i64 mn, .io .i64 mx]), (21, .v (.int .i64 4)), (24, .so (mkB t9)), (27, .so (mkB t10))], []⟩ ?_
 refine catW t9 t10 1119 22 (by kernel_rfl) hn9 hn10 (by decide) noF_stable fun t11 ht11 hn11 => ?_
 refine zM [20, 21, 24, 25] 0 ⟨pops B19 pAD4 2, [.block 1, .seq (sub B19 pAD5), .rounds (sub B19 pAD7) 14, .block 0, .seq (sub B19 pAD8)], [(20, .agg [.io .i64 st, .io .i64 en, .io .i64 nt, .io .i64 ct, .io .i64 sm, .io .i64 mn, .io .i64 mx]), (21, .v (.int .i64 5)), (24, .so (mkB t11)), (25, .io .i64 mn)], []⟩ ?_
 refine zC noF_stable 39 [.io .i64 mn, .v (.int .i64 10)] (.so (mkB (Lib.itoa mn))) (fun _ _ w1 hi _ => fmt_any _ i6 w1 (tab_below htab hi.mem.below rfl)) ?_
 refine zM [20, 21, 24, 26] 0 ⟨pops B19 pAD4 3, [.block 1, .seq (sub B19 pAD5), .rounds (sub B19 pAD7) 14, .block 0, .seq (sub B19 pAD8)], [(20, .agg [.io .i64 st, .io .i64 en, .io .i64 nt, .io .i64 ct, .io .i64 sm, .io .i64 mn, .io .i64 mx]), (21, .v (.int .i64 5)), (24, .so (mkB t11)), (26, .so (mkB (Lib.itoa mn)))], []⟩ ?_
 refine catW [32] (Lib.itoa mn) 1 21 (by kernel_rfl) (by decide) hl5 (by decide) noF_stable fun t12 ht12 hn12 => ?_
 refine zM [20, 21, 24, 27] 0 ⟨pops B19 pAD4 4, [.block 1, .seq (sub B19 pAD5), .rounds (sub B19 pAD7) 14, .block 0, .seq (sub B19 pAD8)], [(20, .agg [.io .i64 st, .io .i64 en, .io .i64 nt, .io .i64 ct, .io .i64 sm, .io .i64 mn, .io .i64 mx]), (21, .v (.int .i64 5)), (24, .so (mkB t11)), (27, .so (mkB t12))], []⟩ ?_
 refine catW t11 t12 1141 22 (by kernel_rfl) hn11 hn12 (by decide) noF_stable fun t13 ht13 hn13 => ?_
 refine zM [20, 21, 24, 25] 0 ⟨pops B19 pAD4 2, [.block 1, .seq (sub B19 pAD5), .rounds (sub B19 pAD7) 13, .block 0, .seq (sub B19 pAD8)], [(20, .agg [.io .i64 st, .io .i64 en, .io .i64 nt, .io .i64 ct, .io .i64 sm, .io .i64 mn, .io .i64 mx]), (21, .v (.int .i64 6)), (24, .so (mkB t13)), (25, .io .i64 mx)], []⟩ ?_
 refine zC noF_stable 39 [.io .i64 mx, .v (.int .i64 10)] (.so (mkB (Lib.itoa mx))) (fun _ _ w1 hi _ => fmt_any _ i7 w1 (tab_below htab hi.mem.below rfl)) ?_
 refine zM [20, 21, 24, 26] 0 ⟨pops B19 pAD4 3, [.block 1, .seq (sub B19 pAD5), .rounds (sub B19 pAD7) 13, .block 0, .seq (sub B19 pAD8)], [(20, .agg [.io .i64 st, .io .i64 en, .io .i64 nt, .io .i64 ct, .io .i64 sm, .io .i64 mn, .io .i64 mx]), (21, .v (.int .i64 6)), (24, .so (mkB t13)), (26, .so (mkB (Lib.itoa mx)))], []⟩ ?_
 refine catW [32] (Lib.itoa mx) 1 21 (by kernel_rfl) (by decide) hl6 (by decide) noF_stable fun t14 ht14 hn14 => ?_
 refine zM [20, 21, 24, 27] 0 ⟨pops B19 pAD4 4, [.block 1, .seq (sub B19 pAD5), .rounds (sub B19 pAD7) 13, .block 0, .seq (sub B19 pAD8)], [(20, .agg [.io .i64 st, .io .i64 en, .io .i64 nt, .io .i64 ct, .io .i64 sm, .io .i64 mn, .io .i64 mx]), (21, .v (.int .i64 6)), (24, .so (mkB t13)), (27, .so (mkB t14))], []⟩ ?_
 refine catW t13 t14 1163 22 (by kernel_rfl) hn13 hn14 (by decide) noF_stable fun t15 ht15 hn15 => ?_
 refine zM [2, 3] 0 ⟨.exit .ret, [], [(2, .so (mkB t15)), (3, .v (.int .i64 0))], []⟩ ?_
 refine zE (.tup [.so (mkB t15), .v (.int .i64 0)]) ?_
 intro ρ w9 hm hf
 refine ⟨?_, hm.below⟩
 have e : t15 = lineB k st en 3 nt ct sm mn mx := by
  subst_vars
  simp only [lineB, List.flatMap_cons, List.flatMap_nil, List.append_assoc, List.nil_append, List.cons_append, List.append_nil]
  rfl
 rw [← e]
 rfl
end Go.Proofs.YtkjnbafdmjakgaaGreatDoor
end
