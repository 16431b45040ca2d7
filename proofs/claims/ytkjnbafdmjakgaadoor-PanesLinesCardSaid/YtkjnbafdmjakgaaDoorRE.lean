import Derived.Test.YtkjnbafdmjakgaaDoorRD
set_option linter.unusedSimpArgs false
set_option linter.unusedVariables false
namespace Go.Proofs.YtkjnbafdmjakgaaDoor
open Go.RowKit Go.Sx

theorem rowE_some {w0 : World} {ok : Nat → Prop} {ρ0 : List Nat} {base e n c : Nat} {A : Option Addr} {xs : List Value} {L : List (Option Addr × List Value)} {ρ : List Nat} {w : World} (h : RowE w0 ok ρ0 base e 1 A n c xs L ρ w) (hn : 0 < n) : ∃ a, A = some a := by
  rcases h.1.1.1.1.2 with ⟨h', h2⟩ | ⟨g, cap, cur, hv, _⟩
  · omega
  · injection hv with hv _ _
    exact ⟨_, hv⟩
theorem rowE_cell {w0 : World} {ok : Nat → Prop} {ρ0 : List Nat} {base e n c j : Nat} {a : Addr} {xs : List Value} {L : List (Option Addr × List Value)} {ρ : List Nat} {w : World} {v : Value} (h : RowE w0 ok ρ0 base e 1 (some a) n c xs L ρ w) (hj : xs[j]? = some v) : w.cell? (a.add j) = some v := by
  have hlen := h.1.1.1.1.1
  have hj' := (List.getElem?_eq_some_iff.1 hj).1
  obtain ⟨g, hg, hc⟩ := h.1.1.1.cell (j := j) (by omega)
  injection hg with hg
  subst hg
  rw [add_ok, Nat.zero_add, hc, hj]
theorem one_of {s : List UInt8} {i : Nat} {y : UInt8} (h : s[i]? = some y) : (mkB s).extract ((i : Nat) : Int).toNat ((some ((i + 1 : Nat) : Int)).getD (mkB s).size).toNat = mkB [y] := by
  rw [Option.getD_some, Int.toNat_natCast, Int.toNat_natCast]
  apply ByteArray.ext
  rw [ByteArray.data_extract]
  apply Array.ext'
  simp only [mkB, Array.toList_extract, List.extract_eq_take_drop]
  rw [show i + 1 - i = 1 by omega, drop_at h]
  rfl
structure PSt where
  A : Option Addr
  n : Nat
  c : Nat
  ds : List (List UInt8)
  cur : List UInt8
  i : Nat
def sv (x : List UInt8) : Value := .string (mkB x)
theorem set_last (ds : List (List UInt8)) (x y : List UInt8) : ((ds ++ [x]).map sv).set ds.length (sv y) = (ds ++ [y]).map sv := by
  simp
def frPS (s : List UInt8) : PSt → Fr
  | ⟨A, n, c, _, _, i⟩ => [(0, .so (mkB s)), (3, .sl A n c), (4, .io .i64 (i : Int))]
def locPS (_ : PSt) : Sx.Loc := []
def muPS (s : List UInt8) (x : PSt) : Nat := s.length - x.i
def GPS (w0 : World) (s : List UInt8) (R : List (List UInt8)) (x : PSt) (ρ : List Nat) (w : World) : Prop :=
  RowE w0 (fun _ => False) [] w0.heap.size 9 1 x.A x.n x.c ((x.ds ++ [x.cur]).map sv) [] ρ w ∧ (x.ds ++ pcs x.cur (s.drop x.i) = R ∧ x.i ≤ s.length ∧ x.n = x.ds.length + 1 ∧ x.ds.length + x.cur.length ≤ x.i ∧ ∃ a, x.A = some a)

noncomputable def B35 : Code := (Tryd.f35.body).getD .skip
set_option maxHeartbeats 20000000 in
set_option maxRecDepth 100000 in
theorem parts_any (s : List UInt8) (hs : s.length ≤ 1048576) (w : World) :
    Calls Tryd.prog 35 #[.string (mkB s)] w fun e w' => ∃ A n c, e = .returned (.slice A n c) ∧ RowF w (fun _ => False) [] w.heap.size 9 1 A n c ((pcs [] s).map sv) [] w' := by
  refine enter (fn := Tryd.f35) (c := B35) [.so (mkB s)] Tryd.func35 rfl rfl ?_
  refine At.to (noF_stable) (noF_fewer) 0 300 [0, 3, 4] 1 ⟨.code (sub B35 [1, 1, 0, 1, 4]), [.block 0, .seq (sub B35 [1, 1, 1])], [(0, .so (mkB s)), (3, .ls 0 0 1 1), (4, .v (.int .i64 0))], [([.v (.string (ByteArray.mk #[]))], 9)]⟩ (by kernel_rfl) (by kernel_rfl) ?_
  refine At.lsRow1 3 [0, 4] 0 1 9 1 [.v (.string (ByteArray.mk #[]))] [.string ⟨#[]⟩] rfl rfl rfl rfl rfl (by decide) (fun _ => rfl) (by kernel_rfl) ?_
  intro A
  refine At.mono (F' := RowE w (fun _ => False) [] w.heap.size 9 1 A 1 1 [.string ⟨#[]⟩] []) (fun ρ w1 h => ⟨h, by simp⟩) ?_
  generalize hR : pcs [] s = R
  refine At.canon _ rfl ?_
  refine At.loop (σ := PSt) (sub B35 [1, 1, 0, 1, 4, 4]) (frPS s) locPS (GPS w s R) (muPS s) ⟨A, 1, 1, [], [], 0⟩ (by kernel_rfl) (by unfold subFr; kernel_rfl) (by kernel_rfl) (fun _ _ _ _ h => ⟨h, by simpa using hR, Nat.zero_le _, rfl, by simp, rowE_some h (by decide)⟩) ?_
  clear hR
  rintro ⟨A, n, c, ds, cur, i⟩
  refine At.pure fun ⟨h1, h2, h3, h4, h5⟩ => ?_
  simp only at h1 h2 h3 h4 h5
  refine At.toJ (RowE.stable) RowE.fewer 0 300 [0, 3, 4, 9] 0 ⟨.code (sub B35 [1, 1, 0, 1, 4, 4, 0, 1]), [.seq (sub B35 [1, 1, 0, 1, 4, 4, 1]), .next (Sx.Next w.heap.size w Tryd.f35.ntmps (frPS s) locPS (GPS w s R) (muPS s) (PSt.mk A n c ds cur i)), .block 0, .seq (sub B35 [1, 1, 1])], [(0, .so (mkB s)), (3, .sl A n c), (4, .io .i64 (↑i : Int)), (9, .bo (decide ((↑i : Int) < (↑(mkB s).size : Int))))], []⟩ (by kernel_rfl) (by kernel_rfl) ?_
  rcases Bool.eq_false_or_eq_true (decide ((↑i : Int) < (↑(mkB s).size : Int))) with b0 | b0
  · refine At.res 9 (decide ((↑i : Int) < (↑(mkB s).size : Int))) true (by kernel_rfl) b0 ?_
    refine At.toJ (RowE.stable) RowE.fewer 0 300 [0, 3, 4, 12, 13] 0 ⟨pops B35 [1, 1, 0, 1, 4, 4, 1, 0, 4, 0, 0] 2, [.seq (sub B35 [1, 1, 0, 1, 4, 4, 1, 0, 4, 0, 1]), .seq (sub B35 [1, 1, 0, 1, 4, 4, 1, 0, 4, 1]), .block 1, .seq (sub B35 [1, 1, 0, 1, 4, 4, 1, 1]), .next (Sx.Next w.heap.size w Tryd.f35.ntmps (frPS s) locPS (GPS w s R) (muPS s) (PSt.mk A n c ds cur i)), .block 0, .seq (sub B35 [1, 1, 1])], [(0, .so (mkB s)), (3, .sl A n c), (4, .io .i64 (↑i : Int)), (12, .so (mkB s)), (13, .io .i64 (↑i : Int))], []⟩ (by kernel_rfl) (by kernel_rfl) ?_
    have hi : i < s.length := by have := of_decide_eq_true b0; rw [mkB_size] at this; omega
    clear b0
    obtain ⟨y, hz⟩ : ∃ y, s[i]? = some y := ⟨_, List.getElem?_eq_getElem hi⟩
    have hy := y.toNat_lt
    rw [drop_at hz] at h1
    refine At.six (mkB s) (i : Int) y (by kernel_rfl) (by omega) (by rw [Int.toNat_natCast]; exact hz) RowE.stable ?_
    refine At.toJ (RowE.stable) RowE.fewer 0 300 [0, 3, 4, 15] 0 ⟨.code (sub B35 [1, 1, 0, 1, 4, 4, 1, 0, 4, 0, 1]), [.seq (sub B35 [1, 1, 0, 1, 4, 4, 1, 0, 4, 1]), .block 1, .seq (sub B35 [1, 1, 0, 1, 4, 4, 1, 1]), .next (Sx.Next w.heap.size w Tryd.f35.ntmps (frPS s) locPS (GPS w s R) (muPS s) (PSt.mk A n c ds cur i)), .block 0, .seq (sub B35 [1, 1, 1])], [(0, .so (mkB s)), (3, .sl A n c), (4, .io .i64 (↑i : Int)), (15, .bo ((↑y.toNat : Int) == 32))], []⟩ (by kernel_rfl) (by kernel_rfl) ?_
    rcases Bool.eq_false_or_eq_true ((↑y.toNat : Int) == 32) with b0 | b0
    · refine At.res 15 ((↑y.toNat : Int) == 32) true (by kernel_rfl) b0 ?_
      refine At.toJ (RowE.stable) RowE.fewer 0 300 [0, 4, 16, 17] 1 ⟨pops B35 [1, 1, 0, 1, 4, 4, 1, 0, 4, 0, 1, 2, 0] 2, [.seq (sub B35 [1, 1, 0, 1, 4, 4, 1, 0, 4, 0, 1, 2, 1]), .seq (sub B35 [1, 1, 0, 1, 4, 4, 1, 0, 4, 1]), .block 1, .seq (sub B35 [1, 1, 0, 1, 4, 4, 1, 1]), .next (Sx.Next w.heap.size w Tryd.f35.ntmps (frPS s) locPS (GPS w s R) (muPS s) (PSt.mk A n c ds cur i)), .block 0, .seq (sub B35 [1, 1, 1])], [(0, .so (mkB s)), (4, .io .i64 (↑i : Int)), (16, .sl A n c), (17, .ls 0 0 1 1)], [([.v (.string (ByteArray.mk #[]))], 9)]⟩ (by kernel_rfl) (by kernel_rfl) ?_
      refine At.appE (61) (9) (1) (16) (A) (n) (c) (1) ([.v (.string (ByteArray.mk #[]))]) _ _ _ _ ([.string (ByteArray.mk #[])]) _ (by kernel_rfl) (fun ρ => by kernel_rfl) (by first | omega | (simp only [Go.maxLen]; omega)) (by first | omega | (simp only [Go.maxLen]; omega)) (by first | omega | (simp only [Go.maxLen]; omega)) fun A1 c1 => ?_
      refine At.toJ (RowE.stable) RowE.fewer 0 300 [0, 3, 4] 0 ⟨.exit .normal, [.next (Sx.Next w.heap.size w Tryd.f35.ntmps (frPS s) locPS (GPS w s R) (muPS s) (PSt.mk A n c ds cur i)), .block 0, .seq (sub B35 [1, 1, 1])], [(0, .so (mkB s)), (3, .sl A1 (n + 1) c1), (4, .io .i64 (IntKind.i64.wrap ((↑i : Int) + 1)))], []⟩ (by kernel_rfl) (by kernel_rfl) ?_
      have e32 : y = 32 := UInt8.toNat_inj.1 (by simp at b0; show y.toNat = 32; omega)
      subst e32
      rw [show pcs cur (32 :: s.drop (i + 1)) = cur :: pcs [] (s.drop (i + 1)) from if_pos rfl] at h1
      have hw3 : IntKind.i64.wrap ((i : Int) + 1) = ((i + 1 : Nat) : Int) := by
        rw [wrap63 (by omega) (by omega)]
        omega
      rw [hw3]
      refine At.next (σ := PSt) ⟨A1, n + 1, c1, ds ++ [cur], [], i + 1⟩ rfl rfl (by unfold subFr; kernel_rfl) (by kernel_rfl) ?_ ?_
      · intro ρ a' w' hi' hf
        exact ⟨by rw [List.map_append (l₁ := ds ++ [cur])]; exact hf, by rw [← h1]; simp, by simp only; omega, by simp only [List.length_append, List.length_singleton]; omega, by simp only [List.length_append, List.length_singleton, List.length_nil]; omega, rowE_some hf (by omega)⟩
      · simp only [muPS]
        omega
    · refine At.res 15 ((↑y.toNat : Int) == 32) false (by kernel_rfl) b0 ?_
      refine At.toJ (RowE.stable) RowE.fewer 0 300 [0, 3, 4, 19, 22, 23, 26] 0 ⟨.qops (opsOf (sub B35 [1, 1, 0, 1, 4, 4, 1, 0, 4, 1])) (((opsOf (sub B35 [1, 1, 0, 1, 4, 4, 1, 0, 4, 1])).toList.take 17).drop 8), [.tail (opsOf (sub B35 [1, 1, 0, 1, 4, 4, 1, 0, 4, 1])) ((opsOf (sub B35 [1, 1, 0, 1, 4, 4, 1, 0, 4, 1])).toList.drop 17), .block 1, .seq (sub B35 [1, 1, 0, 1, 4, 4, 1, 1]), .next (Sx.Next w.heap.size w Tryd.f35.ntmps (frPS s) locPS (GPS w s R) (muPS s) (PSt.mk A n c ds cur i)), .block 0, .seq (sub B35 [1, 1, 1])], [(0, .so (mkB s)), (3, .sl A n c), (4, .io .i64 (↑i : Int)), (19, .sl A n c), (22, .io .i64 (IntKind.i64.wrap ((↑n : Int) - 1))), (23, .sl A n c), (26, .io .i64 (IntKind.i64.wrap ((↑n : Int) - 1)))], []⟩ (by kernel_rfl) (by kernel_rfl) ?_
      have n32 : y ≠ 32 := fun e => by subst e; exact absurd b0 (by decide)
      clear b0
      rw [show pcs cur (y :: s.drop (i + 1)) = pcs (cur ++ [y]) (s.drop (i + 1)) from if_neg n32] at h1
      obtain ⟨a, rfl⟩ := h5
      have hwn : IntKind.i64.wrap ((n : Int) - 1) = ((ds.length : Nat) : Int) := by
        rw [wrap63 (by omega) (by omega)]
        omega
      rw [hwn]
      refine At.idx a n 1 (ds.length : Int) (by kernel_rfl) (by omega) (by omega) RowE.stable ?_
      refine At.toJ (RowE.stable) RowE.fewer 0 300 [0, 3, 4, 19, 22, 27] 0 ⟨.qops (opsOf (sub B35 [1, 1, 0, 1, 4, 4, 1, 0, 4, 1])) (((opsOf (sub B35 [1, 1, 0, 1, 4, 4, 1, 0, 4, 1])).toList.take 17).drop 9), [.tail (opsOf (sub B35 [1, 1, 0, 1, 4, 4, 1, 0, 4, 1])) ((opsOf (sub B35 [1, 1, 0, 1, 4, 4, 1, 0, 4, 1])).toList.drop 17), .block 1, .seq (sub B35 [1, 1, 0, 1, 4, 4, 1, 1]), .next (Sx.Next w.heap.size w Tryd.f35.ntmps (frPS s) locPS (GPS w s R) (muPS s) (PSt.mk (some a) n c ds cur i)), .block 0, .seq (sub B35 [1, 1, 1])], [(0, .so (mkB s)), (3, .sl (some a) n c), (4, .io .i64 (↑i : Int)), (19, .sl (some a) n c), (22, .io .i64 (↑ds.length : Int)), (27, .v (.pointer (some (a.add ((↑ds.length : Int).toNat * 1)))))], []⟩ (by kernel_rfl) (by kernel_rfl) ?_
      refine At.ldx (a.add (((ds.length : Nat) : Int).toNat * 1)) (.so (mkB cur)) (by kernel_rfl) RowE.stable (fun ρ w1 hm' hf => by rw [Int.toNat_natCast, Nat.mul_one]; exact rowE_cell hf (by simp [sv]; rfl)) ?_
      refine At.toJ (RowE.stable) RowE.fewer 0 300 [0, 3, 4, 19, 22, 28, 29, 30, 32] 0 ⟨.qops (opsOf (sub B35 [1, 1, 0, 1, 4, 4, 1, 0, 4, 1])) (((opsOf (sub B35 [1, 1, 0, 1, 4, 4, 1, 0, 4, 1])).toList.take 17).drop 14), [.tail (opsOf (sub B35 [1, 1, 0, 1, 4, 4, 1, 0, 4, 1])) ((opsOf (sub B35 [1, 1, 0, 1, 4, 4, 1, 0, 4, 1])).toList.drop 17), .block 1, .seq (sub B35 [1, 1, 0, 1, 4, 4, 1, 1]), .next (Sx.Next w.heap.size w Tryd.f35.ntmps (frPS s) locPS (GPS w s R) (muPS s) (PSt.mk (some a) n c ds cur i)), .block 0, .seq (sub B35 [1, 1, 1])], [(0, .so (mkB s)), (3, .sl (some a) n c), (4, .io .i64 (↑i : Int)), (19, .sl (some a) n c), (22, .io .i64 (↑ds.length : Int)), (28, .so (mkB cur)), (29, .so (mkB s)), (30, .io .i64 (↑i : Int)), (32, .io .i64 (IntKind.i64.wrap ((↑i : Int) + 1)))], []⟩ (by kernel_rfl) (by kernel_rfl) ?_
      have hw1 : IntKind.i64.wrap ((i : Int) + 1) = ((i + 1 : Nat) : Int) := by
        rw [wrap63 (by omega) (by omega)]
        omega
      rw [hw1]
      refine At.ssl (mkB s) (i : Int) (some ((i + 1 : Nat) : Int)) (by kernel_rfl) (by omega) (by rw [Option.getD_some]; omega) (by rw [Option.getD_some, mkB_size]; omega) RowE.stable ?_
      rw [one_of hz]
      refine At.toJ (RowE.stable) RowE.fewer 0 300 [0, 3, 4, 19, 22, 28, 33] 0 ⟨.qops (opsOf (sub B35 [1, 1, 0, 1, 4, 4, 1, 0, 4, 1])) (((opsOf (sub B35 [1, 1, 0, 1, 4, 4, 1, 0, 4, 1])).toList.take 17).drop 15), [.tail (opsOf (sub B35 [1, 1, 0, 1, 4, 4, 1, 0, 4, 1])) ((opsOf (sub B35 [1, 1, 0, 1, 4, 4, 1, 0, 4, 1])).toList.drop 17), .block 1, .seq (sub B35 [1, 1, 0, 1, 4, 4, 1, 1]), .next (Sx.Next w.heap.size w Tryd.f35.ntmps (frPS s) locPS (GPS w s R) (muPS s) (PSt.mk (some a) n c ds cur i)), .block 0, .seq (sub B35 [1, 1, 1])], [(0, .so (mkB s)), (3, .sl (some a) n c), (4, .io .i64 (↑i : Int)), (19, .sl (some a) n c), (22, .io .i64 (↑ds.length : Int)), (28, .so (mkB cur)), (33, .so (mkB [y]))], []⟩ (by kernel_rfl) (by kernel_rfl) ?_
      refine At.cat (mkB cur) (mkB [y]) (by kernel_rfl) (by rw [mkB_size, mkB_size]; simp only [List.length_singleton]; omega) RowE.stable ?_
      rw [mkB_app]
      refine At.toJ (RowE.stable) RowE.fewer 0 300 [0, 3, 4, 19, 22, 34] 0 ⟨.qops (opsOf (sub B35 [1, 1, 0, 1, 4, 4, 1, 0, 4, 1])) (((opsOf (sub B35 [1, 1, 0, 1, 4, 4, 1, 0, 4, 1])).toList.take 17).drop 16), [.tail (opsOf (sub B35 [1, 1, 0, 1, 4, 4, 1, 0, 4, 1])) ((opsOf (sub B35 [1, 1, 0, 1, 4, 4, 1, 0, 4, 1])).toList.drop 17), .block 1, .seq (sub B35 [1, 1, 0, 1, 4, 4, 1, 1]), .next (Sx.Next w.heap.size w Tryd.f35.ntmps (frPS s) locPS (GPS w s R) (muPS s) (PSt.mk (some a) n c ds cur i)), .block 0, .seq (sub B35 [1, 1, 1])], [(0, .so (mkB s)), (3, .sl (some a) n c), (4, .io .i64 (↑i : Int)), (19, .sl (some a) n c), (22, .io .i64 (↑ds.length : Int)), (34, .so (mkB (cur ++ [y])))], []⟩ (by kernel_rfl) (by kernel_rfl) ?_
      refine At.idx a n 1 (ds.length : Int) (by kernel_rfl) (by omega) (by omega) RowE.stable ?_
      refine At.toJ (RowE.stable) RowE.fewer 0 300 [0, 3, 4, 34, 35] 0 ⟨pops B35 [1, 1, 0, 1, 4, 4, 1, 0, 4, 1] 17, [.block 1, .seq (sub B35 [1, 1, 0, 1, 4, 4, 1, 1]), .next (Sx.Next w.heap.size w Tryd.f35.ntmps (frPS s) locPS (GPS w s R) (muPS s) (PSt.mk (some a) n c ds cur i)), .block 0, .seq (sub B35 [1, 1, 1])], [(0, .so (mkB s)), (3, .sl (some a) n c), (4, .io .i64 (↑i : Int)), (34, .so (mkB (cur ++ [y]))), (35, .v (.pointer (some (a.add ((↑ds.length : Int).toNat * 1)))))], []⟩ (by kernel_rfl) (by kernel_rfl) ?_
      refine At.stRow ds.length (a.add (((ds.length : Nat) : Int).toNat * 1)) (.so (mkB (cur ++ [y]))) (sv (cur ++ [y])) (by kernel_rfl) (by rw [Int.toNat_natCast, Nat.mul_one]) (show ds.length < n by omega) (fun _ => rfl) (Nat.le_refl _) ?_
      refine At.toJ (RowE.stable) RowE.fewer 0 300 [0, 3, 4] 0 ⟨.exit .normal, [.next (Sx.Next w.heap.size w Tryd.f35.ntmps (frPS s) locPS (GPS w s R) (muPS s) (PSt.mk (some a) n c ds cur i)), .block 0, .seq (sub B35 [1, 1, 1])], [(0, .so (mkB s)), (3, .sl (some a) n c), (4, .io .i64 (IntKind.i64.wrap ((↑i : Int) + 1)))], []⟩ (by kernel_rfl) (by kernel_rfl) ?_
      have hw3 : IntKind.i64.wrap ((i : Int) + 1) = ((i + 1 : Nat) : Int) := by
        rw [wrap63 (by omega) (by omega)]
        omega
      rw [hw3]
      refine At.next (σ := PSt) ⟨some a, n, c, ds, cur ++ [y], i + 1⟩ rfl rfl (by unfold subFr; kernel_rfl) (by kernel_rfl) ?_ ?_
      · intro ρ a' w' hi' hf
        exact ⟨by rw [set_last] at hf; exact hf, by rw [← h1], by simp only; omega, by simp only; omega, by simp only [List.length_append, List.length_singleton]; omega, ⟨a, rfl⟩⟩
      · simp only [muPS]
        omega
  · refine At.res 9 (decide ((↑i : Int) < (↑(mkB s).size : Int))) false (by kernel_rfl) b0 ?_
    refine At.toJ (RowE.stable) RowE.fewer 0 300 [2] 0 ⟨.exit .ret, [], [(2, .sl A n c)], []⟩ (by kernel_rfl) (by kernel_rfl) ?_
    refine At.ret (by kernel_rfl) (.sl A n c) (by kernel_rfl) ?_
    have hi : ¬ (i : Int) < ((mkB s).size : Int) := of_decide_eq_false b0
    rw [mkB_size] at hi
    have hd : s.drop i = [] := List.drop_eq_nil_of_le (by omega)
    rw [hd, show pcs cur [] = [cur] from rfl] at h1
    subst h1
    intro ρ w9 hm' hf
    exact ⟨A, n, c, rfl, RowF.fewer _ _ 0 (Nat.zero_le _) hf.1⟩

end Go.Proofs.YtkjnbafdmjakgaaDoor
