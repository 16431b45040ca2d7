import Derived.Test.YtiehnigbcfkcdaaGreatDoorPL
import Derived.Test.YtiehnigbcfkcdaaGreatDoorSxBB
set_option linter.unusedSimpArgs false
set_option linter.unusedVariables false
namespace Go.Proofs.YtiehnigbcfkcdaaGreatDoor
open Go.RowKit Go.Sx

def mkB (l : List UInt8) : ByteArray := ⟨l.toArray⟩
theorem extr (s : ByteArray) (a b : Nat) : s.extract a b = mkB ((s.data.toList.take b).drop a) := by
  have h := Lib.extract_data s a b
  have e : (s.extract a b).data = ((s.data.toList.take b).drop a).toArray := by
    rw [← Array.toList_inj, h]
    simp [List.drop_take]
  exact ByteArray.ext (by rw [e]; rfl)
theorem drop_w {α : Type} : ∀ {l : List α} {j : Nat} {b : α}, l[j]? = some b → l.drop j = b :: l.drop (j + 1)
  | [], j, b, h => by simp at h
  | x :: l, 0, b, h => by
    simp only [List.getElem?_cons_zero, Option.some.injEq] at h
    subst h
    rfl
  | x :: l, j + 1, b, h => by
    simp only [List.getElem?_cons_succ] at h
    simpa using drop_w h
theorem take_k {α : Type} : ∀ {l : List α} {j : Nat} {b : α}, l[j]? = some b → l.take (j + 1) = l.take j ++ [b] := fun {l j b} h => by
  rw [List.take_add_one, h]
  rfl
def sv (l : List (List UInt8)) : List Value := l.map fun x => Value.string (mkB x)
structure PtSt where
  i : Nat
  f : Nat
  A : Option Addr
  n : Nat
  c : Nat
  dn : List (List UInt8)
def frPt (s : ByteArray) : PtSt → Fr
  | ⟨i, f, A, n, c, dn⟩ => [(0, .so s), (3, .sl A n c), (4, .io .i64 (f : Int)), (5, .io .i64 (i : Int))]
def locPt : PtSt → Go.Sx.Loc
  | ⟨_, _, _, _, _, _⟩ => []
def GPt (w0 : World) (l : List UInt8) : PtSt → List Nat → World → Prop
  | ⟨i, f, A, n, c, dn⟩, ρ, w => RowF w0 (fun _ => False) [] w0.heap.size 9 1 A n c (sv dn) ρ w ∧ (f ≤ i ∧ i ≤ l.length ∧ n ≤ i ∧ dn ++ pcs ((l.take i).drop f) (l.drop i) = pcs [] l)
def muPt (n : Nat) : PtSt → Nat
  | ⟨i, _, _, _, _, _⟩ => n - i

noncomputable def B24 : Code := (Tryz.f24.body).getD .skip
set_option maxHeartbeats 4000000 in
set_option maxRecDepth 100000 in
theorem parts_any (s : ByteArray) (hs : s.size ≤ 1048576) (w : World) :
    Calls Tryz.prog 24 #[.string s] w fun e w' => ∃ A' n' c', e = .returned (.slice A' n' c') ∧ RowF w (fun _ => False) [] w.heap.size 9 1 A' n' c' (sv (pcs [] s.data.toList)) [] w' := by
  generalize hl : s.data.toList = l
  have hsz : s.size = l.length := by rw [← hl, Array.length_toList]; rfl
  refine enterF (N := w.heap.size) (F := RowF w (fun _ => False) [] w.heap.size 9 1 none 0 0 []) (fn := Tryz.f24) (c := B24) [.so s] Tryz.func24 rfl rfl (Nat.le_refl _) ⟨⟨⟨World.ownsRow_nil _ _ _ _, by simp [Value.ownBlock]⟩, Nat.le_refl _⟩, FrameR.start _ [] (by simp), by simp [Value.ownBlock]⟩ ?_
  refine At.toJ (RowF.stable) RowF.fewer 0 300 [0, 3, 4, 5] 0 ⟨.code (sub B24 [1, 1, 1, 0, 1, 4]), [.block 0, .seq (sub B24 [1, 1, 1, 1])], [(0, .so s), (3, .v (.slice none 0 0)), (4, .v (.int .i64 0)), (5, .v (.int .i64 0))], []⟩ (by kernel_rfl) (by kernel_rfl) ?_
  refine At.slFr _ rfl ?_
  refine At.canon _ rfl ?_
  refine At.loop (σ := PtSt) (sub B24 [1, 1, 1, 0, 1, 4, 4]) (frPt s) locPt (GPt w l) (muPt l.length) ⟨0, 0, none, 0, 0, []⟩ (by kernel_rfl) (by unfold subFr; kernel_rfl) (by kernel_rfl) (fun _ _ _ _ h => ⟨h, Nat.le_refl _, Nat.zero_le _, Nat.le_refl _, rfl⟩) ?_
  rintro ⟨i, f, A, n, c, dn⟩
  refine At.pure fun ⟨h1, h2, h3, h4⟩ => ?_
  refine At.toJ (RowF.stable) RowF.fewer 0 300 [0, 3, 4, 5, 9] 0 ⟨.code (sub B24 [1, 1, 1, 0, 1, 4, 4, 0, 1]), [.seq (sub B24 [1, 1, 1, 0, 1, 4, 4, 1]), .next (Sx.Next w.heap.size w Tryz.f24.ntmps (frPt s) locPt (GPt w l) (muPt l.length) (PtSt.mk i f A n c dn)), .block 0, .seq (sub B24 [1, 1, 1, 1])], [(0, .so s), (3, .sl A n c), (4, .io .i64 (↑f : Int)), (5, .io .i64 (↑i : Int)), (9, .bo (decide ((↑i : Int) < (↑s.size : Int))))], []⟩ (by kernel_rfl) (by kernel_rfl) ?_
  rcases Bool.eq_false_or_eq_true (decide ((↑i : Int) < (↑s.size : Int))) with b0 | b0
  · refine At.res 9 (decide ((↑i : Int) < (↑s.size : Int))) true (by kernel_rfl) b0 ?_
    refine At.toJ (RowF.stable) RowF.fewer 0 300 [0, 3, 4, 5, 12, 13] 0 ⟨pops B24 [1, 1, 1, 0, 1, 4, 4, 1, 0, 4, 0] 2, [.seq (sub B24 [1, 1, 1, 0, 1, 4, 4, 1, 0, 4, 1]), .block 1, .seq (sub B24 [1, 1, 1, 0, 1, 4, 4, 1, 1]), .next (Sx.Next w.heap.size w Tryz.f24.ntmps (frPt s) locPt (GPt w l) (muPt l.length) (PtSt.mk i f A n c dn)), .block 0, .seq (sub B24 [1, 1, 1, 1])], [(0, .so s), (3, .sl A n c), (4, .io .i64 (↑f : Int)), (5, .io .i64 (↑i : Int)), (12, .so s), (13, .io .i64 (↑i : Int))], []⟩ (by kernel_rfl) (by kernel_rfl) ?_
    have hi : i < l.length := by have := of_decide_eq_true b0; omega
    clear b0
    obtain ⟨b, hb⟩ : ∃ b, l[i]? = some b := ⟨_, List.getElem?_eq_getElem hi⟩
    refine At.six s (i : Int) b (by kernel_rfl) (by omega) (by rw [hl, Int.toNat_natCast]; exact hb) RowF.stable ?_
    refine At.toJ (RowF.stable) RowF.fewer 0 300 [0, 3, 4, 5, 15] 0 ⟨.code (sub B24 [1, 1, 1, 0, 1, 4, 4, 1, 0, 4, 1]), [.block 1, .seq (sub B24 [1, 1, 1, 0, 1, 4, 4, 1, 1]), .next (Sx.Next w.heap.size w Tryz.f24.ntmps (frPt s) locPt (GPt w l) (muPt l.length) (PtSt.mk i f A n c dn)), .block 0, .seq (sub B24 [1, 1, 1, 1])], [(0, .so s), (3, .sl A n c), (4, .io .i64 (↑f : Int)), (5, .io .i64 (↑i : Int)), (15, .bo ((↑b.toNat : Int) == 32))], []⟩ (by kernel_rfl) (by kernel_rfl) ?_
    rcases Bool.eq_false_or_eq_true ((↑b.toNat : Int) == 32) with b0 | b0
    · refine At.res 15 ((↑b.toNat : Int) == 32) true (by kernel_rfl) b0 ?_
      refine At.toJ (RowF.stable) RowF.fewer 0 300 [0, 5, 16, 17, 18, 19] 0 ⟨pops B24 [1, 1, 1, 0, 1, 4, 4, 1, 0, 4, 1, 2, 0] 4, [.seq (sub B24 [1, 1, 1, 0, 1, 4, 4, 1, 0, 4, 1, 2, 1]), .block 1, .seq (sub B24 [1, 1, 1, 0, 1, 4, 4, 1, 1]), .next (Sx.Next w.heap.size w Tryz.f24.ntmps (frPt s) locPt (GPt w l) (muPt l.length) (PtSt.mk i f A n c dn)), .block 0, .seq (sub B24 [1, 1, 1, 1])], [(0, .so s), (5, .io .i64 (↑i : Int)), (16, .sl A n c), (17, .so s), (18, .io .i64 (↑f : Int)), (19, .io .i64 (↑i : Int))], []⟩ (by kernel_rfl) (by kernel_rfl) ?_
      refine At.ssl s (f : Int) (some (i : Int)) (by kernel_rfl) (by omega) (by simp only [Option.getD_some]; omega) (by simp only [Option.getD_some]; omega) RowF.stable ?_
      rw [extr, Option.getD_some, Int.toNat_natCast, Int.toNat_natCast, hl]
      generalize hcur : (l.take i).drop f = cur
      refine At.toJ (RowF.stable) RowF.fewer 0 300 [0, 5, 16, 21] 1 ⟨pops B24 [1, 1, 1, 0, 1, 4, 4, 1, 0, 4, 1, 2, 0] 6, [.seq (sub B24 [1, 1, 1, 0, 1, 4, 4, 1, 0, 4, 1, 2, 1]), .block 1, .seq (sub B24 [1, 1, 1, 0, 1, 4, 4, 1, 1]), .next (Sx.Next w.heap.size w Tryz.f24.ntmps (frPt s) locPt (GPt w l) (muPt l.length) (PtSt.mk i f A n c dn)), .block 0, .seq (sub B24 [1, 1, 1, 1])], [(0, .so s), (5, .io .i64 (↑i : Int)), (16, .sl A n c), (21, .ls 0 0 1 1)], [([.so (mkB cur)], 9)]⟩ (by kernel_rfl) (by kernel_rfl) ?_
      refine At.app (48) (9) (1) (16) (A) (n) (c) (1) ([.so (mkB cur)]) _ _ _ _ ([.string (mkB cur)]) (by kernel_rfl) (fun ρ => by kernel_rfl) (by first | omega | (simp only [Go.maxLen]; omega)) (by first | omega | (simp only [Go.maxLen]; omega)) (by first | omega | (simp only [Go.maxLen]; omega)) fun A0 c0 => ?_
      refine At.toJ (RowF.stable) RowF.fewer 0 300 [0, 3, 4, 5] 0 ⟨.exit .normal, [.next (Sx.Next w.heap.size w Tryz.f24.ntmps (frPt s) locPt (GPt w l) (muPt l.length) (PtSt.mk i f A n c dn)), .block 0, .seq (sub B24 [1, 1, 1, 1])], [(0, .so s), (3, .sl A0 (n + 1) c0), (4, .io .i64 (IntKind.i64.wrap ((↑i : Int) + 1))), (5, .io .i64 (IntKind.i64.wrap ((↑i : Int) + 1)))], []⟩ (by kernel_rfl) (by kernel_rfl) ?_
      have hbn : b = 32 := by
        have h := beq_iff_eq.1 b0
        have h' : b.toNat = 32 := by omega
        exact UInt8.toNat_inj.1 h'
      have hw2 : IntKind.i64.wrap ((i : Int) + 1) = ((i + 1 : Nat) : Int) := by
        rw [wrap63 (by omega) (by omega)]
        omega
      rw [hw2]
      refine At.next (σ := PtSt) ⟨i + 1, i + 1, A0, n + 1, c0, dn ++ [cur]⟩ rfl rfl (by unfold subFr; kernel_rfl) (by kernel_rfl) ?_ ?_
      · intro ρ a w' hi' hf
        refine ⟨?_, by omega, by omega, by omega, ?_⟩
        · simpa [sv] using hf
        · rw [drop_w hb, hbn, pcs, if_pos rfl, hcur] at h4
          have hd : (l.take (i + 1)).drop (i + 1) = [] := List.drop_eq_nil_of_le (by rw [List.length_take]; omega)
          rw [hd, ← h4]
          simp
      · simp only [muPt]
        omega
    · refine At.res 15 ((↑b.toNat : Int) == 32) false (by kernel_rfl) b0 ?_
      refine At.toJ (RowF.stable) RowF.fewer 0 300 [0, 3, 4, 5] 0 ⟨.exit .normal, [.next (Sx.Next w.heap.size w Tryz.f24.ntmps (frPt s) locPt (GPt w l) (muPt l.length) (PtSt.mk i f A n c dn)), .block 0, .seq (sub B24 [1, 1, 1, 1])], [(0, .so s), (3, .sl A n c), (4, .io .i64 (↑f : Int)), (5, .io .i64 (IntKind.i64.wrap ((↑i : Int) + 1)))], []⟩ (by kernel_rfl) (by kernel_rfl) ?_
      have hbn : b ≠ 32 := fun h => by subst h; simp at b0
      have hw2 : IntKind.i64.wrap ((i : Int) + 1) = ((i + 1 : Nat) : Int) := by
        rw [wrap63 (by omega) (by omega)]
        omega
      rw [hw2]
      refine At.next (σ := PtSt) ⟨i + 1, f, A, n, c, dn⟩ rfl rfl (by unfold subFr; kernel_rfl) (by kernel_rfl) ?_ ?_
      · intro ρ a w' hi' hf
        refine ⟨hf, by omega, by omega, by omega, ?_⟩
        rw [drop_w hb, pcs, if_neg hbn] at h4
        rw [take_k hb, List.drop_append_of_le_length (by rw [List.length_take]; omega)]
        exact h4
      · simp only [muPt]
        omega
  · refine At.res 9 (decide ((↑i : Int) < (↑s.size : Int))) false (by kernel_rfl) b0 ?_
    refine At.toJ (RowF.stable) RowF.fewer 0 300 [25, 26, 27] 0 ⟨pops B24 [1, 1, 1, 1, 0] 3, [.seq (sub B24 [1, 1, 1, 1, 1])], [(25, .sl A n c), (26, .so s), (27, .io .i64 (↑f : Int))], []⟩ (by kernel_rfl) (by kernel_rfl) ?_
    have hi : i = l.length := by have := of_decide_eq_false b0; omega
    clear b0
    refine At.ssl s (f : Int) none (by kernel_rfl) (by omega) (by simp only [Option.getD_none]; omega) (by simp only [Option.getD_none]; omega) RowF.stable ?_
    rw [extr, Option.getD_none, Int.toNat_natCast, Int.toNat_natCast, hl, hsz]
    generalize hcur : (l.take l.length).drop f = cur
    refine At.toJ (RowF.stable) RowF.fewer 0 300 [25, 29] 1 ⟨pops B24 [1, 1, 1, 1, 0] 5, [.seq (sub B24 [1, 1, 1, 1, 1])], [(25, .sl A n c), (29, .ls 0 0 1 1)], [([.so (mkB cur)], 9)]⟩ (by kernel_rfl) (by kernel_rfl) ?_
    refine At.app (48) (9) (1) (16) (A) (n) (c) (1) ([.so (mkB cur)]) _ _ _ _ ([.string (mkB cur)]) (by kernel_rfl) (fun ρ => by kernel_rfl) (by first | omega | (simp only [Go.maxLen]; omega)) (by first | omega | (simp only [Go.maxLen]; omega)) (by first | omega | (simp only [Go.maxLen]; omega)) fun A0 c0 => ?_
    refine At.toJ (RowF.stable) RowF.fewer 0 300 [2] 0 ⟨.exit .ret, [], [(2, .sl A0 (n + 1) c0)], []⟩ (by kernel_rfl) (by kernel_rfl) ?_
    refine At.ret (by kernel_rfl) (.sl A0 (n + 1) c0) (by kernel_rfl) ?_
    intro ρ w9 hm hf
    refine ⟨_, _, _, rfl, ?_⟩
    have e : dn ++ [cur] = pcs [] l := by
      rw [← h4, hi, List.drop_length, hcur]
      rfl
    rw [← e]
    have := RowF.fewer _ _ 0 (Nat.zero_le _) hf
    simpa [sv] using this

end Go.Proofs.YtiehnigbcfkcdaaGreatDoor
