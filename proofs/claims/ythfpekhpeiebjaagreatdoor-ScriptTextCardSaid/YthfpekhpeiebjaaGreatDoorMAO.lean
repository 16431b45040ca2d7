/- Joined texts: TX, RT, AI, PT, RX, AJ. -/
import Derived.Test.YthfpekhpeiebjaaGreatDoorMAN
set_option linter.unusedSimpArgs false
set_option linter.unusedVariables false
namespace Go.Sx
open Go
def cfAO (g s k sz sl of gp lt ea : Int) (d : Bool) : List SV := [.io .i64 g, .io .i64 s, .io .i64 k, .io .i64 sz, .io .i64 sl, .io .i64 of, .io .i64 gp, .io .i64 lt, .io .i64 ea, .bo d]
def cwAO (g s k sz sl of gp lt ea : Int) (d : Bool) (wk : Int) (A : Option Addr) (n c : Nat) : List SV := [.io .i64 g, .io .i64 s, .io .i64 k, .io .i64 sz, .io .i64 sl, .io .i64 of, .io .i64 gp, .io .i64 lt, .io .i64 ea, .bo d, .io .i64 wk, .sl A n c]
def zAO0 : List SV := [.v (.int .i64 0), .v (.int .i64 0), .v (.int .i64 0), .v (.int .i64 0), .v (.int .i64 0), .v (.int .i64 0), .v (.int .i64 0), .v (.int .i64 0), .v (.int .i64 0), .v (.bool false), .v (.int .i64 0), .v (.slice none 0 0)]
def pAO1 : List Nat := [1, 1, 1, 1, 1, 0, 1, 4, 4, 1, 1, 0, 4, 1]
def pAO2 : List Nat := [1, 1, 1, 1, 1, 0, 1, 4, 4, 1, 0, 4, 1]
def pAO3 : List Nat := [1, 1, 1, 1, 1, 0, 1, 4, 4, 1, 0, 4, 0]
def pAO4 : List Nat := [1, 1, 1, 1, 1, 0, 1, 4, 4, 1, 1, 1]
def pAO5 : List Nat := [1, 1, 1, 1, 1, 0, 1, 4, 4, 1, 1]
def pAO6 : List Nat := [1, 1, 1, 1, 1, 0, 1, 4, 4]
def pAO7 : List Nat := [1, 1, 1, 1, 1, 0, 1, 4]
def pAO8 : List Nat := [1, 1, 1, 1, 1, 1]
def pAO9 : List Nat := [1, 1, 1, 1, 0]
def pAO10 : List Nat := [1, 1, 1, 1, 1]
def pAO11 : List Nat := [1, 1, 1, 0]
end Go.Sx
section
namespace Go.Proofs.YthfpekhpeiebjaaGreatDoor
open Go.RowKit Go.Sx
noncomputable def B12 : Code := (Tryz.f12.body).getD .skip
def scriptB (c : Cf) (wk : Int) (xs : List St) : List UInt8 := [106, 111, 98, 32] ++ c.text ++ [10, 119, 111, 114, 107, 101, 114, 115, 32] ++ Lib.itoa wk ++ [10] ++ xs.flatMap fun x => lineS x ++ [10]
def textP (c : Cf) (wk : Int) (xs : List St) : List UInt8 × Int := if (chkP c wk xs).2 = 0 then (scriptB c wk xs, 0) else ([], (chkP c wk xs).2)
theorem badI_none {c : Cf} : ∀ (xs : List St) (i : Nat), badI c xs i = none → ∀ x ∈ xs, mayB c x = true
 | [], _, _, x, hx => by simp at hx
 | y :: xs, i, h, x, hx => by
  simp only [badI] at h
  split at h
  ·rename_i hy
   rcases List.mem_cons.1 hx with rfl | hx
   ·exact hy
   exact badI_none xs (i + 1) h x hx
  cases h
theorem chk_ok {c : Cf} {wk : Int} {xs : List St} (h : (chkP c wk xs).2 = 0) : c.wr = 0 ∧ 1 ≤ wk ∧ wk ≤ c.g ∧ ∀ x ∈ xs, mayB c x = true := by
 unfold chkP at h
 split at h
 ·cases h
 rename_i h1
 split at h
 ·cases h
 rename_i h2
 refine ⟨Classical.not_not.1 h1, by omega, by omega, badI_none xs 0 ?_⟩
 cases hb : badI c xs 0 with
 | none => rfl
 | some i => rw [hb] at h; cases h
theorem mayB_key {c : Cf} {x : St} (h : mayB c x = true) : x.key.length ≤ 256 := by
 by_cases hk : x.kd = 1
 ·rw [mayB_1 hk] at h
  simp only [Bool.and_eq_true] at h
  have h5 := h.2.2.2.2
  unfold itB at h5
  split at h5
  ·simp only [Bool.and_eq_true, decide_eq_true_eq] at h5
   exact h5.1
  split at h5
  ·simp only [Bool.and_eq_true, decide_eq_true_eq] at h5
   rw [h5.2.2.2.1]
   simp
  split at h5
  ·simp only [Bool.and_eq_true, decide_eq_true_eq] at h5
   rw [h5.1]
   simp
  cases h5
 rw [mayB_n hk] at h
 simp only [Bool.and_eq_true, decide_eq_true_eq] at h
 rw [h.1.2.1]
 simp
theorem lineS_short {x : St} (hk : x.key.length ≤ 256) (ho : x.ok) : (lineS x).length ≤ 1100 := by
 obtain ⟨kd, ik, key, ti, v, src, wk, wks, bit, mask⟩ := x
 obtain ⟨i0, i1, i2, i3, i4, i5, i6⟩ := ho
 have hq0 := quote_short hk
 have hl0 := itoa_short i0
 have hl1 := itoa_short i1
 have hl2 := itoa_short i2
 have hl3 := itoa_short i3
 have hl4 := itoa_short i4
 have hl5 := itoa_short i5
 have hl6 := itoa_short (show in64 mask from ⟨by simp only at i6; omega, by simp only at i6; omega⟩)
 simp only at hq0 hl0 hl1 hl2 hl3 hl4 hl5 hl6
 unfold lineS
 simp only
 split
 ·split
  ·simp only [List.length_append, List.length_cons, List.length_nil]; omega
  split
  ·simp only [List.length_append, List.length_cons, List.length_nil]; omega
  simp
 split
 ·simp only [List.length_append, List.length_cons, List.length_nil]; omega
 split
 ·simp only [List.length_append, List.length_cons, List.length_nil]; omega
 split
 ·simp only [List.length_append, List.length_cons, List.length_nil]; omega
 simp
theorem ctext_ok {g s k sz sl of gp lt ea : Int} (h : wrongR g s k sz sl of gp lt ea = 0) (d : Bool) (w : World) (hw : Wd w) :
  Calls Tryz.prog 36 #[.agg #[.int .i64 g, .int .i64 s, .int .i64 k, .int .i64 sz, .int .i64 sl, .int .i64 of, .int .i64 gp, .int .i64 lt, .int .i64 ea, .bool d]] w fun e w' => e = .returned (.tuple #[.string (mkB (Cf.text ⟨g, s, k, sz, sl, of, gp, lt, ea, d⟩)), .int .i64 0]) ∧ Below w.heap.size w w' := by
 have hk := text_any g s k sz sl of gp lt ea d w hw.tab hw.tp
 rw [wrong_eq, h] at hk
 exact hk
theorem cells_head (X : List UInt8) : ([] : List Value) ++ Lib.strCells (mkB X) = Lib.byteCells X := by simp [Lib.byteCells, Lib.strCells, mkB]
theorem cells_two (a l : List UInt8) : Lib.byteCells a ++ Lib.strCells (mkB l) = Lib.byteCells (a ++ l) := by simp [Lib.byteCells, Lib.strCells, mkB]
theorem head_eq (c : Cf) (wk : Int) (xs : List St) : scriptB c wk (xs.take 0) = [106, 111, 98, 32] ++ c.text ++ [10, 119, 111, 114, 107, 101, 114, 115, 32] ++ Lib.itoa wk ++ [10] := by simp [scriptB]
theorem script_take {c : Cf} {wk : Int} {xs : List St} {i : Nat} {x : St} (h : xs[i]? = some x) : scriptB c wk (xs.take (i + 1)) = scriptB c wk (xs.take i) ++ (lineS x ++ [10]) := by
 rw [List.take_add_one, h]
 simp [scriptB]
theorem script_len {c : Cf} {wk : Int} {xs : List St} (h1 : c.text.length ≤ 1000) (h2 : (Lib.itoa wk).length ≤ 21) (h : ∀ x ∈ xs, (lineS x).length ≤ 1100) : (scriptB c wk xs).length ≤ 1100 + xs.length * 1101 := by
 have key : ∀ l : List St, (∀ x ∈ l, (lineS x).length ≤ 1100) → (l.flatMap fun x => lineS x ++ [10]).length ≤ l.length * 1101 := by
  intro l
  induction l with
  | nil => simp
  | cons x l ih =>
   intro hh
   have h3 := hh x (by simp)
   have h4 := ih (fun y hy => hh y (by simp [hy]))
   rw [List.flatMap_cons, List.length_append, List.length_append, List.length_cons (a := x)]
   simp only [List.length_cons, List.length_nil]
   omega
 have h5 := key xs h
 simp only [scriptB, List.length_append, List.length_cons, List.length_nil]
 omega
theorem bld_is {B b : Nat} {l : List UInt8} {w : World} (h : BldV 85 5 B b (Lib.byteCells l) [] w) : Lib.IsBuilder 85 5 B b (Lib.byteCells l) w := by
 obtain ⟨p, A, n, c, hp, hg⟩ := h
 have hn : (Lib.byteCells l).length = n * 1 := hg.2.1.1.1
 rw [Nat.mul_one] at hn
 have : Lib.BuilderAt 85 5 B b p (Lib.byteCells l) w := ⟨hg.2.2.2, .slice A n c, hg.1, by rw [hn]; exact hg.2.1.1, hg.own (by decide)⟩
 rcases hp with rfl | rfl
 ·exact .inl this
 exact .inr this
def frX (b : Nat) (A : Option Addr) (n cap : Nat) (i : Nat) : Fr := [(8, .v (.pointer (some ⟨b, 0, none⟩))), (35, .sl A n cap), (36, .io .i64 (n : Int)), (37, .io .i64 (i : Int))]
def GT (b r0 : Nat) (c : Cf) (wk : Int) (xs : List St) (i : Nat) (ρ : List Nat) (w : World) : Prop := BldL b r0 (Lib.byteCells (scriptB c wk (xs.take i))) ρ w ∧ i ≤ xs.length
set_option maxHeartbeats 8000000 in
set_option maxRecDepth 100000 in
theorem text_go (g s k sz sl of gp lt ea : Int) (d : Bool) (wk : Int) (A : Option Addr) (n cap : Nat) (xs : List St) (w : World) (hw : Wd w) (hS : SlS w A n xs) (hn : n ≤ 300) (hok : ∀ x ∈ xs, x.ok) :
  Calls Tryz.prog 12 #[.agg #[.int .i64 g, .int .i64 s, .int .i64 k, .int .i64 sz, .int .i64 sl, .int .i64 of, .int .i64 gp, .int .i64 lt, .int .i64 ea, .bool d, .int .i64 wk, .slice A n cap]] w fun e w' => e = .returned (.tuple #[.string (mkB (textP ⟨g, s, k, sz, sl, of, gp, lt, ea, d⟩ wk xs).1), .int .i64 (textP ⟨g, s, k, sz, sl, of, gp, lt, ea, d⟩ wk xs).2]) ∧ Below w.heap.size w w' := by
 have hl := hS.1
 refine enter (fn := Tryz.f12) (c := B12) [.agg (cwAO g s k sz sl of gp lt ea d wk A n cap)] Tryz.func12 rfl rfl ?_
 refine zN [1, 12] 1 ⟨pops B12 [1, 0, 0] 1, [.seq (sub B12 [1, 0, 1]), .seq (sub B12 [1, 1])], [(1, .lp 0 0), (12, .agg (cwAO g s k sz sl of gp lt ea d wk A n cap))], [((cwAO g s k sz sl of gp lt ea d wk A n cap), 28)]⟩ ?_
 by_cases hc : (chkP ⟨g, s, k, sz, sl, of, gp, lt, ea, d⟩ wk xs).2 = 0
 ·refine zC noF_stable 13 [.agg (cwAO g s k sz sl of gp lt ea d wk A n cap)] (.tup [.io .i64 (chkP ⟨g, s, k, sz, sl, of, gp, lt, ea, d⟩ wk xs).1, .v (.int .i64 0)]) (fun _ _ w1 hi _ => (check_kit ⟨g, s, k, sz, sl, of, gp, lt, ea, d⟩ wk A n cap xs w1 (hS.below hi.mem.below) (by omega)).mono fun e w2 h => ⟨h.1.trans (by rw [hc]; rfl), h.2⟩) ?_
  obtain ⟨hwr, hw1, hw2, hmay⟩ := chk_ok hc
  rw [show textP ⟨g, s, k, sz, sl, of, gp, lt, ea, d⟩ wk xs = (scriptB ⟨g, s, k, sz, sl, of, gp, lt, ea, d⟩ wk xs, 0) from if_pos hc]
  refine zN [1, 21] 1 ⟨pops B12 [1, 1, 0] 2, [.seq (sub B12 [1, 1, 1])], [(1, .lp 0 0), (21, .agg (cfAO g s k sz sl of gp lt ea d))], [((cwAO g s k sz sl of gp lt ea d wk A n cap), 28)]⟩ ?_
  have hw0 : wrongR g s k sz sl of gp lt ea = 0 := hwr
  refine zC noF_stable 36 [.agg (cfAO g s k sz sl of gp lt ea d)] (.tup [.so (mkB (Cf.text ⟨g, s, k, sz, sl, of, gp, lt, ea, d⟩)), .v (.int .i64 0)]) (fun _ _ w1 hi _ => ctext_ok hw0 d w1 (hw.below hi.mem.below)) ?_
  refine At.to (noF_stable) (noF_fewer) 0 9 [1, 6] 1 ⟨pops B12 pAO11 0, [.seq (sub B12 [1, 1, 1, 1])], [(1, .lp 0 0), (6, .so (mkB (Cf.mk g s k sz sl of gp lt ea d).text))], [((cwAO g s k sz sl of gp lt ea d wk A n cap), 28)]⟩ (by kernel_rfl) (by kernel_rfl) ?_
  have htl : (Cf.text ⟨g, s, k, sz, sl, of, gp, lt, ea, d⟩).length ≤ 1000 := textW_short hw0 d
  have hg1 := (valid_of hw0).1
  have hi64 : in64 wk := by
   have := hw2
   simp only at this
   constructor <;> omega
  have hitl := itoa_short hi64
  refine At.bldAlloc (((opsOf (sub B12 pAO11)).toList[0]?).getD default) (by kernel_rfl) (by kernel_rfl) (by kernel_rfl) (by kernel_rfl) rfl (fun b r0 hNb => ?_)
  refine zT BldL.stable BldL.fewer [1, 8, 25] 1 ⟨pops B12 pAO9 1, [.seq (sub B12 pAO10)], [(1, .lp 0 0), (8, .v (.pointer (some (Addr.mk b 0 none)))), (25, .so (mkB (Cf.mk g s k sz sl of gp lt ea d).text))], [((cwAO g s k sz sl of gp lt ea d wk A n cap), 28)]⟩ ?_
  refine catX ([106, 111, 98, 32] : List UInt8) (Cf.mk g s k sz sl of gp lt ea d).text (by kernel_rfl) (by simp only [List.length_append, List.length_cons, List.length_nil]; omega) BldL.stable ?_
  refine zT BldL.stable BldL.fewer [1, 8, 26] 1 ⟨pops B12 pAO9 2, [.seq (sub B12 pAO10)], [(1, .lp 0 0), (8, .v (.pointer (some (Addr.mk b 0 none)))), (26, .so (mkB ([106, 111, 98, 32] ++ (Cf.mk g s k sz sl of gp lt ea d).text)))], [((cwAO g s k sz sl of gp lt ea d wk A n cap), 28)]⟩ ?_
  refine catX ([106, 111, 98, 32] ++ (Cf.mk g s k sz sl of gp lt ea d).text) ([10, 119, 111, 114, 107, 101, 114, 115, 32] : List UInt8) (by kernel_rfl) (by simp only [List.length_append, List.length_cons, List.length_nil]; omega) BldL.stable ?_
  refine zT BldL.stable BldL.fewer [1, 8, 27, 29] 1 ⟨pops B12 pAO9 5, [.seq (sub B12 pAO10)], [(1, .lp 0 0), (8, .v (.pointer (some (Addr.mk b 0 none)))), (27, .so (mkB ([106, 111, 98, 32] ++ (Cf.mk g s k sz sl of gp lt ea d).text ++ [10, 119, 111, 114, 107, 101, 114, 115, 32]))), (29, .io .i64 wk)], [((cwAO g s k sz sl of gp lt ea d wk A n cap), 28)]⟩ ?_
  refine zC BldL.stable 38 [.io .i64 wk] (.so (mkB (Lib.itoa wk))) (fun _ _ w1 hi _ => itoa_any wk hi64 w1 (tab_below hw.tp hi.mem.below rfl)) ?_
  refine zT BldL.stable BldL.fewer [1, 8, 27, 30] 1 ⟨pops B12 pAO9 6, [.seq (sub B12 pAO10)], [(1, .lp 0 0), (8, .v (.pointer (some (Addr.mk b 0 none)))), (27, .so (mkB ([106, 111, 98, 32] ++ (Cf.mk g s k sz sl of gp lt ea d).text ++ [10, 119, 111, 114, 107, 101, 114, 115, 32]))), (30, .so (mkB (Lib.itoa wk)))], [((cwAO g s k sz sl of gp lt ea d wk A n cap), 28)]⟩ ?_
  refine catX ([106, 111, 98, 32] ++ (Cf.mk g s k sz sl of gp lt ea d).text ++ [10, 119, 111, 114, 107, 101, 114, 115, 32]) (Lib.itoa wk) (by kernel_rfl) (by simp only [List.length_append, List.length_cons, List.length_nil]; omega) BldL.stable ?_
  refine zT BldL.stable BldL.fewer [1, 8, 31] 1 ⟨pops B12 pAO9 7, [.seq (sub B12 pAO10)], [(1, .lp 0 0), (8, .v (.pointer (some (Addr.mk b 0 none)))), (31, .so (mkB ([106, 111, 98, 32] ++ (Cf.mk g s k sz sl of gp lt ea d).text ++ [10, 119, 111, 114, 107, 101, 114, 115, 32] ++ Lib.itoa wk)))], [((cwAO g s k sz sl of gp lt ea d wk A n cap), 28)]⟩ ?_
  refine catX ([106, 111, 98, 32] ++ (Cf.mk g s k sz sl of gp lt ea d).text ++ [10, 119, 111, 114, 107, 101, 114, 115, 32] ++ Lib.itoa wk) ([10] : List UInt8) (by kernel_rfl) (by simp only [List.length_append, List.length_cons, List.length_nil]; omega) BldL.stable ?_
  refine zT BldL.stable BldL.fewer [1, 8, 32] 1 ⟨pops B12 pAO9 8, [.seq (sub B12 pAO10)], [(1, .lp 0 0), (8, .v (.pointer (some (Addr.mk b 0 none)))), (32, .so (mkB ([106, 111, 98, 32] ++ (Cf.mk g s k sz sl of gp lt ea d).text ++ [10, 119, 111, 114, 107, 101, 114, 115, 32] ++ Lib.itoa wk ++ [10])))], [((cwAO g s k sz sl of gp lt ea d wk A n cap), 28)]⟩ ?_
  refine At.factsL (ys := [] ++ Lib.strCells (mkB (([106, 111, 98, 32] ++ (Cf.mk g s k sz sl of gp lt ea d).text ++ [10, 119, 111, 114, 107, 101, 114, 115, 32] ++ Lib.itoa wk ++ [10])))) hNb 37 [.v (.pointer (some ⟨b, 0, none⟩)), .so (mkB (([106, 111, 98, 32] ++ (Cf.mk g s k sz sl of gp lt ea d).text ++ [10, 119, 111, 114, 107, 101, 114, 115, 32] ++ Lib.itoa wk ++ [10])))] (.tup [.io .i64 ((mkB (([106, 111, 98, 32] ++ (Cf.mk g s k sz sl of gp lt ea d).text ++ [10, 119, 111, 114, 107, 101, 114, 115, 32] ++ Lib.itoa wk ++ [10]))).size : Int), .v .nilIface]) (by kernel_rfl) (by kernel_rfl) (by kernel_rfl) (by kernel_rfl) (by kernel_rfl) rfl (fun ρ w1 hm hf hb => wstr_any (mkB (([106, 111, 98, 32] ++ (Cf.mk g s k sz sl of gp lt ea d).text ++ [10, 119, 111, 114, 107, 101, 114, 115, 32] ++ Lib.itoa wk ++ [10]))) w1 hf hb (by rw [mkB_size]; simp only [List.length_append, List.length_cons, List.length_nil]; omega)) ?_
  refine At.mono (F' := BldL b r0 (Lib.byteCells (scriptB ⟨g, s, k, sz, sl, of, gp, lt, ea, d⟩ wk (xs.take 0)))) (fun ρ w1 h => by rw [cells_head] at h; rw [head_eq]; exact h) ?_
  refine zT BldL.stable BldL.fewer [8, 35, 36, 37] 1 ⟨.code (sub B12 pAO7), [.block 0, .seq (sub B12 pAO8)], [(8, .v (.pointer (some (Addr.mk b 0 none)))), (35, .sl A n cap), (36, .io .i64 (↑n : Int)), (37, .v (.int .i64 0))], [((cwAO g s k sz sl of gp lt ea d wk A n cap), 28)]⟩ ?_
  refine At.canonT [37] _ rfl ?_
  refine At.loop (σ := Nat) (sub B12 pAO6) (frX b A n cap) (locC ⟨g, s, k, sz, sl, of, gp, lt, ea, d⟩ wk A n cap) (GT b r0 ⟨g, s, k, sz, sl, of, gp, lt, ea, d⟩ wk xs) (fun i => n - i) 0 (by kernel_rfl) (by unfold subFr; kernel_rfl) (by kernel_rfl) (fun _ _ _ _ h => ⟨h, Nat.zero_le _⟩) ?_
  intro i
  refine At.pure fun h2 => ?_
  refine zTq BldL.stable BldL.fewer [8, 35, 36, 37, 38] 1 ?_
  rcases Bool.eq_false_or_eq_true (decide ((↑i : Int) < (↑n : Int))) with b0 | b0
  ·refine zR 38 b0 ?_
   refine zT BldL.stable BldL.fewer [8, 35, 36, 37] 1 ⟨pops B12 [1, 1, 1, 1, 1, 0, 1, 4, 4, 1, 1, 0, 4, 0] 0, [.seq (sub B12 pAO1), .block 1, .seq (sub B12 pAO4), .next (Sx.Next w.heap.size w Tryz.f12.ntmps (frX b A n cap) (locC (Cf.mk g s k sz sl of gp lt ea d) wk A n cap) (GT b r0 (Cf.mk g s k sz sl of gp lt ea d) wk xs) (fun i => n - i) i), .block 0, .seq (sub B12 pAO8)], [(8, .v (.pointer (some (Addr.mk b 0 none)))), (35, .sl A n cap), (36, .io .i64 (↑n : Int)), (37, .io .i64 (↑i : Int))], [((cwAO g s k sz sl of gp lt ea d wk A n cap), 28)]⟩ ?_
   have hi : i < n := by have := of_decide_eq_true b0; omega
   clear b0
   obtain ⟨x, hx⟩ : ∃ x, xs[i]? = some x := ⟨_, List.getElem?_eq_getElem (by rw [← hS.1]; exact hi)⟩
   obtain ⟨a, rfl, hcell⟩ := hS.get hx
   have hxm := List.mem_of_getElem? hx
   have hxk := mayB_key (hmay x hxm)
   have hxo := hok x hxm
   have hxl := lineS_short hxk hxo
   have htake : scriptB ⟨g, s, k, sz, sl, of, gp, lt, ea, d⟩ wk (xs.take (i + 1)) = scriptB ⟨g, s, k, sz, sl, of, gp, lt, ea, d⟩ wk (xs.take i) ++ (lineS x ++ [10]) := script_take hx
   have hsl := script_len (c := ⟨g, s, k, sz, sl, of, gp, lt, ea, d⟩) (wk := wk) (xs := xs.take i) htl hitl (fun y hy => lineS_short (mayB_key (hmay y (List.mem_of_mem_take hy))) (hok y (List.mem_of_mem_take hy)))
   have htl2 : (xs.take i).length ≤ 300 := by rw [List.length_take]; omega
   obtain ⟨kd, ik, key, ti, v, src, wk2, wks, bit, mask⟩ := x
   refine At.idx a n 10 (i : Int) (by kernel_rfl) (by omega) (by omega) BldL.stable ?_
   refine At.lda (a.add ((i : Int).toNat * 10)) 10 [.io .i64 kd, .io .i64 ik, .so (mkB key), .io .i64 ti, .io .i64 v, .io .i64 src, .io .i64 wk2, .io .i64 wks, .io .i64 bit, .io .u32 mask] (by kernel_rfl) rfl BldL.stable (fun ρ w1 hm' hf j v2 hj => cell_below (hcell j v2 hj) hm'.below) ?_
   let kn0 : K := .next (Sx.Next w.heap.size w Tryz.f12.ntmps (frX b (some a) n cap) (locC (Cf.mk g s k sz sl of gp lt ea d) wk (some a) n cap) (GT b r0 (Cf.mk g s k sz sl of gp lt ea d) wk xs) (fun i => n - i) i)
   refine zT BldL.stable BldL.fewer [8, 35, 36, 37, 41] 1 ⟨pops B12 pAO1 1, [.block 1, .seq (sub B12 pAO4), kn0, .block 0, .seq (sub B12 pAO8)], [(8, .v (.pointer (some (Addr.mk b 0 none)))), (35, .sl (some a) n cap), (36, .io .i64 (↑n : Int)), (37, .io .i64 (↑i : Int)), (41, .agg [.io .i64 kd, .io .i64 ik, .so (mkB key), .io .i64 ti, .io .i64 v, .io .i64 src, .io .i64 wk2, .io .i64 wks, .io .i64 bit, .io IntKind.u32 mask])], [((cwAO g s k sz sl of gp lt ea d wk (some a) n cap), 28)]⟩ ?_
   refine zC BldL.stable 39 [.agg [.io .i64 kd, .io .i64 ik, .so (mkB key), .io .i64 ti, .io .i64 v, .io .i64 src, .io .i64 wk2, .io .i64 wks, .io .i64 bit, .io .u32 mask]] (.so (mkB (lineS ⟨kd, ik, key, ti, v, src, wk2, wks, bit, mask⟩))) (fun _ _ w1 hi _ => line_go kd ik key ti v src wk2 wks bit mask hxk hxo.1 hxo.2.1 hxo.2.2.1 hxo.2.2.2.1 hxo.2.2.2.2.1 hxo.2.2.2.2.2.1 hxo.2.2.2.2.2.2 w1 (tab_below hw.tp hi.mem.below rfl)) ?_
   refine zT BldL.stable BldL.fewer [8, 35, 36, 37, 42] 1 ⟨pops B12 pAO1 2, [.block 1, .seq (sub B12 pAO4), kn0, .block 0, .seq (sub B12 pAO8)], [(8, .v (.pointer (some (Addr.mk b 0 none)))), (35, .sl (some a) n cap), (36, .io .i64 (↑n : Int)), (37, .io .i64 (↑i : Int)), (42, .so (mkB (lineS (St.mk kd ik key ti v src wk2 wks bit mask))))], [((cwAO g s k sz sl of gp lt ea d wk (some a) n cap), 28)]⟩ ?_
   refine catX (lineS ⟨kd, ik, key, ti, v, src, wk2, wks, bit, mask⟩) ([10] : List UInt8) (by kernel_rfl) (by simp only [List.length_cons, List.length_nil]; omega) BldL.stable ?_
   refine zT BldL.stable BldL.fewer [8, 35, 36, 37, 43] 1 ⟨pops B12 pAO1 3, [.block 1, .seq (sub B12 pAO4), kn0, .block 0, .seq (sub B12 pAO8)], [(8, .v (.pointer (some (Addr.mk b 0 none)))), (35, .sl (some a) n cap), (36, .io .i64 (↑n : Int)), (37, .io .i64 (↑i : Int)), (43, .so (mkB (lineS (St.mk kd ik key ti v src wk2 wks bit mask) ++ [10])))], [((cwAO g s k sz sl of gp lt ea d wk (some a) n cap), 28)]⟩ ?_
   refine At.factsL (ys := Lib.byteCells (scriptB ⟨g, s, k, sz, sl, of, gp, lt, ea, d⟩ wk (xs.take i)) ++ Lib.strCells (mkB (lineS ⟨kd, ik, key, ti, v, src, wk2, wks, bit, mask⟩ ++ [10]))) hNb 37 [.v (.pointer (some ⟨b, 0, none⟩)), .so (mkB (lineS ⟨kd, ik, key, ti, v, src, wk2, wks, bit, mask⟩ ++ [10]))] (.tup [.io .i64 ((mkB (lineS ⟨kd, ik, key, ti, v, src, wk2, wks, bit, mask⟩ ++ [10])).size : Int), .v .nilIface]) (by kernel_rfl) (by kernel_rfl) (by kernel_rfl) (by kernel_rfl) (by kernel_rfl) rfl (fun ρ w1 hm hf hb => wstr_any (mkB (lineS ⟨kd, ik, key, ti, v, src, wk2, wks, bit, mask⟩ ++ [10])) w1 hf hb (by rw [mkB_size, Lib.byteCells_length]; simp only [List.length_append, List.length_cons, List.length_nil]; omega)) ?_
   refine zT BldL.stable BldL.fewer [8, 35, 36, 37] 1 ⟨.exit .normal, [kn0, .block 0, .seq (sub B12 pAO8)], [(8, .v (.pointer (some (Addr.mk b 0 none)))), (35, .sl (some a) n cap), (36, .io .i64 (↑n : Int)), (37, .io .i64 (IntKind.i64.wrap ((↑i : Int) + 1)))], [((cwAO g s k sz sl of gp lt ea d wk (some a) n cap), 28)]⟩ ?_
   have hw3 : IntKind.i64.wrap ((i : Int) + 1) = ((i + 1 : Nat) : Int) := by
    rw [wrap63 (by omega) (by omega)]
    omega
   rw [hw3]
   refine At.next (σ := Nat) (i + 1) rfl rfl (by unfold subFr; kernel_rfl) (by kernel_rfl) ?_ ?_
   ·intro ρ a' w' hi' hf
    exact ⟨by rw [htake, ← cells_two]; exact hf, by omega⟩
   show n - (i + 1) < n - i
   omega
  refine zR 38 b0 ?_
  refine zT BldL.stable BldL.fewer [8] 1 ⟨pops B12 [1, 1, 1, 1, 1, 1, 0] 0, [.seq (sub B12 [1, 0, 1, 1, 2, 1])], [(8, .v (.pointer (some (Addr.mk b 0 none))))], [((cwAO g s k sz sl of gp lt ea d wk A n cap), 28)]⟩ ?_
  have hi : ¬ (i : Int) < (n : Int) := of_decide_eq_false b0
  rw [List.take_of_length_le (by rw [← hS.1]; omega)]
  refine At.factsN hNb 40 [.v (.pointer (some ⟨b, 0, none⟩))] (.so (mkB (scriptB ⟨g, s, k, sz, sl, of, gp, lt, ea, d⟩ wk xs))) (by kernel_rfl) (by kernel_rfl) (by kernel_rfl) (by kernel_rfl) (by kernel_rfl) rfl (fun ρ w1 hm hf hb => (Tryz.Builder_String_any b b (scriptB ⟨g, s, k, sz, sl, of, gp, lt, ea, d⟩ wk xs) w1 (bld_is hf) hb).mono fun e w2 h => ⟨h.1, h.2⟩) ?_
  refine zN [2, 3] 0 ⟨.exit .ret, [], [(2, .so (mkB (scriptB (Cf.mk g s k sz sl of gp lt ea d) wk xs))), (3, .v (.int .i64 0))], []⟩ ?_
  refine zE (.tup [.so (mkB (scriptB (Cf.mk g s k sz sl of gp lt ea d) wk xs)), .v (.int .i64 0)]) ?_
  intro ρ w9 hm' hf
  exact ⟨rfl, hm'.below⟩
 refine zC noF_stable 13 [.agg (cwAO g s k sz sl of gp lt ea d wk A n cap)] (.tup [.io .i64 (chkP ⟨g, s, k, sz, sl, of, gp, lt, ea, d⟩ wk xs).1, .io .i64 (chkP ⟨g, s, k, sz, sl, of, gp, lt, ea, d⟩ wk xs).2]) (fun _ _ w1 hi _ => check_kit ⟨g, s, k, sz, sl, of, gp, lt, ea, d⟩ wk A n cap xs w1 (hS.below hi.mem.below) (by omega)) ?_
 rw [show textP ⟨g, s, k, sz, sl, of, gp, lt, ea, d⟩ wk xs = ([], (chkP ⟨g, s, k, sz, sl, of, gp, lt, ea, d⟩ wk xs).2) from if_neg hc]
 refine zNq [1, 5, 17] 1 ?_
 refine At.res 17 ((chkP (Cf.mk g s k sz sl of gp lt ea d) wk xs).snd != 0) true (by kernel_rfl) (by first | assumption | (simp only [*]; done) | (simp [*]; done)) ?_
 refine zN [2, 3] 0 ⟨.exit .ret, [], [(2, .v (.string (ByteArray.mk #[]))), (3, .io .i64 (chkP (Cf.mk g s k sz sl of gp lt ea d) wk xs).snd)], []⟩ ?_
 refine zE (.tup [.v (.string (ByteArray.mk #[])), .io .i64 (chkP (Cf.mk g s k sz sl of gp lt ea d) wk xs).snd]) ?_
 intro ρ w9 hm' hf
 exact ⟨rfl, hm'.below⟩
end Go.Proofs.YthfpekhpeiebjaaGreatDoor
end
section
namespace Go.Proofs.YthfpekhpeiebjaaGreatDoor
open Go.RowKit Go.Sx
theorem StepK.pureXE {P : Program} {N : Nat} {w0 : World} {ntm : Nat} {F : List Nat → World → Prop} {all : Array Oper} {L0 : Array Bool} {kn : List (Nat × Kn)} {fr0 : Fr} {loc : Sx.Loc} {i : Nat} {X : Type} {r : X → SV} {G : X → List Nat → World → Prop} (j t : Nat) (hk : knOf kn i = some (.ex X r G)) (hat : (atK all L0 kn fr0 i).isSome = true) (hj : exAt all L0 i j = some t) (hkj : knOf kn j = some (.ex X r G))
  (hq : ∀ x, ((atK all L0 kn fr0 i).bind fun y => pureOp P loc ((t, r x) :: y.2) y.1.op) = some (r x)) : StepK P N w0 ntm F all L0 kn fr0 loc i :=
 StepK.runXE j t hk hat hj hkj fun o fr ho x ρ a w ha hw hf hx => by
  have h := hq x
  rw [ho] at h
  exact ⟨x, run_pureOp (N := N) (w0 := w0) ha (fun _ => hw) h, hx⟩
theorem At.drawnE {P : Program} {Q : Exit → Act → World → Prop} {N : Nat} {w0 : World} {ntm : Nat} {F : List Nat → World → Prop} {X : Type} {s : S} {all : Array Oper} {g : Nat} {dn : List Nat} (kn : List (Nat × Kn)) (js : List Nat) (fr' : Fr) (j t : Nat) (r : X → SV) (G : X → List Nat → World → Prop) (hpc : s.pc = .any all g dn) (hok : okK ntm all g (listedOf all.size dn) kn = true) (hjs : pendL all.size (listedOf all.size dn) = js) (hF : Stable F) (hkn : knSts kn)
  (hst : allOf js fun i => StepK P N w0 ntm F all (listedOf all.size dn) kn (drops ((unl all (listedOf all.size dn)).filterMap (·.dst)) s.fr) s.loc i)
  (hsub : subFr fr' (eqFr all (listedOf all.size dn) kn js (drops ((unl all (listedOf all.size dn)).filterMap (·.dst)) s.fr))) (hj : ((all[j]?).bind fun o => match (listedOf all.size dn).getD j true with | false => o.dst | true => none) = some t) (hkj : knOf kn j = some (.ex X r G))
  (h : ∀ x, At P Q N w0 ntm (fun ρ w => F ρ w ∧ G x ρ w) ⟨.exit .normal, s.ks, (t, r x) :: fr', s.loc⟩) : At P Q N w0 ntm F s :=
 At.drawnY (Y := X) kn js (fun x => (t, r x) :: fr') (fun x ρ w => F ρ w ∧ G x ρ w) hpc hok hjs hF hkn hst (fun ρ a w ha hd hf => by
  obtain ⟨o, ho, hm⟩ := Option.bind_eq_some_iff.1 hj
  split at hm
  ·rename_i h0
   obtain ⟨v, hv, x, rfl, hx⟩ := hd j o t _ ho h0 (by have := (Array.getElem?_eq_some_iff.1 ho).1; simp [this]) hm hkj
   exact ⟨x, (ha.sub hsub).moreK hv, hf, hx⟩
  cases hm) h
def strsW (l : List (List UInt8)) : List Value := l.map fun x => Value.string (mkB x)
def kindsL : List (List UInt8) := [[], [116, 117, 109, 98, 108, 105, 110, 103], [115, 108, 105, 100, 105, 110, 103], [115, 101, 115, 115, 105, 111, 110]]
def preJ (V : List (List UInt8)) : Nat → List UInt8
 | 0 => []
 | i + 1 => preJ V i ++ wordsW.getD i [] ++ [32] ++ V.getD i [] ++ [32]
def accJ (V : List (List UInt8)) : Nat → List UInt8
 | 0 => []
 | i + 1 => preJ V i ++ wordsW.getD i [] ++ [32] ++ V.getD i []
theorem acc_pre (V : List (List UInt8)) : ∀ i : Nat, 0 < i → accJ V i ++ [32] = preJ V i
 | 0, h => absurd h (Nat.lt_irrefl 0)
 | i + 1, _ => rfl
theorem acc_zero (V : List (List UInt8)) : ∀ i : Nat, i = 0 → accJ V i = preJ V i
 | 0, _ => rfl
 | i + 1, h => by cases h
theorem strs_at {l : List (List UInt8)} {i : Nat} (h : i < l.length) : (strsW l)[(i : Int).toNat * 1]? = some (Value.string (mkB (l.getD i []))) := by
 rw [Int.toNat_natCast, Nat.mul_one, strsW, List.getElem?_map, List.getElem?_eq_getElem h, List.getD_eq_getElem?_getD, List.getElem?_eq_getElem h]
 rfl
theorem word_len : ∀ i : Nat, (wordsW.getD i []).length ≤ 10 := by
 intro i
 rw [List.getD_eq_getElem?_getD]
 cases h : wordsW[i]? with
 | none => exact Nat.zero_le _
 | some x =>
  have hx := List.mem_of_getElem? h
  have : ∀ y ∈ wordsW, y.length ≤ 10 := by decide
  exact this x hx
theorem val_len (V : List (List UInt8)) (hV : ∀ v ∈ V, v.length ≤ 30) : ∀ i : Nat, (V.getD i []).length ≤ 30 := by
 intro i
 rw [List.getD_eq_getElem?_getD]
 cases h : V[i]? with
 | none => exact Nat.zero_le _
 | some x => exact hV x (List.mem_of_getElem? h)
theorem pre_len (V : List (List UInt8)) (hV : ∀ v ∈ V, v.length ≤ 30) : ∀ i : Nat, (preJ V i).length ≤ i * 42
 | 0 => Nat.zero_le _
 | i + 1 => by
  have h1 := pre_len V hV i
  have h2 := word_len i
  have h3 := val_len V hV i
  simp only [preJ, List.length_append, List.length_cons, List.length_nil]
  omega
theorem acc_len (V : List (List UInt8)) (hV : ∀ v ∈ V, v.length ≤ 30) : ∀ i : Nat, (accJ V i).length ≤ i * 42
 | 0 => Nat.zero_le _
 | i + 1 => by
  have h1 := pre_len V hV i
  have h2 := word_len i
  have h3 := val_len V hV i
  simp only [accJ, List.length_append, List.length_cons, List.length_nil]
  omega
theorem acc_text (g s k sz sl of gp lt ea : Int) (d : Bool) : accJ (valsL g s k sz sl of gp lt ea d) 10 = textW g s k sz sl of gp lt ea d := by
 unfold textW
 simp [accJ, preJ, valsL, wordsW, weaveL, Lib.join, List.intercalate]
def frRT (b : Nat) (V : List (List UInt8)) (i : Nat) : Fr := [(4, .sl (some ⟨b, 0, none⟩) 10 10), (5, .so (mkB (accJ V i))), (6, .io .i64 (i : Int))]
noncomputable def B63 : Code := (Tryz.f63.body).getD .skip
set_option maxHeartbeats 4000000 in
set_option maxRecDepth 100000 in
theorem rwords_any (w : World) : Calls Tryz.prog 63 #[] w fun e w' => ∃ ρc, e = .returned ((SV.ls 0 0 10 10).den ρc) ∧ WInv w.heap.size w ρc [(wordsL, 9)] w' := by
 refine enter (fn := Tryz.f63) (c := B63) [] Tryz.func63 rfl rfl ?_
 refine zN [0] 1 ⟨.exit .ret, [], [(0, .ls 0 0 10 10)], [([.v (.string (ByteArray.mk #[103, 114, 111, 117, 112, 115])), .v (.string (ByteArray.mk #[115, 111, 117, 114, 99, 101, 115])), .v (.string (ByteArray.mk #[107, 105, 110, 100])), .v (.string (ByteArray.mk #[115, 105, 122, 101])), .v (.string (ByteArray.mk #[115, 108, 105, 100, 101])), .v (.string (ByteArray.mk #[111, 102, 102, 115, 101, 116])), .v (.string (ByteArray.mk #[103, 97, 112])), .v (.string (ByteArray.mk #[108, 97, 116, 101])), .v (.string (ByteArray.mk #[101, 97, 114, 108, 121])), .v (.string (ByteArray.mk #[100, 105, 115, 99, 97, 114, 100]))], 9)]⟩ ?_
 refine zE (.ls 0 0 10 10) ?_
 intro ρ w9 hm' hf
 exact ⟨ρ, rfl, hm'⟩
noncomputable def B64 : Code := (Tryz.f64.body).getD .skip
set_option maxHeartbeats 4000000 in
set_option maxRecDepth 100000 in
theorem rkinds_any (w : World) : Calls Tryz.prog 64 #[] w fun e w' => ∃ ρc, e = .returned ((SV.ls 0 0 4 4).den ρc) ∧ WInv w.heap.size w ρc [([.v (.string ⟨#[]⟩), .v (.string ⟨#[116, 117, 109, 98, 108, 105, 110, 103]⟩), .v (.string ⟨#[115, 108, 105, 100, 105, 110, 103]⟩), .v (.string ⟨#[115, 101, 115, 115, 105, 111, 110]⟩)], 9)] w' := by
 refine enter (fn := Tryz.f64) (c := B64) [] Tryz.func64 rfl rfl ?_
 refine zN [0] 1 ⟨.exit .ret, [], [(0, .ls 0 0 4 4)], [([.v (.string (ByteArray.mk #[])), .v (.string (ByteArray.mk #[116, 117, 109, 98, 108, 105, 110, 103])), .v (.string (ByteArray.mk #[115, 108, 105, 100, 105, 110, 103])), .v (.string (ByteArray.mk #[115, 101, 115, 115, 105, 111, 110]))], 9)]⟩ ?_
 refine zE (.ls 0 0 4 4) ?_
 intro ρ w9 hm' hf
 exact ⟨ρ, rfl, hm'⟩
noncomputable def B46 : Code := (Tryz.f46.body).getD .skip
set_option maxHeartbeats 20000000 in
set_option maxRecDepth 100000 in
theorem rjobt_go (g s k sz sl of gp lt ea : Int) (d : Bool) (hwr : wrongR g s k sz sl of gp lt ea = 0) (w : World) :
  Calls Tryz.prog 46 #[.agg #[.int .i64 g, .int .i64 s, .int .i64 k, .int .i64 sz, .int .i64 sl, .int .i64 of, .int .i64 gp, .int .i64 lt, .int .i64 ea, .bool d]] w fun e w' => e = .returned (.string (mkB (textW g s k sz sl of gp lt ea d))) ∧ Below w.heap.size w w' := by
 obtain ⟨⟨g1, g2⟩, ⟨s1, s2⟩, hk, ⟨z1, z2⟩, ⟨l1, l2⟩, ⟨o1, o2⟩, ⟨p1, p2⟩, ⟨t1, t2⟩, e1, e2⟩ := valid_of hwr
 have hV : ∀ v ∈ (valsL g s k sz sl of gp lt ea d), v.length ≤ 30 := by
  intro v hv
  simp only [valsL, List.mem_cons, List.not_mem_nil, or_false] at hv
  have hi : ∀ n : Int, in64 n → (Lib.itoa n).length ≤ 30 := fun n h => Nat.le_trans (itoa_short h) (by omega)
  rcases hv with rfl | rfl | rfl | rfl | rfl | rfl | rfl | rfl | rfl | rfl
  all_goals first | exact hi _ ⟨by omega, by omega⟩ | (rcases hk with h | h | h <;> subst h <;> decide) | (cases d <;> decide)
 have hkw : (strsW kindsL)[k.toNat * 1]? = some (Value.string (mkB (kindW k))) := by rcases hk with h | h | h <;> subst h <;> rfl
 refine enter (fn := Tryz.f46) (c := B46) [.agg (cfAO g s k sz sl of gp lt ea d)] Tryz.func46 rfl rfl ?_
 refine At.join (σ := Unit) (fun _ => noF) (fun _ => ⟨.any (opsOf (sub B46 pAO11)) 32 [], [.seq (sub B46 [1, 1, 1, 1])], [(1, .lp 0 0), (3, .so (mkB (saysW d)))], [((cfAO g s k sz sl of gp lt ea d), 25)]⟩) (fun rest => ?_) (fun _ => ?_)
 ·refine zNq [1, 3, 8] 1 ?_
  rcases Bool.eq_false_or_eq_true (d) with b0 | b0
  ·refine zR 8 b0 ?_
   refine zN [1, 3] 1 ⟨.any (opsOf (sub B46 pAO11)) 32 [], [.seq (sub B46 [1, 1, 1, 1])], [(1, .lp 0 0), (3, .v (.string (ByteArray.mk #[121, 101, 115])))], [((cfAO g s k sz sl of gp lt ea d), 25)]⟩ ?_
   obtain rfl : d = true := b0
   refine At.soft 3 (ByteArray.mk #[121, 101, 115]) (by kernel_rfl) ?_
   refine At.to (noF_stable) (noF_fewer) 0 0 [1, 3] 1 ⟨.any (opsOf (sub B46 pAO11)) 32 [], [.seq (sub B46 [1, 1, 1, 1])], [(1, .lp 0 0), (3, .so (mkB (saysW true)))], [([.io .i64 g, .io .i64 s, .io .i64 k, .io .i64 sz, .io .i64 sl, .io .i64 of, .io .i64 gp, .io .i64 lt, .io .i64 ea, .bo true], 25)]⟩ (by kernel_rfl) (by kernel_rfl) ?_
   exact rest ()
  refine zR 8 b0 ?_
  refine zN [1, 3] 1 ⟨.any (opsOf (sub B46 pAO11)) 32 [], [.seq (sub B46 [1, 1, 1, 1])], [(1, .lp 0 0), (3, .v (.string (ByteArray.mk #[110, 111])))], [((cfAO g s k sz sl of gp lt ea d), 25)]⟩ ?_
  obtain rfl : d = false := b0
  refine At.soft 3 (ByteArray.mk #[110, 111]) (by kernel_rfl) ?_
  refine At.to (noF_stable) (noF_fewer) 0 0 [1, 3] 1 ⟨.any (opsOf (sub B46 pAO11)) 32 [], [.seq (sub B46 [1, 1, 1, 1])], [(1, .lp 0 0), (3, .so (mkB (saysW false)))], [([.io .i64 g, .io .i64 s, .io .i64 k, .io .i64 sz, .io .i64 sl, .io .i64 of, .io .i64 gp, .io .i64 lt, .io .i64 ea, .bo false], 25)]⟩ (by kernel_rfl) (by kernel_rfl) ?_
  exact rest ()
 refine At.drawnE [(0, .eq (.lp 0 0)), (1, .eq (.io .i64 g)), (2, .eq (.so (mkB (Lib.itoa g)))), (3, .eq (.lp 0 1)), (4, .eq (.io .i64 s)), (5, .eq (.so (mkB (Lib.itoa s)))), (6, .ex Nat (fun b => .sl (some ⟨b, 0, none⟩) 4 4) (fun b => Cel ⟨b, 0, none⟩ (strsW kindsL))), (7, .eq (.lp 0 2)), (8, .eq (.io .i64 k)), (9, .ex Nat (fun b => .v (.pointer (some ((⟨b, 0, none⟩ : Addr).add (k.toNat * 1))))) (fun b => Cel ⟨b, 0, none⟩ (strsW kindsL))), (10, .eq (.so (mkB (kindW k)))), (11, .eq (.lp 0 3)), (12, .eq (.io .i64 sz)), (13, .eq (.so (mkB (Lib.itoa sz)))), (14, .eq (.lp 0 4)), (15, .eq (.io .i64 sl)), (16, .eq (.so (mkB (Lib.itoa sl)))), (17, .eq (.lp 0 5)), (18, .eq (.io .i64 of)), (19, .eq (.so (mkB (Lib.itoa of)))), (20, .eq (.lp 0 6)), (21, .eq (.io .i64 gp)), (22, .eq (.so (mkB (Lib.itoa gp)))), (23, .eq (.lp 0 7)), (24, .eq (.io .i64 lt)), (25, .eq (.so (mkB (Lib.itoa lt)))), (26, .eq (.lp 0 8)), (27, .eq (.io .i64 ea)), (28, .eq (.so (mkB (Lib.itoa ea)))), (29, .eq (.so (mkB (saysW d)))), (30, .ex Nat (fun b => .sl (some ⟨b, 0, none⟩) 10 10) (fun b => Cel ⟨b, 0, none⟩ (strsW (valsL g s k sz sl of gp lt ea d)))), (31, .ex Nat (fun b => .sl (some ⟨b, 0, none⟩) 10 10) (fun b => Cel ⟨b, 0, none⟩ (strsW (valsL g s k sz sl of gp lt ea d))))] [0, 1, 2, 3, 4, 5, 6, 7, 8, 9, 10, 11, 12, 13, 14, 15, 16, 17, 18, 19, 20, 21, 22, 23, 24, 25, 26, 27, 28, 29, 30, 31] [] 31 4 (fun b => .sl (some ⟨b, 0, none⟩) 10 10) (fun b => Cel ⟨b, 0, none⟩ (strsW (valsL g s k sz sl of gp lt ea d))) rfl (by kernel_rfl) (by kernel_rfl) noF_stable (by exact ⟨trivial, trivial, trivial, trivial, trivial, trivial, fun b => Cel.stable, trivial, trivial, fun b => Cel.stable, trivial, trivial, trivial, trivial, trivial, trivial, trivial, trivial, trivial, trivial, trivial, trivial, trivial, trivial, trivial, trivial, trivial, trivial, trivial, trivial, fun b => Cel.stable, fun b => Cel.stable, trivial⟩) (by exact ⟨StepK.pure (by kernel_rfl) rfl,
  StepK.pure (by kernel_rfl) rfl,
  StepK.call 47 [.io .i64 g] (by kernel_rfl) rfl (by kernel_rfl) (fun ρ w1 hm hf => (rdigits_any g ⟨by omega, by omega⟩ w1).mono fun e w2 h => ⟨_, h.1, rfl, h.2⟩),
  StepK.pure (by kernel_rfl) rfl,
  StepK.pure (by kernel_rfl) rfl,
  StepK.call 47 [.io .i64 s] (by kernel_rfl) rfl (by kernel_rfl) (fun ρ w1 hm hf => (rdigits_any s ⟨by omega, by omega⟩ w1).mono fun e w2 h => ⟨_, h.1, rfl, h.2⟩),
  StepK.call 64 [] (by kernel_rfl) rfl (by kernel_rfl) (fun ρ w1 hm hf => (rkinds_any w1).mono fun e w2 h => by
   obtain ⟨ρc, h1, h2⟩ := h
   obtain ⟨h3, h4⟩ := cel_new hm h2 (ys := strsW kindsL) (fun ρ => rfl)
   exact ⟨_, h1, ⟨nth ρc 0, rfl, h3⟩, h4⟩),
  StepK.pure (by kernel_rfl) rfl,
  StepK.pure (by kernel_rfl) rfl,
  StepK.idxX 6 15 4 4 1 k (strsW kindsL) rfl (by kernel_rfl) (by kernel_rfl) rfl (fun b => by kernel_rfl) (by omega) (by omega),
  StepK.ldX 9 18 (k.toNat * 1) (strsW kindsL) (by kernel_rfl) rfl (by kernel_rfl) rfl (fun b => by kernel_rfl) (fun ρ => hkw),
  StepK.pure (by kernel_rfl) rfl,
  StepK.pure (by kernel_rfl) rfl,
  StepK.call 47 [.io .i64 sz] (by kernel_rfl) rfl (by kernel_rfl) (fun ρ w1 hm hf => (rdigits_any sz ⟨by omega, by omega⟩ w1).mono fun e w2 h => ⟨_, h.1, rfl, h.2⟩),
  StepK.pure (by kernel_rfl) rfl,
  StepK.pure (by kernel_rfl) rfl,
  StepK.call 47 [.io .i64 sl] (by kernel_rfl) rfl (by kernel_rfl) (fun ρ w1 hm hf => (rdigits_any sl ⟨by omega, by omega⟩ w1).mono fun e w2 h => ⟨_, h.1, rfl, h.2⟩),
  StepK.pure (by kernel_rfl) rfl,
  StepK.pure (by kernel_rfl) rfl,
  StepK.call 47 [.io .i64 of] (by kernel_rfl) rfl (by kernel_rfl) (fun ρ w1 hm hf => (rdigits_any of ⟨by omega, by omega⟩ w1).mono fun e w2 h => ⟨_, h.1, rfl, h.2⟩),
  StepK.pure (by kernel_rfl) rfl,
  StepK.pure (by kernel_rfl) rfl,
  StepK.call 47 [.io .i64 gp] (by kernel_rfl) rfl (by kernel_rfl) (fun ρ w1 hm hf => (rdigits_any gp ⟨by omega, by omega⟩ w1).mono fun e w2 h => ⟨_, h.1, rfl, h.2⟩),
  StepK.pure (by kernel_rfl) rfl,
  StepK.pure (by kernel_rfl) rfl,
  StepK.call 47 [.io .i64 lt] (by kernel_rfl) rfl (by kernel_rfl) (fun ρ w1 hm hf => (rdigits_any lt ⟨by omega, by omega⟩ w1).mono fun e w2 h => ⟨_, h.1, rfl, h.2⟩),
  StepK.pure (by kernel_rfl) rfl,
  StepK.pure (by kernel_rfl) rfl,
  StepK.call 47 [.io .i64 ea] (by kernel_rfl) rfl (by kernel_rfl) (fun ρ w1 hm hf => (rdigits_any ea ⟨by omega, by omega⟩ w1).mono fun e w2 h => ⟨_, h.1, rfl, h.2⟩),
  StepK.pure (by kernel_rfl) rfl,
  StepK.bs 10 [.so (mkB (Lib.itoa g)), .so (mkB (Lib.itoa s)), .so (mkB (kindW k)), .so (mkB (Lib.itoa sz)), .so (mkB (Lib.itoa sl)), .so (mkB (Lib.itoa of)), .so (mkB (Lib.itoa gp)), .so (mkB (Lib.itoa lt)), .so (mkB (Lib.itoa ea)), .so (mkB (saysW d))] 9 (strsW (valsL g s k sz sl of gp lt ea d)) rfl (by kernel_rfl) (by kernel_rfl) (fun ρ => rfl),
  StepK.pureXE 30 39 rfl (by kernel_rfl) (by kernel_rfl) rfl (fun b => by kernel_rfl), trivial⟩) (by unfold subFr; kernel_rfl) (by kernel_rfl) rfl ?_
 intro b
 refine At.mono (F' := Cel ⟨b, 0, none⟩ (strsW (valsL g s k sz sl of gp lt ea d))) (fun ρ w1 h => h.2) ?_
 refine zT Cel.stable Cel.fewer [4, 5, 6] 0 ⟨.code (sub B46 pAO7), [.block 0, .seq (sub B46 pAO8)], [(4, .sl (some (Addr.mk b 0 none)) 10 10), (5, .v (.string (ByteArray.mk #[]))), (6, .v (.int .i64 0))], []⟩ ?_
 refine At.soft 5 (ByteArray.mk #[]) (by kernel_rfl) ?_
 refine At.canonT [6] _ rfl ?_
 refine At.loop (σ := Nat) (sub B46 pAO6) (frRT b (valsL g s k sz sl of gp lt ea d)) (fun _ => []) (fun i ρ w1 => Cel ⟨b, 0, none⟩ (strsW (valsL g s k sz sl of gp lt ea d)) ρ w1 ∧ i ≤ 10) (fun i => 10 - i) 0 (by kernel_rfl) (by unfold subFr; kernel_rfl) (by kernel_rfl) (fun _ _ _ _ h => ⟨h, Nat.zero_le _⟩) ?_
 intro i
 refine At.pure fun hi0 => ?_
 refine At.join (σ := Unit) (fun _ ρ w1 => Cel ⟨b, 0, none⟩ (strsW (valsL g s k sz sl of gp lt ea d)) ρ w1 ∧ i < 10) (fun _ => ⟨.any (opsOf (sub B46 pAO2)) 13 [], [.block 1, .seq (sub B46 pAO5), .next (Sx.Next w.heap.size w Tryz.f46.ntmps (frRT b (valsL g s k sz sl of gp lt ea d)) (fun x => []) (fun i ρ w1 => Cel (Addr.mk b 0 none) (strsW (valsL g s k sz sl of gp lt ea d)) ρ w1 ∧ i ≤ 10) (fun i => 10 - i) i), .block 0, .seq (sub B46 pAO8)], [(4, .sl (some (Addr.mk b 0 none)) 10 10), (5, .so (mkB (preJ (valsL g s k sz sl of gp lt ea d) i))), (6, .io .i64 (i : Int))], []⟩) (fun rest2 => ?_) (fun _ => ?_)
 ·refine zTq Cel.stable Cel.fewer [4, 5, 6, 43] 0 ?_
  rcases Bool.eq_false_or_eq_true (decide ((↑i : Int) < 10)) with b0 | b0
  ·refine zR 43 b0 ?_
   refine zT Cel.stable Cel.fewer [4, 5, 6, 47] 0 ⟨.code (sub B46 [1, 1, 1, 1, 1, 0, 1, 4, 4, 1, 0, 4, 0, 1]), [.seq (sub B46 pAO2), .block 1, .seq (sub B46 pAO5), .next (Sx.Next w.heap.size w Tryz.f46.ntmps (frRT b (valsL g s k sz sl of gp lt ea d)) (fun x => []) (fun i ρ w1 => Cel (Addr.mk b 0 none) (strsW (valsL g s k sz sl of gp lt ea d)) ρ w1 ∧ i ≤ 10) (fun i => 10 - i) i), .block 0, .seq (sub B46 pAO8)], [(4, .sl (some (Addr.mk b 0 none)) 10 10), (5, .so (mkB (accJ (valsL g s k sz sl of gp lt ea d) i))), (6, .io .i64 (↑i : Int)), (47, .bo (decide ((↑i : Int) > 0)))], []⟩ ?_
   rcases Bool.eq_false_or_eq_true (decide ((↑i : Int) > 0)) with b1 | b1
   ·refine zR 47 b1 ?_
    let kn0 : K := .next (Sx.Next w.heap.size w Tryz.f46.ntmps (frRT b (valsL g s k sz sl of gp lt ea d)) (fun x => []) (fun i ρ w1 => Cel (Addr.mk b 0 none) (strsW (valsL g s k sz sl of gp lt ea d)) ρ w1 ∧ i ≤ 10) (fun i => 10 - i) i)
    refine zT Cel.stable Cel.fewer [4, 6, 48] 0 ⟨pops B46 [1, 1, 1, 1, 1, 0, 1, 4, 4, 1, 0, 4, 0, 1, 2] 1, [.seq (sub B46 pAO2), .block 1, .seq (sub B46 pAO5), kn0, .block 0, .seq (sub B46 pAO8)], [(4, .sl (some (Addr.mk b 0 none)) 10 10), (6, .io .i64 (↑i : Int)), (48, .so (mkB (accJ (valsL g s k sz sl of gp lt ea d) i)))], []⟩ ?_
    have hp := acc_len (valsL g s k sz sl of gp lt ea d) hV i
    refine catX (accJ (valsL g s k sz sl of gp lt ea d) i) [32] (by kernel_rfl) (by simp only [List.length_cons, List.length_nil]; omega) Cel.stable ?_
    rw [acc_pre (valsL g s k sz sl of gp lt ea d) i (by have := of_decide_eq_true b1; omega)]
    refine zT Cel.stable Cel.fewer [4, 5, 6] 0 ⟨.any (opsOf (sub B46 pAO2)) 13 [], [.block 1, .seq (sub B46 pAO5), kn0, .block 0, .seq (sub B46 pAO8)], [(4, .sl (some (Addr.mk b 0 none)) 10 10), (5, .so (mkB (preJ (valsL g s k sz sl of gp lt ea d) i))), (6, .io .i64 (↑i : Int))], []⟩ ?_
    exact At.mono (fun ρ w1 h => ⟨h, by have := of_decide_eq_true b0; omega⟩) (rest2 ())
   refine zR 47 b1 ?_
   refine zT Cel.stable Cel.fewer [4, 5, 6] 0 ⟨.any (opsOf (sub B46 pAO2)) 13 [], [.block 1, .seq (sub B46 pAO5), .next (Sx.Next w.heap.size w Tryz.f46.ntmps (frRT b (valsL g s k sz sl of gp lt ea d)) (fun x => []) (fun i ρ w1 => Cel (Addr.mk b 0 none) (strsW (valsL g s k sz sl of gp lt ea d)) ρ w1 ∧ i ≤ 10) (fun i => 10 - i) i), .block 0, .seq (sub B46 pAO8)], [(4, .sl (some (Addr.mk b 0 none)) 10 10), (5, .so (mkB (accJ (valsL g s k sz sl of gp lt ea d) i))), (6, .io .i64 (↑i : Int))], []⟩ ?_
   rw [acc_zero (valsL g s k sz sl of gp lt ea d) i (by have := of_decide_eq_false b1; omega)]
   exact At.mono (fun ρ w1 h => ⟨h, by have := of_decide_eq_true b0; omega⟩) (rest2 ())
  refine zR 43 b0 ?_
  refine zT Cel.stable Cel.fewer [2] 0 ⟨.exit .ret, [], [(2, .so (mkB (accJ (valsL g s k sz sl of gp lt ea d) i)))], []⟩ ?_
  refine zE (.so (mkB (accJ (valsL g s k sz sl of gp lt ea d) i))) ?_
  have hi : i = 10 := by have := of_decide_eq_false b0; omega
  subst hi
  intro ρ w9 hm' hf
  exact ⟨by rw [← acc_text g s k sz sl of gp lt ea d]; rfl, hm'.below⟩
 refine At.pure fun hi => ?_
 have hp := pre_len (valsL g s k sz sl of gp lt ea d) hV i
 have hw1 := word_len i
 have hv1 := val_len (valsL g s k sz sl of gp lt ea d) hV i
 refine At.cutN (σ := Unit) (fun _ => [(4, .sl (some ⟨b, 0, none⟩) 10 10), (5, .so (mkB (preJ (valsL g s k sz sl of gp lt ea d) i ++ wordsW.getD i [] ++ [32] ++ (valsL g s k sz sl of gp lt ea d).getD i []))), (6, .io .i64 (i : Int))]) (fun _ => []) (fun _ => Cel ⟨b, 0, none⟩ (strsW (valsL g s k sz sl of gp lt ea d))) rfl ?_ (fun _ => ?_)
 ·refine At.purify0 (fun e a w h => h.1) 1 ?_
  refine At.toJ (Cel.stable) Cel.fewer 0 0 [4, 6, 50] 0 ⟨.any (opsOf (sub B46 pAO2)) 12 [0], [], [(4, .sl (some ⟨b, 0, none⟩) 10 10), (6, .io .i64 (i : Int)), (50, .so (mkB (preJ (valsL g s k sz sl of gp lt ea d) i)))], []⟩ (by kernel_rfl) (by kernel_rfl) ?_
  refine At.drawn0 [(1, .ex Nat (fun b => .sl (some ⟨b, 0, none⟩) 10 10) (fun b => Cel ⟨b, 0, none⟩ (strsW wordsW))), (2, .eq (.io .i64 (i : Int))), (3, .ex Nat (fun b => .v (.pointer (some ((⟨b, 0, none⟩ : Addr).add ((i : Int).toNat * 1))))) (fun b => Cel ⟨b, 0, none⟩ (strsW wordsW))), (4, .eq (.so (mkB (wordsW.getD i [])))), (5, .eq (.so (mkB (preJ (valsL g s k sz sl of gp lt ea d) i ++ wordsW.getD i [])))), (6, .eq (.so (mkB (preJ (valsL g s k sz sl of gp lt ea d) i ++ wordsW.getD i [] ++ [32])))), (7, .eq (.sl (some ⟨b, 0, none⟩) 10 10)), (8, .eq (.io .i64 (i : Int))), (9, .eq (.v (.pointer (some ((⟨b, 0, none⟩ : Addr).add ((i : Int).toNat * 1)))))), (10, .eq (.so (mkB ((valsL g s k sz sl of gp lt ea d).getD i [])))), (11, .eq (.so (mkB (preJ (valsL g s k sz sl of gp lt ea d) i ++ wordsW.getD i [] ++ [32] ++ (valsL g s k sz sl of gp lt ea d).getD i [])))), (12, .eq (.so (mkB (preJ (valsL g s k sz sl of gp lt ea d) i ++ wordsW.getD i [] ++ [32] ++ (valsL g s k sz sl of gp lt ea d).getD i []))))] [1, 2, 3, 4, 5, 6, 7, 8, 9, 10, 11, 12] [(4, .sl (some ⟨b, 0, none⟩) 10 10), (5, .so (mkB (preJ (valsL g s k sz sl of gp lt ea d) i ++ wordsW.getD i [] ++ [32] ++ (valsL g s k sz sl of gp lt ea d).getD i []))), (6, .io .i64 (i : Int))] rfl (by kernel_rfl) (by kernel_rfl) Cel.stable (by exact ⟨fun b => Cel.stable, trivial, fun b => Cel.stable, trivial, trivial, trivial, trivial, trivial, trivial, trivial, trivial, trivial, trivial⟩) (by exact ⟨StepK.call 63 [] (by kernel_rfl) rfl (by kernel_rfl) (fun ρ w1 hm hf => (rwords_any w1).mono fun e w2 h => by
    obtain ⟨ρc, h1, h2⟩ := h
    obtain ⟨h3, h4⟩ := cel_new hm h2 (ys := strsW wordsW) (fun ρ => rfl)
    exact ⟨_, h1, ⟨nth ρc 0, rfl, h3⟩, h4⟩),
   StepK.pure (by kernel_rfl) rfl,
   StepK.idxX 1 51 10 10 1 (i : Int) (strsW wordsW) rfl (by kernel_rfl) (by kernel_rfl) rfl (fun b => by kernel_rfl) (by omega) (by omega),
   StepK.ldX 3 53 ((i : Int).toNat * 1) (strsW wordsW) (by kernel_rfl) rfl (by kernel_rfl) rfl (fun b => by kernel_rfl) (fun ρ => strs_at (by show i < 10; omega)),
   StepK.cat (mkB (preJ (valsL g s k sz sl of gp lt ea d) i)) (mkB (wordsW.getD i [])) (by kernel_rfl) rfl (by rw [mkB_size]; rw [mkB_size]; (try simp only [List.length_append, List.length_cons, List.length_nil] at *); omega) (fun ρ => by rw [mkB_app]; rfl),
   StepK.cat (mkB (preJ (valsL g s k sz sl of gp lt ea d) i ++ wordsW.getD i [])) (⟨#[32]⟩) (by kernel_rfl) rfl (by rw [mkB_size]; show _ + 1 ≤ _; (try simp only [List.length_append, List.length_cons, List.length_nil] at *); omega) (fun ρ => by rw [show (ByteArray.mk #[32]) = mkB [32] from rfl, mkB_app]; rfl),
   StepK.pure (by kernel_rfl) rfl,
   StepK.pure (by kernel_rfl) rfl,
   StepK.idx ⟨b, 0, none⟩ 10 1 (i : Int) (by kernel_rfl) rfl (by omega) (by omega) (fun ρ => rfl),
   StepK.ldx ((⟨b, 0, none⟩ : Addr).add ((i : Int).toNat * 1)) (by kernel_rfl) rfl (fun ρ w1 hm hf => hf.1 _ _ (strs_at (by show i < 10; omega))),
   StepK.cat (mkB (preJ (valsL g s k sz sl of gp lt ea d) i ++ wordsW.getD i [] ++ [32])) (mkB ((valsL g s k sz sl of gp lt ea d).getD i [])) (by kernel_rfl) rfl (by rw [mkB_size]; rw [mkB_size]; (try simp only [List.length_append, List.length_cons, List.length_nil] at *); omega) (fun ρ => by rw [mkB_app]; rfl),
   StepK.pure (by kernel_rfl) rfl, trivial⟩) (by unfold subFr; kernel_rfl) ?_
  exact At.fin () rfl rfl (by unfold subFr; kernel_rfl) rfl (fun _ _ _ _ h => h)
 refine zT Cel.stable Cel.fewer [4, 5, 6] 0 ⟨.exit .normal, [.next (Sx.Next w.heap.size w Tryz.f46.ntmps (frRT b (valsL g s k sz sl of gp lt ea d)) (fun x => []) (fun i ρ w1 => Cel (Addr.mk b 0 none) (strsW (valsL g s k sz sl of gp lt ea d)) ρ w1 ∧ i ≤ 10) (fun i => 10 - i) i), .block 0, .seq (sub B46 pAO8)], [(4, .sl (some (Addr.mk b 0 none)) 10 10), (5, .so (mkB (preJ (valsL g s k sz sl of gp lt ea d) i ++ wordsW.getD i [] ++ [32] ++ (valsL g s k sz sl of gp lt ea d).getD i []))), (6, .io .i64 (IntKind.i64.wrap ((↑i : Int) + 1)))], []⟩ ?_
 have hw3 : IntKind.i64.wrap ((i : Int) + 1) = ((i + 1 : Nat) : Int) := by
  rw [wrap63 (by omega) (by omega)]
  omega
 rw [hw3]
 refine At.next (σ := Nat) (i + 1) rfl rfl (by unfold subFr; kernel_rfl) (by kernel_rfl) ?_ ?_
 ·intro ρ a' w' hi' hf
  exact ⟨hf, by omega⟩
 show 10 - (i + 1) < 10 - i
 omega
end Go.Proofs.YthfpekhpeiebjaaGreatDoor
end
section
/-! A string put behind the first of several rows of one's own, local blocks of other types standing. -/
namespace Go.Sx
open Go.RowKit
section
variable {P : Program} {Q : Exit → Act → World → Prop} {N : Nat} {w0 : World} {ntm : Nat} {F : List Nat → World → Prop}
theorem At.apR {s : S} {A : Option Addr} {n c : Nat} {xs : List Value} (t u e : TypeId) (sv : SV) (str : ByteArray) (hq : apsI ntm s = some (t, u, .sl A n c, sv)) (hsv : ∀ ρ, sv.den ρ = .string str) (ht : P.underlying t = some (.slice e)) (hu : P.underlying u = some .string)
  (hinfo : (P.info? e).map (fun i => (i.zero, i.size, i.bytes)) = some (some (.int .u8 0), 1, 1)) (hlen : n + str.size ≤ 140737488355328) (hloc : (s.loc.all fun p => !Nat.beq p.2 e) = true)
  (h : ∀ A' c', At P Q N w0 ntm (Rws N (⟨e, 1, A', n + str.size, c', xs ++ Lib.strCells str⟩ :: [])) (s.tail ntm (.sl A' (n + str.size) c'))) : At P Q N w0 ntm (Rws N (⟨e, 1, A, n, c, xs⟩ :: [])) s := by
 unfold apsI at hq
 split at hq
 ·rename_i o ho hd hp
  refine At.opx (X := Option Addr × Nat) o (fun x => .sl x.1 (n + str.size) x.2) (fun x => Rws N (⟨e, 1, x.1, n + str.size, x.2, xs ++ Lib.strCells str⟩ :: [])) ho hd hp ?_ (fun x => h x.1 x.2)
  intro ρ a w hi hf
  obtain ⟨i, hi1, hi2⟩ := Option.map_eq_some_iff.1 hinfo
  simp only [Prod.mk.injEq] at hi2
  have hrow := hf.1 _ (List.mem_cons_self ..)
  simp only at hrow
  obtain ⟨v', w', hrun, hown, hg, _⟩ := Lib.run_append_own_string (P := P) w N t u o.type e i ht hu hi1 hi2.1 hi2.2.1 hi2.2.2 (.slice A n c) n xs hrow.1 str (by simp only [maxLen]; omega) hlen hi.mem.hN
  obtain ⟨A', c', rfl⟩ : ∃ A' c', v' = .slice A' (n + str.size) c' := by
   rcases hown.2 with ⟨hv, h0⟩ | ⟨g, cap, cur, hv, _⟩
   ·exact ⟨none, 0, by rw [hv, h0]⟩
   exact ⟨_, _, hv⟩
  have hnew : ∀ g, (Value.slice A' (n + str.size) c').ownBlock = some g → g ∉ ρ := by
   intro g hgo hm
   obtain ⟨i0, hi0, he⟩ := List.getElem_of_mem hm
   have hil : i0 < s.loc.length := by rw [← hi.mem.len]; exact hi0
   rcases hp0 : s.loc[i0] with ⟨cc, tt⟩
   have hc := hi.mem.cells i0 cc tt (by rw [List.getElem?_eq_getElem hil, hp0])
   have hnt : nth ρ i0 = g := by simp only [nth, List.getD, List.getElem?_eq_getElem hi0, Option.getD_some, he]
   rw [hnt] at hc
   have hne : (Value.slice A n c).ownBlock ≠ some g := fun h0 => hrow.2 g h0 hm
   have hsame := hg.block g (Array.getElem?_eq_some_iff.1 hc).1 (fun h0 => hne h0.symm)
   rcases hown.2 with ⟨hv, _⟩ | ⟨g2, cap, cur, hv, _, hcur, _⟩
   ·rw [hv] at hgo; cases hgo
   rw [hv] at hgo
   simp only [Value.ownBlock, Option.some.injEq] at hgo
   subst hgo
   rw [hsame, hc] at hcur
   simp only [Option.some.injEq, Obj.cells.injEq] at hcur
   have h9 := List.all_eq_true.1 hloc (cc, tt) (by rw [← hp0]; exact List.getElem_mem _)
   simp only [Bool.not_eq_true'] at h9
   rw [hcur.2.1] at h9
   simp at h9
  refine ⟨(A', c'), w', run_apsQ hi.act hq (by rw [hsv]; exact hrun), hi.mem.grown hg (fun g hgo => ⟨(hrow.1.lt g hgo).1, hrow.2 g hgo⟩), ⟨fun x hx => ?_, List.pairwise_singleton _ _⟩⟩
  rw [List.mem_singleton] at hx
  subst hx
  exact ⟨hown, hnew⟩
 cases hq
end
end Go.Sx
end
section
namespace Go.Proofs.YthfpekhpeiebjaaGreatDoor
open Go.RowKit Go.Sx
noncomputable def B15 : Code := (Tryz.f15.body).getD .skip
theorem stW_one (xs : List St) : ∀ u ∈ stW xs, u.oneCell' = true := by
 intro u hu
 obtain ⟨x, _, hx⟩ := List.mem_flatMap.1 hu
 obtain ⟨kd, ik, key, t, v, src, wk, wks, bit, mask⟩ := x
 simp only [St.w, List.mem_cons, List.not_mem_nil, or_false] at hx
 rcases hx with rfl | rfl | rfl | rfl | rfl | rfl | rfl | rfl | rfl | rfl <;> rfl
theorem row_sls {base n c : Nat} {A : Option Addr} {xs : List St} {ρ : List Nat} {w : World} (h : Row base 41 10 A n c (stW xs) ρ w) (hn : n = xs.length) : SlS w A n xs := by
 refine ⟨hn, fun ha => ?_, fun a ha j u hj => ?_⟩
 ·subst ha
  rcases h.1.2 with ⟨h2, h3⟩ | ⟨g, cap, cur, hv, _⟩
  ·injection h2 with _ h4 _
   exact List.eq_nil_of_length_eq_zero (by omega)
  cases hv
 subst ha
 have hj' := (List.getElem?_eq_some_iff.1 hj).1
 have hlen := h.len
 obtain ⟨g, hg, hc⟩ := h.cell (j := j) (by omega)
 injection hg with hg
 subst hg
 rw [add_ok, Nat.zero_add, hc, hj]
def putE (w : World) (c : Cf) (wk : Int) (xs : List St) (e : Ending) (w' : World) : Prop :=
 if (chkP c wk xs).2 = 0 then ∃ A' c', e = .returned (.tuple #[.agg (c.w ++ [Value.int .i64 wk, Value.slice A' xs.length c']).toArray, .int .i64 0]) ∧ RowF w (fun _ => False) [] w.heap.size 41 10 A' xs.length c' (stW xs) [] w'
 else e = .returned (.tuple #[zscr, .int .i64 (chkP c wk xs).2]) ∧ Below w.heap.size w w'
set_option maxHeartbeats 8000000 in
set_option maxRecDepth 100000 in
theorem put_go (g s k sz sl of gp lt ea : Int) (d : Bool) (wk : Int) (A : Option Addr) (n cap : Nat) (xs : List St) (w : World) (hS : SlS w A n xs) (hn : n ≤ 10000) :
  Calls Tryz.prog 15 #[.agg #[.int .i64 g, .int .i64 s, .int .i64 k, .int .i64 sz, .int .i64 sl, .int .i64 of, .int .i64 gp, .int .i64 lt, .int .i64 ea, .bool d], .int .i64 wk, .slice A n cap] w (putE w ⟨g, s, k, sz, sl, of, gp, lt, ea, d⟩ wk xs) := by
 have hl := hS.1
 refine enterF (N := w.heap.size) (F := RowF w (fun _ => False) [] w.heap.size 41 10 none 0 0 []) (fn := Tryz.f15) (c := B15) [.agg (cfAO g s k sz sl of gp lt ea d), .io .i64 wk, .sl A n cap] Tryz.func15 rfl rfl (Nat.le_refl _) ⟨⟨⟨World.ownsRow_nil _ _ _ _, by simp [Value.ownBlock]⟩, Nat.le_refl _⟩, FrameR.start _ [] (by simp), by simp [Value.ownBlock]⟩ ?_
 refine zU RowF.stable RowF.fewer [1, 2, 3, 6] 2 ⟨.any (opsOf (sub B15 [1, 0])) 7 [], [.seq (sub B15 [1, 1])], [(1, .io .i64 wk), (2, .sl A n cap), (3, .lp 0 0), (6, .lp 1 0)], [((cfAO g s k sz sl of gp lt ea d), 25), (zAO0, 28)]⟩ ?_
 refine At.cutN (σ := Option Addr × Nat) (fun x => [(6, .lp 1 0), (8, .lp 2 0)]) (fun x => [((cfAO g s k sz sl of gp lt ea d), 25), (zAO0, 28), ([.io .i64 g, .io .i64 s, .io .i64 k, .io .i64 sz, .io .i64 sl, .io .i64 of, .io .i64 gp, .io .i64 lt, .io .i64 ea, .bo d, .io .i64 wk, .sl x.1 n x.2], 28)]) (fun x => RowF w (fun _ => False) [] w.heap.size 41 10  x.1 n x.2 (stW xs)) rfl ?_ (fun x => ?_)
 ·refine At.purify0 (fun e a w h => h.1) 20 ?_
  refine zU RowF.stable RowF.fewer [3, 6, 12, 13] 2 ⟨.any (opsOf (sub B15 [1, 0])) 5 [2, 1], [], [(3, .lp 0 0), (6, .lp 1 0), (12, .io .i64 wk), (13, .sl A n cap)], [((cfAO g s k sz sl of gp lt ea d), 25), (zAO0, 28)]⟩ ?_
  refine At.fork [0, 3, 5] rfl (by kernel_rfl) rfl (allOf.cons ?_ (allOf.cons ?_ (allOf.cons ?_ allOf.nil)))
  ·refine zU RowF.stable RowF.fewer [6, 11, 12, 13] 2 ⟨.any (opsOf (sub B15 [1, 0])) 4 [0, 2, 1], [], [(6, .lp 1 0), (11, .agg (cfAO g s k sz sl of gp lt ea d)), (12, .io .i64 wk), (13, .sl A n cap)], [((cfAO g s k sz sl of gp lt ea d), 25), (zAO0, 28)]⟩ ?_
   refine At.fork [3, 5] rfl (by kernel_rfl) rfl (allOf.cons ?_ (allOf.cons ?_ allOf.nil))
   ·refine zU RowF.stable RowF.fewer [6, 11, 12, 13] 2 ⟨.ops (opsOf (sub B15 [1, 0])) (((opsOf (sub B15 [1, 0])).toList.drop 3).take 1), [.any (opsOf (sub B15 [1, 0])) 3 [3, 0, 2, 1]], [(6, .lp 1 0), (11, .agg (cfAO g s k sz sl of gp lt ea d)), (12, .io .i64 wk), (13, .sl A n cap)], [((cfAO g s k sz sl of gp lt ea d), 25), (zAO0, 28)]⟩ ?_
    refine At.appAny 41 10 88 none 0 0 A n cap (fun _ => False) [] w.heap.size [] (stW xs) (by kernel_rfl) (by rw [stW_len, hl]) (stW_one xs) (fun e => by rw [hl, hS.2.1 e]; rfl) (fun b hb ρ w1 hm j u hj => cell_below (hS.2.2 b hb j u hj) hm.below) (by omega) (by simp only [maxLen]; omega) (Nat.le_refl _) (fun A' c' => ?_)
    rw [Nat.zero_add, List.nil_append]
    refine zU RowF.stable RowF.fewer [6, 11, 12, 14] 2 ⟨.any (opsOf (sub B15 [1, 0])) 3 [3, 0, 2, 1], [], [(6, .lp 1 0), (11, .agg (cfAO g s k sz sl of gp lt ea d)), (12, .io .i64 wk), (14, .sl A' n c')], [((cfAO g s k sz sl of gp lt ea d), 25), (zAO0, 28)]⟩ ?_
    refine At.fork [4, 5] rfl (by kernel_rfl) rfl (allOf.cons ?_ (allOf.cons ?_ allOf.nil))
    ·refine zU RowF.stable RowF.fewer [6, 8] 3 ⟨.exit .normal, [], [(6, .lp 1 0), (8, .lp 2 0)], [((cfAO g s k sz sl of gp lt ea d), 25), (zAO0, 28), ((cwAO g s k sz sl of gp lt ea d wk A' n c'), 28)]⟩ ?_
     exact At.fin (A', c') rfl rfl (by unfold subFr; kernel_rfl) rfl (fun _ _ _ _ h => h)
    refine zU RowF.stable RowF.fewer [6, 8] 3 ⟨.exit .normal, [], [(6, .lp 1 0), (8, .lp 2 0)], [((cfAO g s k sz sl of gp lt ea d), 25), (zAO0, 28), ((cwAO g s k sz sl of gp lt ea d wk A' n c'), 28)]⟩ ?_
    exact At.fin (A', c') rfl rfl (by unfold subFr; kernel_rfl) rfl (fun _ _ _ _ h => h)
   refine zU RowF.stable RowF.fewer [6, 8, 11, 12, 13] 3 ⟨.ops (opsOf (sub B15 [1, 0])) (((opsOf (sub B15 [1, 0])).toList.drop 3).take 1), [.any (opsOf (sub B15 [1, 0])) 2 [3, 5, 0, 2, 1]], [(6, .lp 1 0), (8, .lp 2 0), (11, .agg (cfAO g s k sz sl of gp lt ea d)), (12, .io .i64 wk), (13, .sl A n cap)], [((cfAO g s k sz sl of gp lt ea d), 25), (zAO0, 28), (zAO0, 28)]⟩ ?_
   refine At.appAny 41 10 88 none 0 0 A n cap (fun _ => False) [] w.heap.size [] (stW xs) (by kernel_rfl) (by rw [stW_len, hl]) (stW_one xs) (fun e => by rw [hl, hS.2.1 e]; rfl) (fun b hb ρ w1 hm j u hj => cell_below (hS.2.2 b hb j u hj) hm.below) (by omega) (by simp only [maxLen]; omega) (Nat.le_refl _) (fun A' c' => ?_)
   rw [Nat.zero_add, List.nil_append]
   refine zU RowF.stable RowF.fewer [6, 8] 3 ⟨.exit .normal, [], [(6, .lp 1 0), (8, .lp 2 0)], [((cfAO g s k sz sl of gp lt ea d), 25), (zAO0, 28), ((cwAO g s k sz sl of gp lt ea d wk A' n c'), 28)]⟩ ?_
   exact At.fin (A', c') rfl rfl (by unfold subFr; kernel_rfl) rfl (fun _ _ _ _ h => h)
  ·refine zU RowF.stable RowF.fewer [3, 6, 12, 13] 2 ⟨.ops (opsOf (sub B15 [1, 0])) (((opsOf (sub B15 [1, 0])).toList.drop 3).take 1), [.any (opsOf (sub B15 [1, 0])) 4 [3, 2, 1]], [(3, .lp 0 0), (6, .lp 1 0), (12, .io .i64 wk), (13, .sl A n cap)], [((cfAO g s k sz sl of gp lt ea d), 25), (zAO0, 28)]⟩ ?_
   refine At.appAny 41 10 88 none 0 0 A n cap (fun _ => False) [] w.heap.size [] (stW xs) (by kernel_rfl) (by rw [stW_len, hl]) (stW_one xs) (fun e => by rw [hl, hS.2.1 e]; rfl) (fun b hb ρ w1 hm j u hj => cell_below (hS.2.2 b hb j u hj) hm.below) (by omega) (by simp only [maxLen]; omega) (Nat.le_refl _) (fun A' c' => ?_)
   rw [Nat.zero_add, List.nil_append]
   refine zU RowF.stable RowF.fewer [3, 6, 12, 14] 2 ⟨.any (opsOf (sub B15 [1, 0])) 4 [3, 2, 1], [], [(3, .lp 0 0), (6, .lp 1 0), (12, .io .i64 wk), (14, .sl A' n c')], [((cfAO g s k sz sl of gp lt ea d), 25), (zAO0, 28)]⟩ ?_
   refine At.fork [0, 5] rfl (by kernel_rfl) rfl (allOf.cons ?_ (allOf.cons ?_ allOf.nil))
   ·refine zU RowF.stable RowF.fewer [6, 11, 12, 14] 2 ⟨.any (opsOf (sub B15 [1, 0])) 3 [0, 3, 2, 1], [], [(6, .lp 1 0), (11, .agg (cfAO g s k sz sl of gp lt ea d)), (12, .io .i64 wk), (14, .sl A' n c')], [((cfAO g s k sz sl of gp lt ea d), 25), (zAO0, 28)]⟩ ?_
    refine At.fork [4, 5] rfl (by kernel_rfl) rfl (allOf.cons ?_ (allOf.cons ?_ allOf.nil))
    ·refine zU RowF.stable RowF.fewer [6, 8] 3 ⟨.exit .normal, [], [(6, .lp 1 0), (8, .lp 2 0)], [((cfAO g s k sz sl of gp lt ea d), 25), (zAO0, 28), ((cwAO g s k sz sl of gp lt ea d wk A' n c'), 28)]⟩ ?_
     exact At.fin (A', c') rfl rfl (by unfold subFr; kernel_rfl) rfl (fun _ _ _ _ h => h)
    refine zU RowF.stable RowF.fewer [6, 8] 3 ⟨.exit .normal, [], [(6, .lp 1 0), (8, .lp 2 0)], [((cfAO g s k sz sl of gp lt ea d), 25), (zAO0, 28), ((cwAO g s k sz sl of gp lt ea d wk A' n c'), 28)]⟩ ?_
    exact At.fin (A', c') rfl rfl (by unfold subFr; kernel_rfl) rfl (fun _ _ _ _ h => h)
   refine zU RowF.stable RowF.fewer [6, 8] 3 ⟨.exit .normal, [], [(6, .lp 1 0), (8, .lp 2 0)], [((cfAO g s k sz sl of gp lt ea d), 25), (zAO0, 28), ((cwAO g s k sz sl of gp lt ea d wk A' n c'), 28)]⟩ ?_
   exact At.fin (A', c') rfl rfl (by unfold subFr; kernel_rfl) rfl (fun _ _ _ _ h => h)
  refine zU RowF.stable RowF.fewer [3, 6, 8, 12, 13] 3 ⟨.any (opsOf (sub B15 [1, 0])) 4 [5, 2, 1], [], [(3, .lp 0 0), (6, .lp 1 0), (8, .lp 2 0), (12, .io .i64 wk), (13, .sl A n cap)], [((cfAO g s k sz sl of gp lt ea d), 25), (zAO0, 28), (zAO0, 28)]⟩ ?_
  refine At.fork [0, 3] rfl (by kernel_rfl) rfl (allOf.cons ?_ (allOf.cons ?_ allOf.nil))
  ·refine zU RowF.stable RowF.fewer [6, 8, 11, 12, 13] 3 ⟨.ops (opsOf (sub B15 [1, 0])) (((opsOf (sub B15 [1, 0])).toList.drop 3).take 1), [.any (opsOf (sub B15 [1, 0])) 2 [3, 0, 5, 2, 1]], [(6, .lp 1 0), (8, .lp 2 0), (11, .agg (cfAO g s k sz sl of gp lt ea d)), (12, .io .i64 wk), (13, .sl A n cap)], [((cfAO g s k sz sl of gp lt ea d), 25), (zAO0, 28), (zAO0, 28)]⟩ ?_
   refine At.appAny 41 10 88 none 0 0 A n cap (fun _ => False) [] w.heap.size [] (stW xs) (by kernel_rfl) (by rw [stW_len, hl]) (stW_one xs) (fun e => by rw [hl, hS.2.1 e]; rfl) (fun b hb ρ w1 hm j u hj => cell_below (hS.2.2 b hb j u hj) hm.below) (by omega) (by simp only [maxLen]; omega) (Nat.le_refl _) (fun A' c' => ?_)
   rw [Nat.zero_add, List.nil_append]
   refine zU RowF.stable RowF.fewer [6, 8] 3 ⟨.exit .normal, [], [(6, .lp 1 0), (8, .lp 2 0)], [((cfAO g s k sz sl of gp lt ea d), 25), (zAO0, 28), ((cwAO g s k sz sl of gp lt ea d wk A' n c'), 28)]⟩ ?_
   exact At.fin (A', c') rfl rfl (by unfold subFr; kernel_rfl) rfl (fun _ _ _ _ h => h)
  refine zU RowF.stable RowF.fewer [3, 6, 8, 12, 13] 3 ⟨.ops (opsOf (sub B15 [1, 0])) (((opsOf (sub B15 [1, 0])).toList.drop 3).take 1), [.any (opsOf (sub B15 [1, 0])) 3 [3, 5, 2, 1]], [(3, .lp 0 0), (6, .lp 1 0), (8, .lp 2 0), (12, .io .i64 wk), (13, .sl A n cap)], [((cfAO g s k sz sl of gp lt ea d), 25), (zAO0, 28), (zAO0, 28)]⟩ ?_
  refine At.appAny 41 10 88 none 0 0 A n cap (fun _ => False) [] w.heap.size [] (stW xs) (by kernel_rfl) (by rw [stW_len, hl]) (stW_one xs) (fun e => by rw [hl, hS.2.1 e]; rfl) (fun b hb ρ w1 hm j u hj => cell_below (hS.2.2 b hb j u hj) hm.below) (by omega) (by simp only [maxLen]; omega) (Nat.le_refl _) (fun A' c' => ?_)
  rw [Nat.zero_add, List.nil_append]
  refine zU RowF.stable RowF.fewer [6, 8] 3 ⟨.exit .normal, [], [(6, .lp 1 0), (8, .lp 2 0)], [((cfAO g s k sz sl of gp lt ea d), 25), (zAO0, 28), ((cwAO g s k sz sl of gp lt ea d wk A' n c'), 28)]⟩ ?_
  exact At.fin (A', c') rfl rfl (by unfold subFr; kernel_rfl) rfl (fun _ _ _ _ h => h)
 obtain ⟨A1, c1⟩ := x
 refine zU RowF.stable RowF.fewer [6, 8, 17] 3 ⟨pops B15 [1, 1, 0, 0] 1, [.seq (sub B15 [1, 1, 0, 1]), .seq (sub B15 [1, 1, 1])], [(6, .lp 1 0), (8, .lp 2 0), (17, .agg (cwAO g s k sz sl of gp lt ea d wk A1 n c1))], [((cfAO g s k sz sl of gp lt ea d), 25), (zAO0, 28), ((cwAO g s k sz sl of gp lt ea d wk A1 n c1), 28)]⟩ ?_
 by_cases hc : (chkP ⟨g, s, k, sz, sl, of, gp, lt, ea, d⟩ wk xs).2 = 0
 ·refine zC RowF.stable 13 [.agg (cwAO g s k sz sl of gp lt ea d wk A1 n c1)] (.tup [.io .i64 (chkP ⟨g, s, k, sz, sl, of, gp, lt, ea, d⟩ wk xs).1, .v (.int .i64 0)]) (fun _ _ w1 hi hf => (check_kit ⟨g, s, k, sz, sl, of, gp, lt, ea, d⟩ wk A1 n c1 xs w1 (row_sls hf.1.1 hl) (by omega)).mono fun e w2 h => ⟨h.1.trans (by rw [hc]; rfl), h.2⟩) ?_
  refine zU RowF.stable RowF.fewer [6, 7] 2 ⟨.exit .ret, [], [(6, .lp 1 0), (7, .v (.int .i64 0))], [((cfAO g s k sz sl of gp lt ea d), 25), ((cwAO g s k sz sl of gp lt ea d wk A1 n c1), 28)]⟩ ?_
  refine zE (.tup [.agg (cwAO g s k sz sl of gp lt ea d wk A1 n c1), .v (.int .i64 0)]) ?_
  intro ρ w9 hm' hf
  unfold putE
  rw [if_pos hc]
  refine ⟨A1, c1, ?_, hl ▸ RowF.fewer _ _ 0 (Nat.zero_le _) hf⟩
  rw [← hl]
  rfl
 refine zC RowF.stable 13 [.agg (cwAO g s k sz sl of gp lt ea d wk A1 n c1)] (.tup [.io .i64 (chkP ⟨g, s, k, sz, sl, of, gp, lt, ea, d⟩ wk xs).1, .io .i64 (chkP ⟨g, s, k, sz, sl, of, gp, lt, ea, d⟩ wk xs).2]) (fun _ _ w1 hi hf => check_kit ⟨g, s, k, sz, sl, of, gp, lt, ea, d⟩ wk A1 n c1 xs w1 (row_sls hf.1.1 hl) (by omega)) ?_
 refine zU RowF.stable RowF.fewer [6, 8, 10, 22] 3 ⟨.code (sub B15 [1, 1, 0, 1, 1]), [.seq (sub B15 [1, 1, 1])], [(6, .lp 1 0), (8, .lp 2 0), (10, .io .i64 (chkP (Cf.mk g s k sz sl of gp lt ea d) wk xs).snd), (22, .bo ((chkP (Cf.mk g s k sz sl of gp lt ea d) wk xs).snd != 0))], [((cfAO g s k sz sl of gp lt ea d), 25), (zAO0, 28), ((cwAO g s k sz sl of gp lt ea d wk A1 n c1), 28)]⟩ ?_
 refine At.res 22 ((chkP (Cf.mk g s k sz sl of gp lt ea d) wk xs).snd != 0) true (by kernel_rfl) (by first | assumption | (simp only [*]; done) | (simp [*]; done)) ?_
 refine zU RowF.stable RowF.fewer [6, 7] 2 ⟨.exit .ret, [], [(6, .lp 1 0), (7, .io .i64 (chkP (Cf.mk g s k sz sl of gp lt ea d) wk xs).snd)], [((cfAO g s k sz sl of gp lt ea d), 25), (zAO0, 28)]⟩ ?_
 refine zE (.tup [.agg zAO0, .io .i64 (chkP (Cf.mk g s k sz sl of gp lt ea d) wk xs).snd]) ?_
 intro ρ w9 hm' hf
 unfold putE
 rw [if_neg hc]
 exact ⟨rfl, hm'.below⟩
end Go.Proofs.YthfpekhpeiebjaaGreatDoor
end
section
namespace Go.Proofs.YthfpekhpeiebjaaGreatDoor
open Go.RowKit Go.Sx
theorem str_bw (l : List UInt8) : Lib.strCells (mkB l) = bw l := by simp [Lib.strCells, mkB, bw]
theorem bw_str (a l : List UInt8) : bw a ++ Lib.strCells (mkB l) = bw (a ++ l) := by simp [Lib.strCells, mkB, bw]
theorem bw_ten (l : List UInt8) : bw l ++ [Value.int .u8 10] = bw (l ++ [10]) := by simp [bw]
structure XSt where
 A : Option Addr
 m : Nat
 c : Nat
 acc : List UInt8
 i : Nat
def frRX : XSt → Fr
 | ⟨A, m, c, _, i⟩ => [(1, .lp 0 0), (6, .sl A m c), (7, .io .i64 (i : Int))]
def locRX (c : Cf) (wk : Int) (A : Option Addr) (n cap : Nat) (_ : XSt) : Sx.Loc := match c with
 | ⟨g, s, k, sz, sl, of, gp, lt, ea, d⟩ => [((cwAO g s k sz sl of gp lt ea d wk A n cap), 28)]
def GRX (w : World) (xs : List St) (R : List UInt8) (x : XSt) (ρ : List Nat) (w1 : World) : Prop :=
 Rws w.heap.size [⟨5, 1, x.A, x.m, x.c, bw x.acc⟩] ρ w1 ∧ (x.acc ++ ((xs.drop x.i).flatMap fun y => lineS y ++ [10]) = R ∧ x.i ≤ xs.length ∧ x.m = x.acc.length ∧ x.acc.length ≤ 1100 + x.i * 1101)
noncomputable def B23 : Code := (Tryz.f23.body).getD .skip
set_option maxHeartbeats 20000000 in
set_option maxRecDepth 100000 in
theorem rtext_go (g s k sz sl of gp lt ea : Int) (d : Bool) (wk : Int) (A : Option Addr) (n cap : Nat) (xs : List St) (w : World) (hS : SlS w A n xs) (hn : n ≤ 300) (hok : ∀ x ∈ xs, x.ok) :
  Calls Tryz.prog 23 #[.agg #[.int .i64 g, .int .i64 s, .int .i64 k, .int .i64 sz, .int .i64 sl, .int .i64 of, .int .i64 gp, .int .i64 lt, .int .i64 ea, .bool d, .int .i64 wk, .slice A n cap]] w fun e w' => e = .returned (.tuple #[.string (mkB (textP ⟨g, s, k, sz, sl, of, gp, lt, ea, d⟩ wk xs).1), .int .i64 (textP ⟨g, s, k, sz, sl, of, gp, lt, ea, d⟩ wk xs).2]) ∧ Below w.heap.size w w' := by
 have hl := hS.1
 refine enterF (N := w.heap.size) (F := Rws w.heap.size []) (fn := Tryz.f23) (c := B23) [.agg (cwAO g s k sz sl of gp lt ea d wk A n cap)] Tryz.func23 rfl rfl (Nat.le_refl _) (Rws.none _ _ _) ?_
 refine zT Rws.stable Rws.fewer [1, 9] 1 ⟨pops B23 [1, 0] 1, [.seq (sub B23 [1, 1])], [(1, .lp 0 0), (9, .agg (cwAO g s k sz sl of gp lt ea d wk A n cap))], [((cwAO g s k sz sl of gp lt ea d wk A n cap), 28)]⟩ ?_
 by_cases hc : (chkP ⟨g, s, k, sz, sl, of, gp, lt, ea, d⟩ wk xs).2 = 0
 ·refine zC Rws.stable 22 [.agg (cwAO g s k sz sl of gp lt ea d wk A n cap)] (.tup [.io .i64 (chkP ⟨g, s, k, sz, sl, of, gp, lt, ea, d⟩ wk xs).1, .v (.int .i64 0)]) (fun _ _ w1 hi _ => (rcheck_go g s k sz sl of gp lt ea d wk A n cap xs w1 (hS.below hi.mem.below) (by omega)).mono fun e w2 h => ⟨h.1.trans (by rw [hc]; rfl), h.2⟩) ?_
  refine zT Rws.stable Rws.fewer [1, 16, 18] 1 ⟨.qops (opsOf (sub B23 pAO9)) (((opsOf (sub B23 pAO9)).toList.take 11).drop 3), [.tail (opsOf (sub B23 pAO9)) ((opsOf (sub B23 pAO9)).toList.drop 11), .seq (sub B23 pAO10)], [(1, .lp 0 0), (16, .v (.slice none 0 0)), (18, .agg (cfAO g s k sz sl of gp lt ea d))], [((cwAO g s k sz sl of gp lt ea d wk A n cap), 28)]⟩ ?_
  obtain ⟨hwr, hw1, hw2, hmay⟩ := chk_ok hc
  have hwr : wrongR g s k sz sl of gp lt ea = 0 := hwr
  have hg2 : g ≤ 32768 := (valid_of hwr).1.2
  have hw2 : wk ≤ g := hw2
  have htl := textW_short hwr d
  have hil := itoa_short (n := wk) ⟨by omega, by omega⟩
  refine zC Rws.stable 46 [.agg (cfAO g s k sz sl of gp lt ea d)] (.so (mkB (textW g s k sz sl of gp lt ea d))) (fun _ _ w1 _ _ => rjobt_go g s k sz sl of gp lt ea d hwr w1) ?_
  refine zT Rws.stable Rws.fewer [1, 16, 19] 1 ⟨.qops (opsOf (sub B23 pAO9)) (((opsOf (sub B23 pAO9)).toList.take 11).drop 4), [.tail (opsOf (sub B23 pAO9)) ((opsOf (sub B23 pAO9)).toList.drop 11), .seq (sub B23 pAO10)], [(1, .lp 0 0), (16, .v (.slice none 0 0)), (19, .so (mkB (textW g s k sz sl of gp lt ea d)))], [((cwAO g s k sz sl of gp lt ea d wk A n cap), 28)]⟩ ?_
  refine catX ([106, 111, 98, 32] : List UInt8) (textW g s k sz sl of gp lt ea d) (by kernel_rfl) (by simp only [List.length_append, List.length_cons, List.length_nil]; omega) Rws.stable ?_
  refine zT Rws.stable Rws.fewer [1, 16, 20] 1 ⟨.qops (opsOf (sub B23 pAO9)) (((opsOf (sub B23 pAO9)).toList.take 11).drop 5), [.tail (opsOf (sub B23 pAO9)) ((opsOf (sub B23 pAO9)).toList.drop 11), .seq (sub B23 pAO10)], [(1, .lp 0 0), (16, .v (.slice none 0 0)), (20, .so (mkB ([106, 111, 98, 32] ++ textW g s k sz sl of gp lt ea d)))], [((cwAO g s k sz sl of gp lt ea d wk A n cap), 28)]⟩ ?_
  refine catX ([106, 111, 98, 32] ++ textW g s k sz sl of gp lt ea d) ([10, 119, 111, 114, 107, 101, 114, 115, 32] : List UInt8) (by kernel_rfl) (by simp only [List.length_append, List.length_cons, List.length_nil]; omega) Rws.stable ?_
  refine zT Rws.stable Rws.fewer [1, 16, 21, 23] 1 ⟨.qops (opsOf (sub B23 pAO9)) (((opsOf (sub B23 pAO9)).toList.take 11).drop 8), [.tail (opsOf (sub B23 pAO9)) ((opsOf (sub B23 pAO9)).toList.drop 11), .seq (sub B23 pAO10)], [(1, .lp 0 0), (16, .v (.slice none 0 0)), (21, .so (mkB ([106, 111, 98, 32] ++ textW g s k sz sl of gp lt ea d ++ [10, 119, 111, 114, 107, 101, 114, 115, 32]))), (23, .io .i64 wk)], [((cwAO g s k sz sl of gp lt ea d wk A n cap), 28)]⟩ ?_
  refine zC Rws.stable 47 [.io .i64 wk] (.so (mkB (Lib.itoa wk))) (fun _ _ w1 _ _ => rdigits_any wk ⟨by omega, by omega⟩ w1) ?_
  refine zT Rws.stable Rws.fewer [1, 16, 21, 24] 1 ⟨.qops (opsOf (sub B23 pAO9)) (((opsOf (sub B23 pAO9)).toList.take 11).drop 9), [.tail (opsOf (sub B23 pAO9)) ((opsOf (sub B23 pAO9)).toList.drop 11), .seq (sub B23 pAO10)], [(1, .lp 0 0), (16, .v (.slice none 0 0)), (21, .so (mkB ([106, 111, 98, 32] ++ textW g s k sz sl of gp lt ea d ++ [10, 119, 111, 114, 107, 101, 114, 115, 32]))), (24, .so (mkB (Lib.itoa wk)))], [((cwAO g s k sz sl of gp lt ea d wk A n cap), 28)]⟩ ?_
  refine catX ([106, 111, 98, 32] ++ textW g s k sz sl of gp lt ea d ++ [10, 119, 111, 114, 107, 101, 114, 115, 32]) (Lib.itoa wk) (by kernel_rfl) (by simp only [List.length_append, List.length_cons, List.length_nil]; omega) Rws.stable ?_
  refine zT Rws.stable Rws.fewer [1, 16, 25] 1 ⟨.qops (opsOf (sub B23 pAO9)) (((opsOf (sub B23 pAO9)).toList.take 11).drop 10), [.tail (opsOf (sub B23 pAO9)) ((opsOf (sub B23 pAO9)).toList.drop 11), .seq (sub B23 pAO10)], [(1, .lp 0 0), (16, .v (.slice none 0 0)), (25, .so (mkB ([106, 111, 98, 32] ++ textW g s k sz sl of gp lt ea d ++ [10, 119, 111, 114, 107, 101, 114, 115, 32] ++ Lib.itoa wk)))], [((cwAO g s k sz sl of gp lt ea d wk A n cap), 28)]⟩ ?_
  refine catX ([106, 111, 98, 32] ++ textW g s k sz sl of gp lt ea d ++ [10, 119, 111, 114, 107, 101, 114, 115, 32] ++ Lib.itoa wk) ([10] : List UInt8) (by kernel_rfl) (by simp only [List.length_append, List.length_cons, List.length_nil]; omega) Rws.stable ?_
  refine zT Rws.stable Rws.fewer [1, 16, 26] 1 ⟨pops B23 pAO9 11, [.seq (sub B23 pAO10)], [(1, .lp 0 0), (16, .v (.slice none 0 0)), (26, .so (mkB ([106, 111, 98, 32] ++ textW g s k sz sl of gp lt ea d ++ [10, 119, 111, 114, 107, 101, 114, 115, 32] ++ Lib.itoa wk ++ [10])))], [((cwAO g s k sz sl of gp lt ea d wk A n cap), 28)]⟩ ?_
  generalize hH : ([106, 111, 98, 32] ++ textW g s k sz sl of gp lt ea d ++ [10, 119, 111, 114, 107, 101, 114, 115, 32] ++ Lib.itoa wk ++ [10]) = H
  have hHl : H.length ≤ 1050 := by rw [← hH]; simp only [List.length_append, List.length_cons, List.length_nil]; omega
  refine At.mono (F' := Rws w.heap.size [⟨5, 1, none, 0, 0, []⟩]) (fun ρ w1 h => h.nil _ _) ?_
  refine At.apR 55 9 5 (.so (mkB H)) (mkB H) (by kernel_rfl) (fun _ => rfl) Tryz.underlying55 Tryz.underlying9 info5 (by rw [mkB_size]; omega) (by kernel_rfl) (fun A1 c1 => ?_)
  rw [mkB_size, Nat.zero_add, List.nil_append, str_bw]
  refine zT Rws.stable Rws.fewer [1, 6, 7] 1 ⟨.code (sub B23 pAO7), [.block 0, .seq (sub B23 pAO8)], [(1, .lp 0 0), (6, .sl A1 H.length c1), (7, .v (.int .i64 0))], [((cwAO g s k sz sl of gp lt ea d wk A n cap), 28)]⟩ ?_
  generalize hR : H ++ (xs.flatMap fun x => lineS x ++ [10]) = R
  refine At.canonT [7] _ rfl ?_
  refine At.loop (σ := XSt) (sub B23 pAO6) frRX (locRX ⟨g, s, k, sz, sl, of, gp, lt, ea, d⟩ wk A n cap) (GRX w xs R) (fun x => n - x.i) ⟨A1, H.length, c1, H, 0⟩ (by kernel_rfl) (by unfold subFr; kernel_rfl) (by kernel_rfl) (fun _ _ _ _ h => ⟨h, hR, Nat.zero_le _, rfl, by simp only; omega⟩) ?_
  rintro ⟨Ao, m, co, acc, i⟩
  refine At.pure fun ⟨h1, h2, h3, h4⟩ => ?_
  simp only at h1 h2 h3 h4
  refine zTq Rws.stable Rws.fewer [1, 6, 7, 32] 1 ?_
  rcases Bool.eq_false_or_eq_true (decide ((↑i : Int) < (↑n : Int))) with b0 | b0
  ·refine zR 32 b0 ?_
   refine zT Rws.stable Rws.fewer [1, 7, 35, 37, 38] 1 ⟨pops B23 pAO3 4, [.seq (sub B23 pAO2), .block 1, .seq (sub B23 pAO5), .next (Sx.Next w.heap.size w Tryz.f23.ntmps frRX (locRX (Cf.mk g s k sz sl of gp lt ea d) wk A n cap) (GRX w xs R) (fun x => n - x.i) (XSt.mk Ao m co acc i)), .block 0, .seq (sub B23 pAO8)], [(1, .lp 0 0), (7, .io .i64 (↑i : Int)), (35, .sl Ao m co), (37, .sl A n cap), (38, .io .i64 (↑i : Int))], [((cwAO g s k sz sl of gp lt ea d wk A n cap), 28)]⟩ ?_
   have hi : i < n := by have := of_decide_eq_true b0; omega
   clear b0
   obtain ⟨x, hx⟩ : ∃ x, xs[i]? = some x := ⟨_, List.getElem?_eq_getElem (by rw [← hS.1]; exact hi)⟩
   obtain ⟨a, rfl, hcell⟩ := hS.get hx
   have hxm := hmay x (List.mem_of_getElem? hx)
   have hxo := hok x (List.mem_of_getElem? hx)
   have hxl := lineS_short (mayB_key hxm) hxo
   have hxk := mayB_key hxm
   rw [drop_at hx, List.flatMap_cons] at h1
   obtain ⟨kd, ik, key, ti, v, src, wk2, wks, bit, mask⟩ := x
   have hkd : 1 ≤ kd ∧ kd ≤ 5 := by have := mayB_iff.1 hxm; omega
   obtain ⟨i0, i1, i2, i3, i4, i5, i6⟩ := hxo
   refine At.idx a n 10 (i : Int) (by kernel_rfl) (by omega) (by omega) Rws.stable ?_
   refine At.lda (a.add ((i : Int).toNat * 10)) 10 [.io .i64 kd, .io .i64 ik, .so (mkB key), .io .i64 ti, .io .i64 v, .io .i64 src, .io .i64 wk2, .io .i64 wks, .io .i64 bit, .io .u32 mask] (by kernel_rfl) rfl Rws.stable (fun ρ w1 hm' hf j v2 hj => cell_below (hcell j v2 hj) hm'.below) ?_
   let kn0 : K := .next (Sx.Next w.heap.size w Tryz.f23.ntmps frRX (locRX (Cf.mk g s k sz sl of gp lt ea d) wk (some a) n cap) (GRX w xs R) (fun x => n - x.i) (XSt.mk Ao m co acc i))
   refine zT Rws.stable Rws.fewer [1, 7, 35, 40] 1 ⟨pops B23 pAO3 6, [.seq (sub B23 pAO2), .block 1, .seq (sub B23 pAO5), kn0, .block 0, .seq (sub B23 pAO8)], [(1, .lp 0 0), (7, .io .i64 (↑i : Int)), (35, .sl Ao m co), (40, .agg [.io .i64 kd, .io .i64 ik, .so (mkB key), .io .i64 ti, .io .i64 v, .io .i64 src, .io .i64 wk2, .io .i64 wks, .io .i64 bit, .io IntKind.u32 mask])], [((cwAO g s k sz sl of gp lt ea d wk (some a) n cap), 28)]⟩ ?_
   refine zC Rws.stable 48 [.agg [.io .i64 kd, .io .i64 ik, .so (mkB key), .io .i64 ti, .io .i64 v, .io .i64 src, .io .i64 wk2, .io .i64 wks, .io .i64 bit, .io .u32 mask]] (.so (mkB (lineS ⟨kd, ik, key, ti, v, src, wk2, wks, bit, mask⟩))) (fun _ _ w1 _ _ => rline_go kd ik key ti v src wk2 wks bit mask hkd hxk i0 i1 i2 i3 i4 i5 i6 w1) ?_
   refine zT Rws.stable Rws.fewer [1, 7, 35, 41] 1 ⟨pops B23 pAO3 7, [.seq (sub B23 pAO2), .block 1, .seq (sub B23 pAO5), kn0, .block 0, .seq (sub B23 pAO8)], [(1, .lp 0 0), (7, .io .i64 (↑i : Int)), (35, .sl Ao m co), (41, .so (mkB (lineS (St.mk kd ik key ti v src wk2 wks bit mask))))], [((cwAO g s k sz sl of gp lt ea d wk (some a) n cap), 28)]⟩ ?_
   refine At.apR 55 9 5 (.so (mkB (lineS ⟨kd, ik, key, ti, v, src, wk2, wks, bit, mask⟩))) (mkB (lineS ⟨kd, ik, key, ti, v, src, wk2, wks, bit, mask⟩)) (by kernel_rfl) (fun _ => rfl) Tryz.underlying55 Tryz.underlying9 info5 (by rw [mkB_size]; omega) (by kernel_rfl) (fun A2 c2 => ?_)
   rw [mkB_size, bw_str]
   refine zT Rws.stable Rws.fewer [1, 7, 43, 44] 2 ⟨pops B23 pAO2 2, [.block 1, .seq (sub B23 pAO5), kn0, .block 0, .seq (sub B23 pAO8)], [(1, .lp 0 0), (7, .io .i64 (↑i : Int)), (43, .sl A2 ((XSt.mk Ao m co acc i).m + (lineS (St.mk kd ik key ti v src wk2 wks bit mask)).length) c2), (44, .ls 1 0 1 1)], [((cwAO g s k sz sl of gp lt ea d wk (some a) n cap), 28), ([.v (.int IntKind.u8 10)], 5)]⟩ ?_
   refine At.appV 55 5 1 1 A2 (m + (lineS ⟨kd, ik, key, ti, v, src, wk2, wks, bit, mask⟩).length) c2 1 [.v (.int .u8 10)] (bw (acc ++ lineS ⟨kd, ik, key, ti, v, src, wk2, wks, bit, mask⟩)) [.int .u8 10] [] (by kernel_rfl) (fun _ => rfl) (by omega) (by simp only [maxLen]; omega) (fun A3 c3 hc3 => ?_)
   rw [bw_ten]
   refine zT Rws.stable Rws.fewer [1, 6, 7] 1 ⟨.exit .normal, [kn0, .block 0, .seq (sub B23 pAO8)], [(1, .lp 0 0), (6, .sl A3 (m + (lineS (St.mk kd ik key ti v src wk2 wks bit mask)).length + 1) c3), (7, .io .i64 (IntKind.i64.wrap ((↑i : Int) + 1)))], [((cwAO g s k sz sl of gp lt ea d wk (some a) n cap), 28)]⟩ ?_
   have hw3 : IntKind.i64.wrap ((i : Int) + 1) = ((i + 1 : Nat) : Int) := by
    rw [wrap63 (by omega) (by omega)]
    omega
   rw [hw3]
   refine At.next (σ := XSt) ⟨A3, m + (lineS ⟨kd, ik, key, ti, v, src, wk2, wks, bit, mask⟩).length + 1, c3, acc ++ lineS ⟨kd, ik, key, ti, v, src, wk2, wks, bit, mask⟩ ++ [10], i + 1⟩ rfl rfl (by unfold subFr; kernel_rfl) (by kernel_rfl) ?_ ?_
   ·intro ρ a' w' hi' hf
    exact ⟨hf, by rw [← h1]; simp only [List.append_assoc], (show i + 1 ≤ xs.length by omega), by simp only [List.length_append, List.length_singleton]; omega, by simp only [List.length_append, List.length_singleton]; omega⟩
   show n - (i + 1) < n - i
   omega
  refine zR 32 b0 ?_
  refine zT Rws.stable Rws.fewer [46] 0 ⟨pops B23 [1, 1, 1, 1, 1, 1, 0] 1, [.seq (sub B23 [1, 1, 0, 1, 2, 1])], [(46, .sl Ao m co)], []⟩ ?_
  have hi : ¬ (i : Int) < (n : Int) := of_decide_eq_false b0
  rw [List.drop_eq_nil_of_le (by rw [← hS.1]; omega), List.flatMap_nil, List.append_nil] at h1
  subst h1
  refine At.cvy Ao m co (acc.map UInt8.toNat) (.so (mkB acc)) (by kernel_rfl) Rws.stable (fun ρ => by rw [strOf_map]; rfl) (fun ρ w1 hm hf => row_cw (hf.1 _ (.head _))) ?_
  refine zT Rws.stable Rws.fewer [2, 3] 0 ⟨.exit .ret, [], [(2, .so (mkB acc)), (3, .v (.int .i64 0))], []⟩ ?_
  refine zE (.tup [.so (mkB acc), .v (.int .i64 0)]) ?_
  intro ρ w9 hm' hf
  refine ⟨?_, hm'.below⟩
  rw [show textP ⟨g, s, k, sz, sl, of, gp, lt, ea, d⟩ wk xs = (scriptB ⟨g, s, k, sz, sl, of, gp, lt, ea, d⟩ wk xs, 0) from if_pos hc]
  have e : scriptB ⟨g, s, k, sz, sl, of, gp, lt, ea, d⟩ wk xs = acc := by rw [← hR, ← hH]; rfl
  rw [e]
  rfl
 refine zC Rws.stable 22 [.agg (cwAO g s k sz sl of gp lt ea d wk A n cap)] (.tup [.io .i64 (chkP ⟨g, s, k, sz, sl, of, gp, lt, ea, d⟩ wk xs).1, .io .i64 (chkP ⟨g, s, k, sz, sl, of, gp, lt, ea, d⟩ wk xs).2]) (fun _ _ w1 hi _ => rcheck_go g s k sz sl of gp lt ea d wk A n cap xs w1 (hS.below hi.mem.below) (by omega)) ?_
 refine zTq Rws.stable Rws.fewer [1, 5, 14] 1 ?_
 refine At.res 14 ((chkP (Cf.mk g s k sz sl of gp lt ea d) wk xs).snd != 0) true (by kernel_rfl) (by first | assumption | (simp only [*]; done) | (simp [*]; done)) ?_
 refine zT Rws.stable Rws.fewer [2, 3] 0 ⟨.exit .ret, [], [(2, .v (.string (ByteArray.mk #[]))), (3, .io .i64 (chkP (Cf.mk g s k sz sl of gp lt ea d) wk xs).snd)], []⟩ ?_
 refine zE (.tup [.v (.string (ByteArray.mk #[])), .io .i64 (chkP (Cf.mk g s k sz sl of gp lt ea d) wk xs).snd]) ?_
 intro ρ w9 hm' hf
 exact ⟨by rw [show textP ⟨g, s, k, sz, sl, of, gp, lt, ea, d⟩ wk xs = ([], (chkP ⟨g, s, k, sz, sl, of, gp, lt, ea, d⟩ wk xs).2) from if_neg hc]; rfl, hm'.below⟩
end Go.Proofs.YthfpekhpeiebjaaGreatDoor
end
section
/-! As At.takeBA, with a slice's length asked for among what is still to come. -/
namespace Go.Sx
open Go.RowKit
section
variable {P : Program} {Q : Exit → Act → World → Prop} {N : Nat} {w0 : World} {ntm : Nat} {F : List Nat → World → Prop}
def isLen : Callee → Bool
 | .builtin .len => true
 | _ => false
theorem isLen_eq {c : Callee} (h : isLen c = true) : c = .builtin .len := by
 unfold isLen at h
 split at h
 ·rfl
 cases h
def slT (P : Program) (t : TypeId) : Bool := match P.underlying t with
 | some (.slice _) => true
 | _ => false
theorem slT_eq {t : TypeId} (h : slT P t = true) : ∃ e, P.underlying t = some (.slice e) := by
 unfold slT at h
 split at h
 ·exact ⟨_, by assumption⟩
 cases h
def lenP (P : Program) (o : Oper) : Bool := match o.op with
 | .call c => isLen c.callee && (Nat.beq c.args.size 1 && (match c.argTypes[0]? with
  | some t => slT P t
  | none => false))
 | _ => false
theorem lenP_run {o : Oper} {a : Act} {w w' : World} {n : Go.Next} (h : lenP P o = true) (hr : (execOp a.eval o).run P w = .ok n w') : ∃ v, n = .value v ∧ w' = w := by
 obtain ⟨dst, op, ty, pos, after, guard⟩ := o
 unfold lenP at h
 simp only at h
 split at h
 ·rename_i c
  obtain ⟨callee, args, argTypes⟩ := c
  simp only [Bool.and_eq_true] at h
  obtain ⟨h1, h2, h3⟩ := h
  have := isLen_eq h1
  subst this
  split at h3
  ·rename_i t ht
   obtain ⟨e, hu⟩ := slT_eq h3
   obtain ⟨x, rfl⟩ : ∃ x, args = #[x] := by
    have h4 := Nat.eq_of_beq_eq_true h2
    exact Array.size_eq_one_iff.1 h4
   simp only [execOp, resolve, invoke, builtin, Sem.run_bind, Sem.run_pure, Result.andThen_ok, Builtin.len_] at hr
   simp only [ht, List.map_toArray, List.map_cons, List.map_nil, List.getElem?_toArray, List.getElem?_cons_zero, Sem.run_bind, run_underlying hu, Result.andThen_ok] at hr
   generalize a.eval x = v at hr
   cases v <;> simp [Result.andThen] at hr
   obtain ⟨rfl, rfl⟩ := hr
   exact ⟨_, rfl, rfl⟩
  cases h3
 cases h
def bnL (P : Program) (sub : Fr) (loc : Loc) (o : Oper) : Bool := bnA P sub loc o || lenP P o
def okBL (P : Program) (all : Array Oper) (L : Array Bool) (fr : Fr) (loc : Loc) (i : Nat) (ds : List Nat) : Bool :=
 hangs all L i ds && (List.range all.size).all fun k => Nat.beq k i || (L.getD k true || (ds.contains k || (match all[k]? with
  | some o => bnL P (drops ((unl all L).filterMap (·.dst)) fr) loc o
  | none => true)))
def okSL (P : Program) (s : S) (j : Nat) (ds : List Nat) : Bool := match s.pc with
 | .any all _ dn => okBL P all (listedOf all.size dn) s.fr s.loc j ds
 | _ => false
theorem At.takeBL {s : S} (hQ : ∀ e a w, Q e a w → e = .normal) (j : Nat) (o : Oper) (r : SV) (ds : List Nat) (ho : anyAt s j = some o) (hp : (anyPut ntm s j r).isSome = true)
  (hds : okSL P s j ds = true)
  (hrun : ∀ ρ a w1 w, AInv ntm ρ (restFr s) a → WInv N w0 ρ s.loc w1 → F ρ w1 → Below w1.heap.size w1 w → (execOp a.eval o).run P w = .ok (.value (r.den ρ)) w) (h : At P Q N w0 ntm F (s.anyNext ntm j r)) : At P Q N w0 ntm F s := by
 obtain ⟨pc, ks, fr, loc⟩ := s
 unfold anyAt at ho
 simp only at ho
 split at ho
 ·rename_i all g dn
  split at ho
  ·rename_i o' ho'
   split at ho
   ·rename_i hg hfs
    simp only [Option.some.injEq] at ho
    subst ho
    simp only [Bool.and_eq_true] at hfs
    unfold S.anyNext at h
    unfold anyPut at h hp
    simp only [ho'] at h hp
    simp only [restFr, okSL] at hrun hds
    rcases hput : putS ntm fr o'.dst r with _ | fr'
    ·rw [hput] at hp; cases hp
    rw [hput] at h
    simp only [Option.map_some, Option.getD_some] at h
    simp only [okBL, Bool.and_eq_true] at hds
    obtain ⟨hd1, hd2⟩ := hds
    intro ρ a w hi hf
    have hjr : j ∈ Region.ready .any all (listedOf all.size dn) := by simpa using hfs.2
    have hj0 := (mem_ready.1 hjr).1
    refine wpAny_firstL (v := r.den ρ) (fun L a w' => AInv ntm ρ (drops ((unl all (listedOf all.size dn)).filterMap (·.dst)) fr) a ∧ (∀ k, k = j ∨ k ∈ ds → L.getD k true = false) ∧ Below w.heap.size w w') hQ ho' (Region.noSelect_spec hfs.1.2) ?_ g _ a w (Region.free_spec ho' hfs.1.1) ?_ hjr (guardS_ok hi.act hg) ⟨hi.act.drops_ _, ?_, Below.refl _ _⟩ ?_
    ·intro L a' w' ⟨h1, _, h3⟩
     exact hrun ρ a' w w' h1 hi.mem hf h3
    ·intro k ok hk hkj hun L a' w' hrd ⟨h1, h2, h3⟩
     obtain ⟨hku, ok', hok', hall⟩ := mem_ready.1 hrd
     rw [hk] at hok'
     simp only [Option.some.injEq] at hok'
     subst hok'
     have hnds : k ∉ ds := by
      intro hm
      have h4 := List.all_eq_true.1 hd1 k hm
      rw [hk] at h4
      simp only [Bool.and_eq_true] at h4
      obtain ⟨e, he, heb⟩ := List.any_eq_true.1 h4.2
      simp only [Bool.and_eq_true, Bool.or_eq_true] at heb
      have h5 := hall e (by simpa using he) heb.1
      have h6 := h2 e.on (by
       rcases heb.2 with h7 | h7
       ·exact .inl (Nat.eq_of_beq_eq_true h7)
       exact .inr (List.contains_iff_mem.1 h7))
      rw [getD_both h6] at h5
      cases h5
     have hL : ∀ k', k' = j ∨ k' ∈ ds → (L.setIfInBounds k true).getD k' true = false := fun k' hk' => by
      rw [getD_set_ne true (fun e => by
       subst e
       rcases hk' with h7 | h7
       ·exact hkj h7
       exact hnds h7)]
      exact h2 k' hk'
     have hmem := mem_unl hk hun
     have hd : ∀ t, ok.dst = some t → t ∈ (unl all (listedOf all.size dn)).filterMap (·.dst) := fun t ht => List.mem_filterMap.2 ⟨ok, hmem, ht⟩
     refine ⟨⟨h1.over hd _, hL, h3⟩, fun n w'' hr => ?_⟩
     have hb := List.all_eq_true.1 hd2 k (List.mem_range.2 (Array.getElem?_eq_some_iff.1 hk).1)
     rw [hk, hun] at hb
     simp only [Bool.or_eq_true, Bool.false_or] at hb
     have hb : bnL P (drops ((unl all (listedOf all.size dn)).filterMap (·.dst)) fr) loc ok = true := by
      rcases hb with h7 | h7 | h7
      ·exact absurd (Nat.eq_of_beq_eq_true h7) hkj
      ·exact absurd (List.contains_iff_mem.1 h7) hnds
      exact h7
     simp only [bnL, bnA, benign, Bool.or_eq_true] at hb
     rcases hb with ((hb | hb) | hb) | hb
     ·obtain ⟨v, ob, rfl, rfl⟩ := isBS_run hb hr
      exact ⟨v, .inl rfl, h1.over hd v, hL, h3.alloc h3.size ob⟩
     ·obtain ⟨x, hx⟩ := Option.isSome_iff_exists.1 hb
      rw [run_pureOp (N := N) (w0 := w0) h1 (fun _ => hi.mem.later h3) hx] at hr
      simp only [Result.ok.injEq] at hr
      obtain ⟨rfl, rfl⟩ := hr
      exact ⟨_, .inl rfl, h1.over hd _, hL, h3⟩
     ·obtain ⟨v, ob, rfl, rfl⟩ := alP_run hb hr
      exact ⟨v, .inl rfl, h1.over hd v, hL, h3.alloc h3.size ob⟩
     obtain ⟨v, rfl, rfl⟩ := lenP_run hb hr
     exact ⟨v, .inl rfl, h1.over hd v, hL, h3⟩
    ·intro k hk
     rcases hk with rfl | hk
     ·exact hj0
     have h4 := List.all_eq_true.1 hd1 k hk
     simp only [Bool.and_eq_true, Bool.not_eq_true'] at h4
     exact h4.1
    exact h ρ _ w ⟨putS_ok hi.act hput, hi.mem⟩ hf
   cases ho
  cases ho
 cases ho
theorem At.takeLoadL {s : S} (hQ : ∀ e a w, Q e a w → e = .normal) (j : Nat) (r : SV) (ds : List Nat) (hq : ((anyAt s j).bind fun o => pureOp P s.loc (restFr s) o.op) = some r) (hp : (anyPut ntm s j r).isSome = true) (hds : okSL P s j ds = true)
  (h : At P Q N w0 ntm F (s.anyNext ntm j r)) : At P Q N w0 ntm F s := by
 obtain ⟨o, ho, hr⟩ := Option.bind_eq_some_iff.1 hq
 exact At.takeBL hQ j o r ds ho hp hds (fun ρ a w1 w ha hw _ hb => run_pureOp ha (fun _ => hw.later hb) hr) h
end
end Go.Sx
end
