/- Joined texts: SC, SxRw, RJ, RS. -/
import Derived.Test.YthfpekhpeiebjaaGreatDoorMAL
set_option linter.unusedSectionVars false
set_option linter.unusedSimpArgs false
set_option linter.unusedVariables false
namespace Go.Sx
open Go
def cfAM (g s k sz sl of gp lt ea : Int) (d : Bool) : List SV := [.io .i64 g, .io .i64 s, .io .i64 k, .io .i64 sz, .io .i64 sl, .io .i64 of, .io .i64 gp, .io .i64 lt, .io .i64 ea, .bo d]
def cwAM (g s k sz sl of gp lt ea : Int) (d : Bool) (wk : Int) (A : Option Addr) (n c : Nat) : List SV := [.io .i64 g, .io .i64 s, .io .i64 k, .io .i64 sz, .io .i64 sl, .io .i64 of, .io .i64 gp, .io .i64 lt, .io .i64 ea, .bo d, .io .i64 wk, .sl A n c]
def pAM0 : List Nat := [1, 1, 0, 1, 4, 1, 3, 1, 3, 1, 3, 1, 2, 1, 0]
def pAM1 : List Nat := [1, 1, 0, 1, 4, 1, 3, 1, 3, 1, 2, 0]
def pAM2 : List Nat := [1, 1, 0, 1, 4, 1, 3, 1, 2, 1, 0]
def pAM3 : List Nat := [1, 1, 1, 0, 1, 4, 4, 1, 1, 1]
def pAM4 : List Nat := [1, 1, 0, 1, 4, 1, 3, 1, 2, 0]
def pAM5 : List Nat := [1, 1, 0, 1, 4, 1, 3, 1, 3, 1]
def pAM6 : List Nat := [1, 1, 0, 1, 4, 1, 2, 1, 1, 1]
def pAM7 : List Nat := [1, 1, 0, 1, 4, 1, 2, 1, 0]
def pAM8 : List Nat := [1, 1, 0, 1, 4, 1, 2, 1, 1]
def pAM9 : List Nat := [1, 1, 0, 1, 4, 1, 2, 0]
def pAM10 : List Nat := [1, 1, 0, 1, 4, 1, 3, 1]
def pAM11 : List Nat := [1, 0, 1, 2, 1]
def pAM12 : List Nat := [1, 1, 1]
end Go.Sx
section
namespace Go.Proofs.YthfpekhpeiebjaaGreatDoor
open Go.RowKit Go.Sx
noncomputable def B13 : Code := (Tryz.f13.body).getD .skip
theorem stW_at : ∀ (xs : List St) (i : Nat) (x : St) (j : Nat), xs[i]? = some x → j < 10 → (stW xs)[i * 10 + j]? = x.w[j]?
 | [], i, x, j, h, _ => by simp at h
 | y :: xs, 0, x, j, h, hj => by
  simp only [List.getElem?_cons_zero, Option.some.injEq] at h
  subst h
  simp only [stW, List.flatMap_cons, Nat.zero_mul, Nat.zero_add]
  rw [List.getElem?_append_left (by rw [St.w_len]; exact hj)]
 | y :: xs, i + 1, x, j, h, hj => by
  have ih := stW_at xs i x j (by simpa using h) hj
  simp only [stW, List.flatMap_cons] at ih ⊢
  rw [List.getElem?_append_right (by rw [St.w_len]; omega), St.w_len, ← ih]
  congr 1
  omega
def SlS (w : World) (A : Option Addr) (n : Nat) (xs : List St) : Prop := n = xs.length ∧ (A = none → xs = []) ∧ ∀ a, A = some a → Src w a (stW xs)
theorem SlS.below {w w' : World} {A : Option Addr} {n : Nat} {xs : List St} (h : SlS w A n xs) (hb : Below w.heap.size w w') : SlS w' A n xs := ⟨h.1, h.2.1, fun a ha j u hj => cell_below (h.2.2 a ha j u hj) hb⟩
theorem SlS.get {w : World} {A : Option Addr} {n : Nat} {xs : List St} (h : SlS w A n xs) {i : Nat} {x : St} (hx : xs[i]? = some x) : ∃ a, A = some a ∧ ∀ (j : Nat) (v : Value), x.w[j]? = some v → w.cell? ((a.add ((i : Int).toNat * 10)).add j) = some v := by
 cases A with
 | none => rw [h.2.1 rfl] at hx; simp at hx
 | some a =>
  refine ⟨a, rfl, fun j v hj => ?_⟩
  have hj10 : j < 10 := by have := (List.getElem?_eq_some_iff.1 hj).1; rw [St.w_len] at this; exact this
  have := h.2.2 a rfl (i * 10 + j) v (by rw [stW_at xs i x j hx hj10]; exact hj)
  rw [Int.toNat_natCast, Addr.add_add]
  exact this
def badI (c : Cf) : List St → Nat → Option Nat
 | [], _ => none
 | x :: l, i => if mayB c x then badI c l (i + 1) else some i
def chkE : Option Nat → Int × Int
 | some i => (2 + (i : Int), 2)
 | none => (0, 0)
def chkP (c : Cf) (wk : Int) (xs : List St) : Int × Int := if ¬ c.wr = 0 then (0, 2) else if wk < 1 ∨ c.g < wk then (1, 2) else chkE (badI c xs 0)
theorem chkP_1 {c : Cf} {wk : Int} {xs : List St} (h : c.wr = 0) (h2 : wk < 1 ∨ c.g < wk) : chkP c wk xs = (1, 2) := by
 unfold chkP
 rw [if_neg (Classical.not_not.2 h), if_pos h2]
theorem chkP_2 {c : Cf} {wk : Int} {xs : List St} (h : c.wr = 0) (h2 : ¬ (wk < 1 ∨ c.g < wk)) : chkP c wk xs = chkE (badI c xs 0) := by
 unfold chkP
 rw [if_neg (Classical.not_not.2 h), if_neg h2]
def frC (A : Option Addr) (n cap : Nat) (i : Nat) : Fr := [(1, .lp 0 0), (22, .sl A n cap), (23, .io .i64 (n : Int)), (24, .io .i64 (i : Int))]
def locC (c : Cf) (wk : Int) (A : Option Addr) (n cap : Nat) (_ : Nat) : Sx.Loc := match c with
 | ⟨g, s, k, sz, sl, of, gp, lt, ea, d⟩ => [((cwAM g s k sz sl of gp lt ea d wk A n cap), 28)]
def GC (c : Cf) (xs : List St) (R : Int × Int) (i : Nat) (_ : List Nat) (_ : World) : Prop := True ∧ (chkE (badI c (xs.drop i) i) = R ∧ i ≤ xs.length)
set_option maxHeartbeats 8000000 in
set_option maxRecDepth 100000 in
theorem check_go (g s k sz sl of gp lt ea : Int) (d : Bool) (wk : Int) (A : Option Addr) (n cap : Nat) (xs : List St) (w : World) (hS : SlS w A n xs) (hn : n ≤ 1048576) :
  Calls Tryz.prog 13 #[.agg #[.int .i64 g, .int .i64 s, .int .i64 k, .int .i64 sz, .int .i64 sl, .int .i64 of, .int .i64 gp, .int .i64 lt, .int .i64 ea, .bool d, .int .i64 wk, .slice A n cap]] w fun e w' => e = .returned (.tuple #[.int .i64 (chkP ⟨g, s, k, sz, sl, of, gp, lt, ea, d⟩ wk xs).1, .int .i64 (chkP ⟨g, s, k, sz, sl, of, gp, lt, ea, d⟩ wk xs).2]) ∧ Below w.heap.size w w' := by
 have hl := hS.1
 refine enter (fn := Tryz.f13) (c := B13) [.agg (cwAM g s k sz sl of gp lt ea d wk A n cap)] Tryz.func13 rfl rfl ?_
 refine zN [1, 7] 1 ⟨pops B13 [1, 0, 0] 2, [.seq (sub B13 [1, 0, 1]), .seq (sub B13 [1, 1])], [(1, .lp 0 0), (7, .agg (cfAM g s k sz sl of gp lt ea d))], [((cwAM g s k sz sl of gp lt ea d wk A n cap), 28)]⟩ ?_
 refine zC noF_stable 41 [.agg (cfAM g s k sz sl of gp lt ea d)] (.io .i64 (jobE (wrongF g s k sz sl of gp lt ea))) (fun _ _ w1 _ _ => check_any g s k sz sl of gp lt ea d w1) ?_
 refine zN [1, 9] 1 ⟨.code (sub B13 [1, 0, 1]), [.seq (sub B13 [1, 1])], [(1, .lp 0 0), (9, .bo (jobE (wrongF g s k sz sl of gp lt ea) != 0))], [((cwAM g s k sz sl of gp lt ea d wk A n cap), 28)]⟩ ?_
 rcases Bool.eq_false_or_eq_true (jobE (wrongF g s k sz sl of gp lt ea) != 0) with b0 | b0
 ·refine zR 9 b0 ?_
  refine zN [2, 3] 0 ⟨.exit .ret, [], [(2, .v (.int .i64 0)), (3, .v (.int .i64 2))], []⟩ ?_
  refine zE (.tup [.v (.int .i64 0), .v (.int .i64 2)]) ?_
  have hwr : ¬ wrongR g s k sz sl of gp lt ea = 0 := by rw [jobE_zero, wrong_eq] at b0; simpa using b0
  have hR2 : chkP ⟨g, s, k, sz, sl, of, gp, lt, ea, d⟩ wk xs = (0, 2) := if_pos hwr
  intro ρ w9 hm' hf
  exact ⟨by rw [hR2]; rfl, hm'.below⟩
 refine zR 9 b0 ?_
 refine zN [1, 13] 1 ⟨pops B13 [1, 1, 0, 0] 4, [.seq (sub B13 [1, 1, 0, 1]), .seq (sub B13 pAM12)], [(1, .lp 0 0), (13, .bo (decide (wk < 1)))], [((cwAM g s k sz sl of gp lt ea d wk A n cap), 28)]⟩ ?_
 rcases Bool.eq_false_or_eq_true (decide (wk < 1)) with b1 | b1
 ·refine zR 13 b1 ?_
  refine zN [2, 3] 0 ⟨.exit .ret, [], [(2, .v (.int .i64 1)), (3, .v (.int .i64 2))], []⟩ ?_
  refine zE (.tup [.v (.int .i64 1), .v (.int .i64 2)]) ?_
  have hwr : wrongR g s k sz sl of gp lt ea = 0 := by rw [jobE_zero, wrong_eq] at b0; simpa using b0
  have hR2 : chkP ⟨g, s, k, sz, sl, of, gp, lt, ea, d⟩ wk xs = (1, 2) := chkP_1 hwr (Or.inl (of_decide_eq_true b1))
  intro ρ w9 hm' hf
  exact ⟨by rw [hR2]; rfl, hm'.below⟩
 refine zR 13 b1 ?_
 refine zN [1, 20] 1 ⟨.code (sub B13 [1, 1, 0, 1]), [.seq (sub B13 pAM12)], [(1, .lp 0 0), (20, .bo (decide (wk > g)))], [((cwAM g s k sz sl of gp lt ea d wk A n cap), 28)]⟩ ?_
 rcases Bool.eq_false_or_eq_true (decide (wk > g)) with b2 | b2
 ·refine zR 20 b2 ?_
  refine zN [2, 3] 0 ⟨.exit .ret, [], [(2, .v (.int .i64 1)), (3, .v (.int .i64 2))], []⟩ ?_
  refine zE (.tup [.v (.int .i64 1), .v (.int .i64 2)]) ?_
  have hwr : wrongR g s k sz sl of gp lt ea = 0 := by rw [jobE_zero, wrong_eq] at b0; simpa using b0
  have hR2 : chkP ⟨g, s, k, sz, sl, of, gp, lt, ea, d⟩ wk xs = (1, 2) := chkP_1 hwr (Or.inr (of_decide_eq_true b2))
  intro ρ w9 hm' hf
  exact ⟨by rw [hR2]; rfl, hm'.below⟩
 refine zR 20 b2 ?_
 refine zN [1, 22, 23, 24] 1 ⟨.code (sub B13 [1, 1, 1, 0, 1, 4]), [.block 0, .seq (sub B13 [1, 1, 1, 1])], [(1, .lp 0 0), (22, .sl A n cap), (23, .io .i64 (↑n : Int)), (24, .v (.int .i64 0))], [((cwAM g s k sz sl of gp lt ea d wk A n cap), 28)]⟩ ?_
 have hwr : wrongR g s k sz sl of gp lt ea = 0 := by rw [jobE_zero, wrong_eq] at b0; simpa using b0
 have hlo := of_decide_eq_false b1
 have hhi := of_decide_eq_false b2
 clear b0 b1 b2
 have hR2 : chkP ⟨g, s, k, sz, sl, of, gp, lt, ea, d⟩ wk xs = chkE (badI ⟨g, s, k, sz, sl, of, gp, lt, ea, d⟩ xs 0) := chkP_2 hwr (by show ¬ (wk < 1 ∨ g < wk); omega)
 rw [hR2]
 generalize hR : chkE (badI ⟨g, s, k, sz, sl, of, gp, lt, ea, d⟩ xs 0) = R
 refine At.canonT [24] _ rfl ?_
 refine At.slFr _ rfl ?_
 refine At.loop (σ := Nat) (sub B13 [1, 1, 1, 0, 1, 4, 4]) (frC A n cap) (locC ⟨g, s, k, sz, sl, of, gp, lt, ea, d⟩ wk A n cap) (GC ⟨g, s, k, sz, sl, of, gp, lt, ea, d⟩ xs R) (fun i => n - i) 0 (by kernel_rfl) (by unfold subFr; kernel_rfl) (by kernel_rfl) (fun _ _ _ _ h => ⟨h, hR, Nat.zero_le _⟩) ?_
 clear hR hR2
 intro i
 refine At.pure fun ⟨h1, h2⟩ => ?_
 refine zN [1, 22, 23, 24, 25] 1 ⟨.code (sub B13 [1, 1, 1, 0, 1, 4, 4, 1, 0]), [.seq (sub B13 [1, 1, 1, 0, 1, 4, 4, 1, 1]), .next (Sx.Next w.heap.size w Tryz.f13.ntmps (frC A n cap) (locC (Cf.mk g s k sz sl of gp lt ea d) wk A n cap) (GC (Cf.mk g s k sz sl of gp lt ea d) xs R) (fun i => n - i) i), .block 0, .seq (sub B13 [1, 1, 1, 1])], [(1, .lp 0 0), (22, .sl A n cap), (23, .io .i64 (↑n : Int)), (24, .io .i64 (↑i : Int)), (25, .bo (decide ((↑i : Int) < (↑n : Int))))], [((cwAM g s k sz sl of gp lt ea d wk A n cap), 28)]⟩ ?_
 rcases Bool.eq_false_or_eq_true (decide ((↑i : Int) < (↑n : Int))) with b0 | b0
 ·refine zR 25 b0 ?_
  refine zN [1, 22, 23, 24, 26] 1 ⟨pops B13 [1, 1, 1, 0, 1, 4, 4, 1, 1, 0, 4, 0] 1, [.seq (sub B13 [1, 1, 1, 0, 1, 4, 4, 1, 1, 0, 4, 1]), .block 1, .seq (sub B13 pAM3), .next (Sx.Next w.heap.size w Tryz.f13.ntmps (frC A n cap) (locC (Cf.mk g s k sz sl of gp lt ea d) wk A n cap) (GC (Cf.mk g s k sz sl of gp lt ea d) xs R) (fun i => n - i) i), .block 0, .seq (sub B13 [1, 1, 1, 1])], [(1, .lp 0 0), (22, .sl A n cap), (23, .io .i64 (↑n : Int)), (24, .io .i64 (↑i : Int)), (26, .io .i64 (↑i : Int))], [((cwAM g s k sz sl of gp lt ea d wk A n cap), 28)]⟩ ?_
  have hi : i < n := by have := of_decide_eq_true b0; omega
  clear b0
  obtain ⟨x, hx⟩ : ∃ x, xs[i]? = some x := ⟨_, List.getElem?_eq_getElem (by rw [← hS.1]; exact hi)⟩
  obtain ⟨a, rfl, hcell⟩ := hS.get hx
  rw [drop_at hx] at h1
  simp only [badI] at h1
  obtain ⟨kd, ik, key, ti, v, src, wk2, wks, bit, mask⟩ := x
  refine At.idx a n 10 (i : Int) (by kernel_rfl) (by omega) (by omega) noF_stable ?_
  refine At.lda (a.add ((i : Int).toNat * 10)) 10 [.io .i64 kd, .io .i64 ik, .so (mkB key), .io .i64 ti, .io .i64 v, .io .i64 src, .io .i64 wk2, .io .i64 wks, .io .i64 bit, .io .u32 mask] (by kernel_rfl) rfl noF_stable (fun ρ w1 hm' hf j v2 hj => cell_below (hcell j v2 hj) hm'.below) ?_
  let kn0 : K := .next (Sx.Next w.heap.size w Tryz.f13.ntmps (frC (some a) n cap) (locC (Cf.mk g s k sz sl of gp lt ea d) wk (some a) n cap) (GC (Cf.mk g s k sz sl of gp lt ea d) xs R) (fun i => n - i) i)
  refine zN [1, 4, 22, 23, 24, 30, 31] 1 ⟨pops B13 [1, 1, 1, 0, 1, 4, 4, 1, 1, 0, 4, 1, 0] 3, [.seq (sub B13 [1, 1, 1, 0, 1, 4, 4, 1, 1, 0, 4, 1, 1]), .block 1, .seq (sub B13 pAM3), kn0, .block 0, .seq (sub B13 [1, 1, 1, 1])], [(1, .lp 0 0), (4, .io .i64 (↑i : Int)), (22, .sl (some a) n cap), (23, .io .i64 (↑n : Int)), (24, .io .i64 (↑i : Int)), (30, .agg (cfAM g s k sz sl of gp lt ea d)), (31, .agg [.io .i64 kd, .io .i64 ik, .so (mkB key), .io .i64 ti, .io .i64 v, .io .i64 src, .io .i64 wk2, .io .i64 wks, .io .i64 bit, .io IntKind.u32 mask])], [((cwAM g s k sz sl of gp lt ea d wk (some a) n cap), 28)]⟩ ?_
  refine zC noF_stable 31 [.agg (cfAM g s k sz sl of gp lt ea d), .agg [.io .i64 kd, .io .i64 ik, .so (mkB key), .io .i64 ti, .io .i64 v, .io .i64 src, .io .i64 wk2, .io .i64 wks, .io .i64 bit, .io .u32 mask]] (.bo (mayB ⟨g, s, k, sz, sl, of, gp, lt, ea, d⟩ ⟨kd, ik, key, ti, v, src, wk2, wks, bit, mask⟩)) (fun _ _ w1 _ _ => may_any ⟨g, s, k, sz, sl, of, gp, lt, ea, d⟩ ⟨kd, ik, key, ti, v, src, wk2, wks, bit, mask⟩ hwr w1) ?_
  refine zN [1, 4, 22, 23, 24, 33] 1 ⟨.code (sub B13 [1, 1, 1, 0, 1, 4, 4, 1, 1, 0, 4, 1, 1]), [.block 1, .seq (sub B13 pAM3), kn0, .block 0, .seq (sub B13 [1, 1, 1, 1])], [(1, .lp 0 0), (4, .io .i64 (↑i : Int)), (22, .sl (some a) n cap), (23, .io .i64 (↑n : Int)), (24, .io .i64 (↑i : Int)), (33, .bo !mayB (Cf.mk g s k sz sl of gp lt ea d) (St.mk kd ik key ti v src wk2 wks bit mask))], [((cwAM g s k sz sl of gp lt ea d wk (some a) n cap), 28)]⟩ ?_
  rcases Bool.eq_false_or_eq_true (!mayB (Cf.mk g s k sz sl of gp lt ea d) (St.mk kd ik key ti v src wk2 wks bit mask)) with b0 | b0
  ·refine zR 33 b0 ?_
   refine zN [2, 3] 0 ⟨.exit .ret, [], [(2, .io .i64 (IntKind.i64.wrap (2 + (↑i : Int)))), (3, .v (.int .i64 2))], []⟩ ?_
   refine zE (.tup [.io .i64 (IntKind.i64.wrap (2 + (↑i : Int))), .v (.int .i64 2)]) ?_
   have hmay : mayB ⟨g, s, k, sz, sl, of, gp, lt, ea, d⟩ ⟨kd, ik, key, ti, v, src, wk2, wks, bit, mask⟩ = false := by simpa using b0
   rw [hmay] at h1
   have hw2 : IntKind.i64.wrap (2 + (i : Int)) = 2 + (i : Int) := wrap63 (by omega) (by omega)
   rw [hw2]
   intro ρ w9 hm' hf
   exact ⟨by rw [← h1]; rfl, hm'.below⟩
  refine zR 33 b0 ?_
  refine zN [1, 4, 22, 23, 24] 1 ⟨.exit .normal, [.next (Sx.Next w.heap.size w Tryz.f13.ntmps (frC (some a) n cap) (locC (Cf.mk g s k sz sl of gp lt ea d) wk (some a) n cap) (GC (Cf.mk g s k sz sl of gp lt ea d) xs R) (fun i => n - i) i), .block 0, .seq (sub B13 [1, 1, 1, 1])], [(1, .lp 0 0), (4, .io .i64 (↑i : Int)), (22, .sl (some a) n cap), (23, .io .i64 (↑n : Int)), (24, .io .i64 (IntKind.i64.wrap ((↑i : Int) + 1)))], [((cwAM g s k sz sl of gp lt ea d wk (some a) n cap), 28)]⟩ ?_
  have hmay : mayB ⟨g, s, k, sz, sl, of, gp, lt, ea, d⟩ ⟨kd, ik, key, ti, v, src, wk2, wks, bit, mask⟩ = true := by simpa using b0
  rw [hmay] at h1
  have hw3 : IntKind.i64.wrap ((i : Int) + 1) = ((i + 1 : Nat) : Int) := by
   rw [wrap63 (by omega) (by omega)]
   omega
  rw [hw3]
  refine At.next (σ := Nat) (i + 1) rfl rfl (by unfold subFr; kernel_rfl) (by kernel_rfl) ?_ ?_
  ·intro ρ a' w' hi' hf
   exact ⟨hf, h1, by omega⟩
  show n - (i + 1) < n - i
  omega
 refine zR 25 b0 ?_
 refine zN [2, 3] 0 ⟨.exit .ret, [], [(2, .v (.int .i64 0)), (3, .v (.int .i64 0))], []⟩ ?_
 refine zE (.tup [.v (.int .i64 0), .v (.int .i64 0)]) ?_
 have hi : ¬ (i : Int) < (n : Int) := of_decide_eq_false b0
 rw [List.drop_eq_nil_of_le (by rw [← hS.1]; omega)] at h1
 simp only [badI] at h1
 intro ρ w9 hm' hf
 exact ⟨by rw [← h1]; rfl, hm'.below⟩
theorem check_kit (c : Cf) (wk : Int) (A : Option Addr) (n cap : Nat) (xs : List St) (w : World) (hS : SlS w A n xs) (hn : n ≤ 1048576) :
  Calls Tryz.prog 13 #[.agg (c.w ++ [Value.int .i64 wk, Value.slice A n cap]).toArray] w fun e w' => e = .returned (.tuple #[.int .i64 (chkP c wk xs).1, .int .i64 (chkP c wk xs).2]) ∧ Below w.heap.size w w' := by
 obtain ⟨g, s, k, sz, sl, of, gp, lt, ea, d⟩ := c
 exact check_go g s k sz sl of gp lt ea d wk A n cap xs w hS hn
end Go.Proofs.YthfpekhpeiebjaaGreatDoor
end
section
/- Several rows of one's own, each in memory of its own. -/
namespace Go.Sx
open Go.RowKit
structure Rw where
 e : Nat
 size : Nat
 A : Option Addr
 n : Nat
 c : Nat
 xs : List Value
def Rw.own (x : Rw) : Option Nat := (Value.slice x.A x.n x.c).ownBlock
def Apart (x y : Rw) : Prop := ∀ g, x.own = some g → y.own ≠ some g
theorem Apart.symm {x y : Rw} (h : Apart x y) : Apart y x := fun g hg he => h g he hg
def Rws (b : Nat) (L : List Rw) (ρ : List Nat) (w : World) : Prop := (∀ x ∈ L, Row b x.e x.size x.A x.n x.c x.xs ρ w) ∧ L.Pairwise Apart
theorem Rws.none (b : Nat) (ρ : List Nat) (w : World) : Rws b [] ρ w := ⟨fun x h => (by cases h), List.Pairwise.nil⟩
theorem Rws.stable {b : Nat} {L : List Rw} : Stable (Rws b L) := fun ρ w ρ' w' hg hk h => ⟨fun x hx => (h.1 x hx).keep hg hk, h.2⟩
theorem Rws.fewer {b : Nat} {L : List Rw} : FewerK 0 (Rws b L) := fun ρ w k _ h => ⟨fun x hx => Row.fewer _ _ _ _ _ _ _ ρ w k (h.1 x hx), h.2⟩
theorem Rws.perm {b : Nat} {L L' : List Rw} {ρ : List Nat} {w : World} (h : Rws b L ρ w) (hp : L'.Perm L) : Rws b L' ρ w :=
 ⟨fun x hx => h.1 x (hp.subset hx), (hp.pairwise_iff (fun h => Apart.symm h)).2 h.2⟩
theorem Rws.sub {b : Nat} {L L' : List Rw} {ρ : List Nat} {w : World} (h : Rws b L ρ w) (hs : L'.Sublist L) : Rws b L' ρ w := ⟨fun x hx => h.1 x (hs.subset hx), h.2.sublist hs⟩
theorem Rws.nil {b : Nat} {L : List Rw} {ρ : List Nat} {w : World} (h : Rws b L ρ w) (e size : Nat) : Rws b (⟨e, size, .none, 0, 0, []⟩ :: L) ρ w :=
 ⟨fun x hx => by
  rcases List.mem_cons.1 hx with rfl | hx
  ·exact Row.nil b e size ρ w
  exact h.1 x hx, List.pairwise_cons.2 ⟨fun y _ g hg => by simp [Rw.own, Value.ownBlock] at hg, h.2⟩⟩
theorem Rws.len {b : Nat} {L : List Rw} {x : Rw} {ρ : List Nat} {w : World} (h : Rws b L ρ w) (hx : x ∈ L) : x.xs.length = x.n * x.size := (h.1 x hx).1.1
theorem Rws.cap {b : Nat} {L : List Rw} {x : Rw} {ρ : List Nat} {w : World} (h : Rws b L ρ w) (hx : x ∈ L) : x.n ≤ x.c := by
 rcases (h.1 x hx).1.2 with ⟨h2, h3⟩ | ⟨g, cap, cur, hv, _, _, hnc, _⟩
 ·omega
 injection hv with _ _ hcc
 omega
theorem Rws.some {b : Nat} {L : List Rw} {x : Rw} {ρ : List Nat} {w : World} (h : Rws b L ρ w) (hx : x ∈ L) (hn : 0 < x.n) : ∃ a, x.A = Option.some a := by
 rcases (h.1 x hx).1.2 with ⟨h2, h3⟩ | ⟨g, cap, cur, hv, _⟩
 ·omega
 injection hv with hv _ _
 exact ⟨_, hv⟩
theorem Rws.isNil {b : Nat} {L : List Rw} {x : Rw} {ρ : List Nat} {w : World} (h : Rws b L ρ w) (hx : x ∈ L) (hA : x.A = Option.none) : x.n = 0 ∧ x.xs = [] := by
 rcases (h.1 x hx).1.2 with ⟨h2, h3⟩ | ⟨g, cap, cur, hv, _⟩
 ·exact ⟨h3, List.eq_nil_of_length_eq_zero (by rw [(h.1 x hx).1.1, h3, Nat.zero_mul])⟩
 injection hv with hv _ _
 rw [hA] at hv
 cases hv
theorem Rws.src {b : Nat} {L : List Rw} {x : Rw} {ρ : List Nat} {w : World} (h : Rws b L ρ w) (hx : x ∈ L) {a : Addr} (ha : x.A = Option.some a) : Src w a x.xs := by
 intro j u hj
 have hj' := (List.getElem?_eq_some_iff.1 hj).1
 obtain ⟨g, hg, hc⟩ := (h.1 x hx).cell (j := j) (by have := (h.1 x hx).1.1; omega)
 rw [ha] at hg
 injection hg with hg
 subst hg
 rw [add_ok, Nat.zero_add, hc]
 exact hj
theorem own_base' {w : World} {b b' e size n : Nat} {v : Value} {xs : List Value} (h : w.ownsRow b e size v n xs) (hb : b' ≤ b) : w.ownsRow b' e size v n xs := by
 refine ⟨h.1, ?_⟩
 rcases h.2 with h2 | ⟨g, cap, cur, hv, hg, h3⟩
 ·exact .inl h2
 exact .inr ⟨g, cap, cur, hv, Nat.le_trans hb hg, h3⟩
theorem Row.chg' {b e size : Nat} {A : Option Addr} {n c : Nat} {xs : List Value} {ρ : List Nat} {w w' : World} (h : Row b e size A n c xs ρ w) (hc : ∀ g, (Value.slice A n c).ownBlock = some g → w'.heap[g]? = w.heap[g]?) : Row b e size A n c xs ρ w' := by
 have hlt := h.1.lt
 refine ⟨⟨h.1.1, ?_⟩, h.2⟩
 rcases h.1.2 with h2 | ⟨g, cap, cur, hv, hb, hcur, hr⟩
 ·exact .inl h2
 have hg : (Value.slice A n c).ownBlock = some g := by rw [hv]; rfl
 exact .inr ⟨g, cap, cur, hv, hb, by rw [hc g hg]; exact hcur, hr⟩
theorem Rws.grown {b : Nat} {L : List Rw} {x y : Rw} {ρ : List Nat} {w w' : World} (h : Rws b (x :: L) ρ w) (hy : Row b y.e y.size y.A y.n y.c y.xs ρ w') (hg : w.grownBy w' x.own) (ho : y.own = x.own ∨ y.own = Option.some w.heap.size ∨ y.own = Option.none) : Rws b (y :: L) ρ w' := by
 obtain ⟨h1, h2⟩ := h
 have h2 := List.pairwise_cons.1 h2
 refine ⟨fun z hz => ?_, List.pairwise_cons.2 ⟨fun z hz g hg' he => ?_, h2.2⟩⟩
 ·rcases List.mem_cons.1 hz with rfl | hz
  ·exact hy
  have hz' := h1 z (List.mem_cons_of_mem _ hz)
  exact hz'.chg' fun g hg' => hg.block g (hz'.1.lt g hg').2 fun e => h2.1 z hz g e.symm hg'
 rcases ho with ho | ho | ho
 ·exact h2.1 z hz g (ho ▸ hg') he
 ·rw [ho] at hg'
  injection hg' with hg'
  have := ((h1 z (List.mem_cons_of_mem _ hz)).1.lt g he).2
  omega
 rw [ho] at hg'
 cases hg'
section
variable {P : Program} {Q : Exit → Act → World → Prop} {N : Nat} {w0 : World} {ntm : Nat} {F : List Nat → World → Prop}
variable [Md]
theorem At.rowCall {s : S} {L : List Rw} {e size : Nat} (g : FuncId) (vs : List SV) (xs : List Value) (rv : Option Addr → Nat → Nat → SV) (hc : s.call? = some (g, vs)) (hb : bodied P g = true) (hd : s.dstOk ntm = true) (hq : (match s.pc with | .ops .. => true | _ => false) = true)
  (hr : ∀ ρ w, WInv N w0 ρ s.loc w → Rws N L ρ w → Calls P g (SV.denL ρ vs).toArray w fun e' w' => ∃ A n c, e' = .returned ((rv A n c).den ρ) ∧ RowF w (fun _ => False) [] w.heap.size e size A n c xs [] w')
  (h : ∀ A n c, xs.length = n * size → At P Q N w0 ntm (Rws N (⟨e, size, A, n, c, xs⟩ :: L)) (s.tail ntm (rv A n c))) : At P Q N w0 ntm (Rws N L) s := by
 refine At.callx (X := Option Addr × Nat × Nat) Rws.stable g vs (fun x => rv x.1 x.2.1 x.2.2) (fun x ρ w => Rws N (⟨e, size, x.1, x.2.1, x.2.2, xs⟩ :: L) ρ w) (fun x => Rws.stable) hc hb hd hq (fun ρ a w hi hf => (hr ρ w hi.mem hf).mono ?_) (fun x => At.mono (F' := fun ρ w => Rws N (⟨e, size, x.1, x.2.1, x.2.2, xs⟩ :: L) ρ w ∧ xs.length = x.2.1 * size) (fun ρ w h => ⟨h.2, h.2.len (x := ⟨e, size, x.1, x.2.1, x.2.2, xs⟩) (List.mem_cons_self ..)⟩) (At.pure fun hl => h x.1 x.2.1 x.2.2 hl))
 rintro e' w' ⟨A, n, c, rfl, ⟨⟨h1, h2⟩, h3, h4⟩⟩
 have hbel : Below w.heap.size w w' := ⟨h3.1.os, h3.1.tape, h3.1.output, h3.1.size, fun k hk => h3.1.block k hk (fun h => h)⟩
 have hnew : ∀ g, (Value.slice A n c).ownBlock = some g → w.heap.size ≤ g := fun g hg => (h4 g hg).resolve_left fun h => h
 refine ⟨(A, n, c), rfl, hbel, fun x hx => ?_, List.pairwise_cons.2 ⟨fun y hy g hg => ?_, hf.2⟩⟩
 ·rcases List.mem_cons.1 hx with rfl | hx
  ·refine ⟨own_base' h1.1 hi.mem.hN, fun g hg hm => ?_⟩
   have h5 := hnew g hg
   have h6 := (hi.mem.ge g hm).2
   omega
  exact (hf.1 x hx).keep (Grow.refl _ _) (Keep.of_below hbel)
 intro he
 have h5 := hnew g hg
 have h6 := ((hf.1 y hy).1.lt g he).2
 omega
theorem At.appV {s : S} (t e size bytes : Nat) (A : Option Addr) (n c m : Nat) (nl : List SV) (xs news : List Value) (L : List Rw) (hq : appI P ntm s = some ⟨t, e, size, bytes, A, n, c, m, nl⟩) (hnews : ∀ ρ, SV.denL ρ nl = news)
  (hbytes : (n + m) * bytes ≤ 140737488355328) (h63 : n + m ≤ maxLen)
  (h : ∀ (A' : Option Addr) (c' : Nat), n + m ≤ c' → At P Q N w0 ntm (Rws N (⟨e, size, A', n + m, c', xs ++ news⟩ :: L)) (s.tail ntm (.sl A' (n + m) c'))) : At P Q N w0 ntm (Rws N (⟨e, size, A, n, c, xs⟩ :: L)) s := by
 unfold appI at hq
 obtain ⟨⟨o, q', i, off, k, cells, ct⟩, h1, h2⟩ := Option.map_eq_some_iff.1 hq
 simp only at h2
 subst h2
 unfold appQ at h1
 split at h1
 ·rename_i o' ho
  split at h1
  ·rename_i t' A1 n1 c1 i' off' m' k' ha
   split at h1
   ·rename_i e1 size1 bytes1 cells' ct' ht hl
    split at h1
    ·rename_i hb
     simp only [Option.some.injEq, Prod.mk.injEq, AppQ.mk.injEq] at h1
     obtain ⟨rfl, ⟨rfl, rfl, rfl, rfl, rfl, rfl, rfl, rfl, rfl⟩, rfl, rfl, rfl, rfl, rfl⟩ := h1
     simp only [Bool.and_eq_true] at hb
     refine At.opx o' (fun x : Option Addr × Nat => .sl x.1 (n1 + m') x.2) (fun x ρ w => Rws N (⟨e1, size1, x.1, n1 + m', x.2, xs ++ news⟩ :: L) ρ w) ho hb.2 hb.1.1 ?_ (fun x => At.mono (F' := fun ρ w => Rws N (⟨e1, size1, x.1, n1 + m', x.2, xs ++ news⟩ :: L) ρ w ∧ n1 + m' ≤ x.2) (fun ρ w h => ⟨h, h.cap (x := ⟨e1, size1, x.1, n1 + m', x.2, xs ++ news⟩) (List.mem_cons_self ..)⟩) (At.pure fun hl => h x.1 x.2 hl))
     intro ρ a w hi hf
     have hrow := hf.1 _ (List.mem_cons_self ..)
     have hle := hb.1.2.1
     have hlen : news.length = m' * size1 := by
      rw [← hnews ρ]
      have := Nat.le_of_ble_eq_true hle
      simp [SV.denL_eq]; omega
     obtain ⟨A', c', w', r1, r2, r3, r4⟩ := run_append_row (P := P) (ty := o'.type) ht hrow hi.mem.hN (fun b hb => (hi.mem.ge b hb).2) ⟨nth ρ i', off', none⟩ m' k' news hlen (fun j u hj => by
       rw [add_ok, cell_of_loc hi.mem hl]
       rw [← hnews ρ] at hj
       have hjn : j < m' * size1 := by
        have := (List.getElem?_eq_some_iff.1 hj).1
        simp [SV.denL_eq] at this
        omega
       simpa [SV.denL_eq, List.getElem?_take, hjn, List.getElem?_drop] using hj) (by rw [← hnews ρ]; exact oneL_den hb.1.2.2) hbytes h63
     exact ⟨(A', c'), w', run_appS hi.act ha r1, hi.mem.grown r3 (fun g hg => ⟨(hrow.1.lt g hg).1, hrow.2 g hg⟩), hf.grown r2 r3 (r4.imp id .inl)⟩
    cases h1
   cases h1
  cases h1
 cases h1
theorem rws_new {w0 w w' : World} {N : Nat} {ρ : List Nat} {loc : Loc} {e size n c : Nat} {A : Option Addr} {xs : List Value} (hm : WInv N w0 ρ loc w) (h : RowF w (fun _ => False) [] w.heap.size e size A n c xs [] w') : Rws N [⟨e, size, A, n, c, xs⟩] ρ w' ∧ Below w.heap.size w w' := by
 obtain ⟨⟨h1, h2⟩, h3, h4⟩ := h
 refine ⟨⟨fun x hx => ?_, List.pairwise_singleton _ _⟩, ⟨h3.1.os, h3.1.tape, h3.1.output, h3.1.size, fun k hk => h3.1.block k hk (fun h => h)⟩⟩
 rw [List.mem_singleton] at hx
 subst hx
 refine ⟨own_base' h1.1 hm.hN, fun g hg hmm => ?_⟩
 have h5 : w.heap.size ≤ g := (h4 g hg).resolve_left fun h => h
 have h6 := (hm.ge g hmm).2
 omega
theorem At.join {σ : Type} {s : S} (G : σ → List Nat → World → Prop) (s' : σ → S) (h1 : (∀ x, At P Q N w0 ntm (G x) (s' x)) → At P Q N w0 ntm F s) (h2 : ∀ x, At P Q N w0 ntm (G x) (s' x)) : At P Q N w0 ntm F s := h1 h2
theorem src_pre {w : World} {a : Addr} {xs ys : List Value} (h : Src w a (xs ++ ys)) : Src w a xs := fun j u hj => h j u (by rw [List.getElem?_append_left (List.getElem?_eq_some_iff.1 hj).1]; exact hj)
def bixQ (P : Program) (ntm : Nat) (s : S) : Option (BinOp × IntKind × Int × IntKind × Int) :=
 match s.head?, s.dstOk ntm with
 | some o, true => match o.op with
  | .binOp op t x y _ => match evalS s.fr x, evalS s.fr y with
   | some sx, some sy => match litOf sx, litOf sy, sx.calm with
    | some (.int k a, _), some (.int k2 b, _), true => some (op, k, a, k2, b)
    | _, _, _ => none
   | _, _ => none
  | _ => none
 | _, _ => none
end
end Go.Sx
end
section
namespace Go.Proofs.YthfpekhpeiebjaaGreatDoor
open Go.RowKit Go.Sx
theorem bool_of {a : Bool} {p : Prop} [Decidable p] (h : a = true ↔ p) : a = decide p := by
 cases a
 ·exact (decide_eq_false (fun hp => by have := h.2 hp; cases this)).symm
 exact (decide_eq_true (h.1 rfl)).symm
section
variable {P : Program} {Q : Exit → Act → World → Prop} {N : Nat} {w0 : World} {ntm : Nat} {F : List Nat → World → Prop} [Md]
theorem At.bix2 {s : S} (op : BinOp) (k : IntKind) (a b m : Int) (hq : bixQ Tryz.prog ntm s = some (op, k, a, k, b)) (hm : binInt2 op k a b = some (.int k m)) (hF : Stable F)
  (h : At Tryz.prog Q N w0 ntm F (s.tail ntm (.io k m))) : At Tryz.prog Q N w0 ntm F s := by
 unfold bixQ at hq
 split at hq
 ·rename_i o ho hd
  split at hq
  ·rename_i op' t x y t2 hop
   split at hq
   ·rename_i sx sy hx hy
    split at hq
    ·rename_i k' a' l1 k2 b' l2 h1 h2 hcalm
     simp only [Option.some.injEq, Prod.mk.injEq] at hq
     obtain ⟨rfl, rfl, rfl, rfl, rfl⟩ := hq
     refine At.op hF o (.io k2 m) ho hd (fun ρ act w hi _ => ?_) h
     obtain ⟨dst, opp, ty, pos, after, guard⟩ := o
     simp only at hop
     subst hop
     have hr := run_binInt2 (P := Tryz.prog) hm t w
     have hg := run_eqGuard_calm (P := Tryz.prog) (ρ := ρ) hcalm op' t x y (sy.den ρ) w
     rw [litOf_den h1, litOf_den h2] at hg
     simp [execOp, evalS_sound hi.act hx, evalS_sound hi.act hy, litOf_den h1, litOf_den h2, SV.den, hg, hr]
    cases hq
   cases hq
  cases hq
 cases hq
end
def jobK (g s k sz sl of gp lt ea : Int) : Prop := (1 ≤ g ∧ g ≤ 32768) ∧ (1 ≤ s ∧ s ≤ 64) ∧ (0 ≤ lt ∧ lt ≤ 1099511627776) ∧ (0 ≤ ea ∧ ea ≤ 2147483647) ∧
 ((k = 1 ∧ 1 ≤ sz ∧ sz ≤ 1099511627776 ∧ 0 ≤ of ∧ of < sz ∧ sl = 0 ∧ gp = 0) ∨ (k = 2 ∧ 1 ≤ sz ∧ sz ≤ 1099511627776 ∧ 1 ≤ sl ∧ sl ≤ sz ∧ IntKind.i64.wrap ((IntKind.i64.wrap (IntKind.i64.wrap (sz + sl) - 1)).tdiv sl) ≤ 64 ∧ 0 ≤ of ∧ of < sl ∧ gp = 0) ∨
  (k = 3 ∧ 1 ≤ gp ∧ gp ≤ 1099511627776 ∧ sz = 0 ∧ sl = 0 ∧ of = 0))
instance (g s k sz sl of gp lt ea : Int) : Decidable (jobK g s k sz sl of gp lt ea) := by unfold jobK; infer_instance
noncomputable def B44 : Code := (Tryz.f44.body).getD .skip
set_option maxHeartbeats 8000000 in
set_option maxRecDepth 100000 in
theorem rjob_any (g s k sz sl of gp lt ea : Int) (d : Bool) (w : World) :
  Calls Tryz.prog 44 #[.agg #[.int .i64 g, .int .i64 s, .int .i64 k, .int .i64 sz, .int .i64 sl, .int .i64 of, .int .i64 gp, .int .i64 lt, .int .i64 ea, .bool d]] w fun e w' => e = .returned (.bool (decide (jobK g s k sz sl of gp lt ea))) ∧ Below w.heap.size w w' := by
 refine enter (fn := Tryz.f44) (c := B44) [.agg (cfAM g s k sz sl of gp lt ea d)] Tryz.func44 rfl rfl ?_
 refine zN [1, 6] 1 ⟨pops B44 [1, 0, 0] 4, [.seq (sub B44 [1, 0, 1]), .seq (sub B44 [1, 1])], [(1, .lp 0 0), (6, .bo (decide (g < 1)))], [((cfAM g s k sz sl of gp lt ea d), 25)]⟩ ?_
 rcases Bool.eq_false_or_eq_true (decide (g < 1)) with b0 | b0
 ·refine zR 6 b0 ?_
  refine zN [2] 0 ⟨.exit .ret, [], [(2, .v (.bool false))], []⟩ ?_
  refine zE (.v (.bool false)) ?_
  intro ρ w9 hm' hf
  refine ⟨congrArg (fun b => Ending.returned (Value.bool b)) ?_, hm'.below⟩
  exact bool_of (by
   simp only [decide_eq_true_eq, decide_eq_false_iff_not, beq_iff_eq, beq_eq_false_iff_ne, Bool.false_eq_true, true_iff, false_iff, gt_iff_lt, ge_iff_le] at *
   unfold jobK
   omega)
 refine zR 6 b0 ?_
 refine zN [1, 11] 1 ⟨pops B44 [1, 0, 0] 9, [.seq (sub B44 [1, 0, 1]), .seq (sub B44 [1, 1])], [(1, .lp 0 0), (11, .bo (decide (g > 32768)))], [((cfAM g s k sz sl of gp lt ea d), 25)]⟩ ?_
 rcases Bool.eq_false_or_eq_true (decide (g > 32768)) with b1 | b1
 ·refine zR 11 b1 ?_
  refine zN [2] 0 ⟨.exit .ret, [], [(2, .v (.bool false))], []⟩ ?_
  refine zE (.v (.bool false)) ?_
  intro ρ w9 hm' hf
  refine ⟨congrArg (fun b => Ending.returned (Value.bool b)) ?_, hm'.below⟩
  exact bool_of (by
   simp only [decide_eq_true_eq, decide_eq_false_iff_not, beq_iff_eq, beq_eq_false_iff_ne, Bool.false_eq_true, true_iff, false_iff, gt_iff_lt, ge_iff_le] at *
   unfold jobK
   omega)
 refine zR 11 b1 ?_
 refine zN [1, 16] 1 ⟨pops B44 [1, 0, 0] 14, [.seq (sub B44 [1, 0, 1]), .seq (sub B44 [1, 1])], [(1, .lp 0 0), (16, .bo (decide (s < 1)))], [((cfAM g s k sz sl of gp lt ea d), 25)]⟩ ?_
 rcases Bool.eq_false_or_eq_true (decide (s < 1)) with b2 | b2
 ·refine zR 16 b2 ?_
  refine zN [2] 0 ⟨.exit .ret, [], [(2, .v (.bool false))], []⟩ ?_
  refine zE (.v (.bool false)) ?_
  intro ρ w9 hm' hf
  refine ⟨congrArg (fun b => Ending.returned (Value.bool b)) ?_, hm'.below⟩
  exact bool_of (by
   simp only [decide_eq_true_eq, decide_eq_false_iff_not, beq_iff_eq, beq_eq_false_iff_ne, Bool.false_eq_true, true_iff, false_iff, gt_iff_lt, ge_iff_le] at *
   unfold jobK
   omega)
 refine zR 16 b2 ?_
 refine zN [1, 21] 1 ⟨pops B44 [1, 0, 0] 19, [.seq (sub B44 [1, 0, 1]), .seq (sub B44 [1, 1])], [(1, .lp 0 0), (21, .bo (decide (s > 64)))], [((cfAM g s k sz sl of gp lt ea d), 25)]⟩ ?_
 rcases Bool.eq_false_or_eq_true (decide (s > 64)) with b3 | b3
 ·refine zR 21 b3 ?_
  refine zN [2] 0 ⟨.exit .ret, [], [(2, .v (.bool false))], []⟩ ?_
  refine zE (.v (.bool false)) ?_
  intro ρ w9 hm' hf
  refine ⟨congrArg (fun b => Ending.returned (Value.bool b)) ?_, hm'.below⟩
  exact bool_of (by
   simp only [decide_eq_true_eq, decide_eq_false_iff_not, beq_iff_eq, beq_eq_false_iff_ne, Bool.false_eq_true, true_iff, false_iff, gt_iff_lt, ge_iff_le] at *
   unfold jobK
   omega)
 refine zR 21 b3 ?_
 refine zN [1, 26] 1 ⟨pops B44 [1, 0, 0] 24, [.seq (sub B44 [1, 0, 1]), .seq (sub B44 [1, 1])], [(1, .lp 0 0), (26, .bo (decide (lt < 0)))], [((cfAM g s k sz sl of gp lt ea d), 25)]⟩ ?_
 rcases Bool.eq_false_or_eq_true (decide (lt < 0)) with b4 | b4
 ·refine zR 26 b4 ?_
  refine zN [2] 0 ⟨.exit .ret, [], [(2, .v (.bool false))], []⟩ ?_
  refine zE (.v (.bool false)) ?_
  intro ρ w9 hm' hf
  refine ⟨congrArg (fun b => Ending.returned (Value.bool b)) ?_, hm'.below⟩
  exact bool_of (by
   simp only [decide_eq_true_eq, decide_eq_false_iff_not, beq_iff_eq, beq_eq_false_iff_ne, Bool.false_eq_true, true_iff, false_iff, gt_iff_lt, ge_iff_le] at *
   unfold jobK
   omega)
 refine zR 26 b4 ?_
 refine zN [1, 31] 1 ⟨pops B44 [1, 0, 0] 29, [.seq (sub B44 [1, 0, 1]), .seq (sub B44 [1, 1])], [(1, .lp 0 0), (31, .bo (decide (lt > 1099511627776)))], [((cfAM g s k sz sl of gp lt ea d), 25)]⟩ ?_
 rcases Bool.eq_false_or_eq_true (decide (lt > 1099511627776)) with b5 | b5
 ·refine zR 31 b5 ?_
  refine zN [2] 0 ⟨.exit .ret, [], [(2, .v (.bool false))], []⟩ ?_
  refine zE (.v (.bool false)) ?_
  intro ρ w9 hm' hf
  refine ⟨congrArg (fun b => Ending.returned (Value.bool b)) ?_, hm'.below⟩
  exact bool_of (by
   simp only [decide_eq_true_eq, decide_eq_false_iff_not, beq_iff_eq, beq_eq_false_iff_ne, Bool.false_eq_true, true_iff, false_iff, gt_iff_lt, ge_iff_le] at *
   unfold jobK
   omega)
 refine zR 31 b5 ?_
 refine zN [1, 36] 1 ⟨pops B44 [1, 0, 0] 34, [.seq (sub B44 [1, 0, 1]), .seq (sub B44 [1, 1])], [(1, .lp 0 0), (36, .bo (decide (ea < 0)))], [((cfAM g s k sz sl of gp lt ea d), 25)]⟩ ?_
 rcases Bool.eq_false_or_eq_true (decide (ea < 0)) with b6 | b6
 ·refine zR 36 b6 ?_
  refine zN [2] 0 ⟨.exit .ret, [], [(2, .v (.bool false))], []⟩ ?_
  refine zE (.v (.bool false)) ?_
  intro ρ w9 hm' hf
  refine ⟨congrArg (fun b => Ending.returned (Value.bool b)) ?_, hm'.below⟩
  exact bool_of (by
   simp only [decide_eq_true_eq, decide_eq_false_iff_not, beq_iff_eq, beq_eq_false_iff_ne, Bool.false_eq_true, true_iff, false_iff, gt_iff_lt, ge_iff_le] at *
   unfold jobK
   omega)
 refine zR 36 b6 ?_
 refine zN [1, 40] 1 ⟨.code (sub B44 [1, 0, 1]), [.seq (sub B44 [1, 1])], [(1, .lp 0 0), (40, .bo (decide (ea > 2147483647)))], [((cfAM g s k sz sl of gp lt ea d), 25)]⟩ ?_
 rcases Bool.eq_false_or_eq_true (decide (ea > 2147483647)) with b7 | b7
 ·refine zR 40 b7 ?_
  refine zN [2] 0 ⟨.exit .ret, [], [(2, .v (.bool false))], []⟩ ?_
  refine zE (.v (.bool false)) ?_
  intro ρ w9 hm' hf
  refine ⟨congrArg (fun b => Ending.returned (Value.bool b)) ?_, hm'.below⟩
  exact bool_of (by
   simp only [decide_eq_true_eq, decide_eq_false_iff_not, beq_iff_eq, beq_eq_false_iff_ne, Bool.false_eq_true, true_iff, false_iff, gt_iff_lt, ge_iff_le] at *
   unfold jobK
   omega)
 refine zR 40 b7 ?_
 refine zN [1, 42, 43] 1 ⟨.code (sub B44 [1, 1, 0, 1, 4, 1]), [.block 0, .seq (sub B44 pAM12)], [(1, .lp 0 0), (42, .io .i64 k), (43, .bo (k == 1))], [((cfAM g s k sz sl of gp lt ea d), 25)]⟩ ?_
 rcases Bool.eq_false_or_eq_true (k == 1) with b8 | b8
 ·refine zR 43 b8 ?_
  refine zN [1, 48] 1 ⟨pops B44 pAM9 4, [.seq (sub B44 pAM11), .block 0, .seq (sub B44 pAM12)], [(1, .lp 0 0), (48, .bo (decide (sz ≥ 1)))], [((cfAM g s k sz sl of gp lt ea d), 25)]⟩ ?_
  rcases Bool.eq_false_or_eq_true (decide (sz ≥ 1)) with b9 | b9
  ·refine zR 48 b9 ?_
   refine zN [1, 53] 1 ⟨pops B44 pAM9 9, [.seq (sub B44 pAM11), .block 0, .seq (sub B44 pAM12)], [(1, .lp 0 0), (53, .bo (decide (sz ≤ 1099511627776)))], [((cfAM g s k sz sl of gp lt ea d), 25)]⟩ ?_
   rcases Bool.eq_false_or_eq_true (decide (sz ≤ 1099511627776)) with b10 | b10
   ·refine zR 53 b10 ?_
    refine zN [1, 58] 1 ⟨pops B44 pAM9 14, [.seq (sub B44 pAM11), .block 0, .seq (sub B44 pAM12)], [(1, .lp 0 0), (58, .bo (decide (of ≥ 0)))], [((cfAM g s k sz sl of gp lt ea d), 25)]⟩ ?_
    rcases Bool.eq_false_or_eq_true (decide (of ≥ 0)) with b11 | b11
    ·refine zR 58 b11 ?_
     refine zN [1, 65] 1 ⟨pops B44 pAM9 21, [.seq (sub B44 pAM11), .block 0, .seq (sub B44 pAM12)], [(1, .lp 0 0), (65, .bo (decide (of < sz)))], [((cfAM g s k sz sl of gp lt ea d), 25)]⟩ ?_
     rcases Bool.eq_false_or_eq_true (decide (of < sz)) with b12 | b12
     ·refine zR 65 b12 ?_
      refine zN [1, 70] 1 ⟨pops B44 pAM9 26, [.seq (sub B44 pAM11), .block 0, .seq (sub B44 pAM12)], [(1, .lp 0 0), (70, .bo (sl == 0))], [((cfAM g s k sz sl of gp lt ea d), 25)]⟩ ?_
      rcases Bool.eq_false_or_eq_true (sl == 0) with b13 | b13
      ·refine zR 70 b13 ?_
       refine zN [2] 0 ⟨.exit .ret, [], [(2, .bo (gp == 0))], []⟩ ?_
       refine zE (.bo (gp == 0)) ?_
       intro ρ w9 hm' hf
       refine ⟨congrArg (fun b => Ending.returned (Value.bool b)) ?_, hm'.below⟩
       exact bool_of (by
        simp only [decide_eq_true_eq, decide_eq_false_iff_not, beq_iff_eq, beq_eq_false_iff_ne, Bool.false_eq_true, true_iff, false_iff, gt_iff_lt, ge_iff_le] at *
        unfold jobK
        omega)
      refine zR 70 b13 ?_
      refine zN [2] 0 ⟨.exit .ret, [], [(2, .v (.bool false))], []⟩ ?_
      refine zE (.v (.bool false)) ?_
      intro ρ w9 hm' hf
      refine ⟨congrArg (fun b => Ending.returned (Value.bool b)) ?_, hm'.below⟩
      exact bool_of (by
       simp only [decide_eq_true_eq, decide_eq_false_iff_not, beq_iff_eq, beq_eq_false_iff_ne, Bool.false_eq_true, true_iff, false_iff, gt_iff_lt, ge_iff_le] at *
       unfold jobK
       omega)
     refine zR 65 b12 ?_
     refine zN [2] 0 ⟨.exit .ret, [], [(2, .v (.bool false))], []⟩ ?_
     refine zE (.v (.bool false)) ?_
     intro ρ w9 hm' hf
     refine ⟨congrArg (fun b => Ending.returned (Value.bool b)) ?_, hm'.below⟩
     exact bool_of (by
      simp only [decide_eq_true_eq, decide_eq_false_iff_not, beq_iff_eq, beq_eq_false_iff_ne, Bool.false_eq_true, true_iff, false_iff, gt_iff_lt, ge_iff_le] at *
      unfold jobK
      omega)
    refine zR 58 b11 ?_
    refine zN [2] 0 ⟨.exit .ret, [], [(2, .v (.bool false))], []⟩ ?_
    refine zE (.v (.bool false)) ?_
    intro ρ w9 hm' hf
    refine ⟨congrArg (fun b => Ending.returned (Value.bool b)) ?_, hm'.below⟩
    exact bool_of (by
     simp only [decide_eq_true_eq, decide_eq_false_iff_not, beq_iff_eq, beq_eq_false_iff_ne, Bool.false_eq_true, true_iff, false_iff, gt_iff_lt, ge_iff_le] at *
     unfold jobK
     omega)
   refine zR 53 b10 ?_
   refine zN [2] 0 ⟨.exit .ret, [], [(2, .v (.bool false))], []⟩ ?_
   refine zE (.v (.bool false)) ?_
   intro ρ w9 hm' hf
   refine ⟨congrArg (fun b => Ending.returned (Value.bool b)) ?_, hm'.below⟩
   exact bool_of (by
    simp only [decide_eq_true_eq, decide_eq_false_iff_not, beq_iff_eq, beq_eq_false_iff_ne, Bool.false_eq_true, true_iff, false_iff, gt_iff_lt, ge_iff_le] at *
    unfold jobK
    omega)
  refine zR 48 b9 ?_
  refine zN [2] 0 ⟨.exit .ret, [], [(2, .v (.bool false))], []⟩ ?_
  refine zE (.v (.bool false)) ?_
  intro ρ w9 hm' hf
  refine ⟨congrArg (fun b => Ending.returned (Value.bool b)) ?_, hm'.below⟩
  exact bool_of (by
   simp only [decide_eq_true_eq, decide_eq_false_iff_not, beq_iff_eq, beq_eq_false_iff_ne, Bool.false_eq_true, true_iff, false_iff, gt_iff_lt, ge_iff_le] at *
   unfold jobK
   omega)
 refine zR 43 b8 ?_
 refine zN [1, 42, 75] 1 ⟨.code (sub B44 pAM10), [.block 0, .seq (sub B44 pAM12)], [(1, .lp 0 0), (42, .io .i64 k), (75, .bo (k == 2))], [((cfAM g s k sz sl of gp lt ea d), 25)]⟩ ?_
 rcases Bool.eq_false_or_eq_true (k == 2) with b14 | b14
 ·refine zR 75 b14 ?_
  refine zN [1, 80] 1 ⟨pops B44 pAM4 4, [.seq (sub B44 pAM11), .block 0, .seq (sub B44 pAM12)], [(1, .lp 0 0), (80, .bo (decide (sz ≥ 1)))], [((cfAM g s k sz sl of gp lt ea d), 25)]⟩ ?_
  rcases Bool.eq_false_or_eq_true (decide (sz ≥ 1)) with b15 | b15
  ·refine zR 80 b15 ?_
   refine zN [1, 85] 1 ⟨pops B44 pAM4 9, [.seq (sub B44 pAM11), .block 0, .seq (sub B44 pAM12)], [(1, .lp 0 0), (85, .bo (decide (sz ≤ 1099511627776)))], [((cfAM g s k sz sl of gp lt ea d), 25)]⟩ ?_
   rcases Bool.eq_false_or_eq_true (decide (sz ≤ 1099511627776)) with b16 | b16
   ·refine zR 85 b16 ?_
    refine zN [1, 90] 1 ⟨pops B44 pAM4 14, [.seq (sub B44 pAM11), .block 0, .seq (sub B44 pAM12)], [(1, .lp 0 0), (90, .bo (decide (sl ≥ 1)))], [((cfAM g s k sz sl of gp lt ea d), 25)]⟩ ?_
    rcases Bool.eq_false_or_eq_true (decide (sl ≥ 1)) with b17 | b17
    ·refine zR 90 b17 ?_
     refine zN [1, 97] 1 ⟨pops B44 pAM4 21, [.seq (sub B44 pAM11), .block 0, .seq (sub B44 pAM12)], [(1, .lp 0 0), (97, .bo (decide (sl ≤ sz)))], [((cfAM g s k sz sl of gp lt ea d), 25)]⟩ ?_
     rcases Bool.eq_false_or_eq_true (decide (sl ≤ sz)) with b18 | b18
     ·refine zR 97 b18 ?_
      refine zN [1, 97, 103, 105] 1 ⟨pops B44 pAM4 29, [.seq (sub B44 pAM11), .block 0, .seq (sub B44 pAM12)], [(1, .lp 0 0), (97, .v (.bool true)), (103, .io .i64 (IntKind.i64.wrap (IntKind.i64.wrap (sz + sl) - 1))), (105, .io .i64 sl)], [((cfAM g s k sz sl of gp lt ea d), 25)]⟩ ?_
      have hsl : sl ≠ 0 := by
       simp only [decide_eq_true_eq, ge_iff_le] at *
       omega
      refine At.bix2 .quo .i64 (IntKind.i64.wrap (IntKind.i64.wrap (sz + sl) - 1)) sl (IntKind.i64.wrap ((IntKind.i64.wrap (IntKind.i64.wrap (sz + sl) - 1)).tdiv sl)) (by kernel_rfl) (by simp [binInt2, hsl]) noF_stable ?_
      refine zN [1, 109] 1 ⟨pops B44 pAM4 33, [.seq (sub B44 pAM11), .block 0, .seq (sub B44 pAM12)], [(1, .lp 0 0), (109, .bo (decide (IntKind.i64.wrap ((IntKind.i64.wrap (IntKind.i64.wrap (sz + sl) - 1)).tdiv sl) ≤ 64)))], [((cfAM g s k sz sl of gp lt ea d), 25)]⟩ ?_
      rcases Bool.eq_false_or_eq_true (decide (IntKind.i64.wrap ((IntKind.i64.wrap (IntKind.i64.wrap (sz + sl) - 1)).tdiv sl) ≤ 64)) with b0 | b0
      ·refine zR 109 b0 ?_
       refine zN [1, 114] 1 ⟨pops B44 pAM4 38, [.seq (sub B44 pAM11), .block 0, .seq (sub B44 pAM12)], [(1, .lp 0 0), (114, .bo (decide (of ≥ 0)))], [((cfAM g s k sz sl of gp lt ea d), 25)]⟩ ?_
       rcases Bool.eq_false_or_eq_true (decide (of ≥ 0)) with b1 | b1
       ·refine zR 114 b1 ?_
        refine zN [1, 121] 1 ⟨pops B44 pAM4 45, [.seq (sub B44 pAM11), .block 0, .seq (sub B44 pAM12)], [(1, .lp 0 0), (121, .bo (decide (of < sl)))], [((cfAM g s k sz sl of gp lt ea d), 25)]⟩ ?_
        rcases Bool.eq_false_or_eq_true (decide (of < sl)) with b2 | b2
        ·refine zR 121 b2 ?_
         refine zN [2] 0 ⟨.exit .ret, [], [(2, .bo (gp == 0))], []⟩ ?_
         refine zE (.bo (gp == 0)) ?_
         intro ρ w9 hm' hf
         refine ⟨congrArg (fun b => Ending.returned (Value.bool b)) ?_, hm'.below⟩
         exact bool_of (by
          simp only [decide_eq_true_eq, decide_eq_false_iff_not, beq_iff_eq, beq_eq_false_iff_ne, Bool.false_eq_true, true_iff, false_iff, gt_iff_lt, ge_iff_le] at *
          unfold jobK
          omega)
        refine zR 121 b2 ?_
        refine zN [2] 0 ⟨.exit .ret, [], [(2, .v (.bool false))], []⟩ ?_
        refine zE (.v (.bool false)) ?_
        intro ρ w9 hm' hf
        refine ⟨congrArg (fun b => Ending.returned (Value.bool b)) ?_, hm'.below⟩
        exact bool_of (by
         simp only [decide_eq_true_eq, decide_eq_false_iff_not, beq_iff_eq, beq_eq_false_iff_ne, Bool.false_eq_true, true_iff, false_iff, gt_iff_lt, ge_iff_le] at *
         unfold jobK
         omega)
       refine zR 114 b1 ?_
       refine zN [2] 0 ⟨.exit .ret, [], [(2, .v (.bool false))], []⟩ ?_
       refine zE (.v (.bool false)) ?_
       intro ρ w9 hm' hf
       refine ⟨congrArg (fun b => Ending.returned (Value.bool b)) ?_, hm'.below⟩
       exact bool_of (by
        simp only [decide_eq_true_eq, decide_eq_false_iff_not, beq_iff_eq, beq_eq_false_iff_ne, Bool.false_eq_true, true_iff, false_iff, gt_iff_lt, ge_iff_le] at *
        unfold jobK
        omega)
      refine zR 109 b0 ?_
      refine zN [2] 0 ⟨.exit .ret, [], [(2, .v (.bool false))], []⟩ ?_
      refine zE (.v (.bool false)) ?_
      intro ρ w9 hm' hf
      refine ⟨congrArg (fun b => Ending.returned (Value.bool b)) ?_, hm'.below⟩
      exact bool_of (by
       simp only [decide_eq_true_eq, decide_eq_false_iff_not, beq_iff_eq, beq_eq_false_iff_ne, Bool.false_eq_true, true_iff, false_iff, gt_iff_lt, ge_iff_le] at *
       unfold jobK
       omega)
     refine zR 97 b18 ?_
     refine zN [2] 0 ⟨.exit .ret, [], [(2, .v (.bool false))], []⟩ ?_
     refine zE (.v (.bool false)) ?_
     intro ρ w9 hm' hf
     refine ⟨congrArg (fun b => Ending.returned (Value.bool b)) ?_, hm'.below⟩
     exact bool_of (by
      simp only [decide_eq_true_eq, decide_eq_false_iff_not, beq_iff_eq, beq_eq_false_iff_ne, Bool.false_eq_true, true_iff, false_iff, gt_iff_lt, ge_iff_le] at *
      unfold jobK
      omega)
    refine zR 90 b17 ?_
    refine zN [2] 0 ⟨.exit .ret, [], [(2, .v (.bool false))], []⟩ ?_
    refine zE (.v (.bool false)) ?_
    intro ρ w9 hm' hf
    refine ⟨congrArg (fun b => Ending.returned (Value.bool b)) ?_, hm'.below⟩
    exact bool_of (by
     simp only [decide_eq_true_eq, decide_eq_false_iff_not, beq_iff_eq, beq_eq_false_iff_ne, Bool.false_eq_true, true_iff, false_iff, gt_iff_lt, ge_iff_le] at *
     unfold jobK
     omega)
   refine zR 85 b16 ?_
   refine zN [2] 0 ⟨.exit .ret, [], [(2, .v (.bool false))], []⟩ ?_
   refine zE (.v (.bool false)) ?_
   intro ρ w9 hm' hf
   refine ⟨congrArg (fun b => Ending.returned (Value.bool b)) ?_, hm'.below⟩
   exact bool_of (by
    simp only [decide_eq_true_eq, decide_eq_false_iff_not, beq_iff_eq, beq_eq_false_iff_ne, Bool.false_eq_true, true_iff, false_iff, gt_iff_lt, ge_iff_le] at *
    unfold jobK
    omega)
  refine zR 80 b15 ?_
  refine zN [2] 0 ⟨.exit .ret, [], [(2, .v (.bool false))], []⟩ ?_
  refine zE (.v (.bool false)) ?_
  intro ρ w9 hm' hf
  refine ⟨congrArg (fun b => Ending.returned (Value.bool b)) ?_, hm'.below⟩
  exact bool_of (by
   simp only [decide_eq_true_eq, decide_eq_false_iff_not, beq_iff_eq, beq_eq_false_iff_ne, Bool.false_eq_true, true_iff, false_iff, gt_iff_lt, ge_iff_le] at *
   unfold jobK
   omega)
 refine zR 75 b14 ?_
 refine zN [1, 126] 1 ⟨.code (sub B44 pAM5), [.block 0, .seq (sub B44 pAM12)], [(1, .lp 0 0), (126, .bo (k == 3))], [((cfAM g s k sz sl of gp lt ea d), 25)]⟩ ?_
 rcases Bool.eq_false_or_eq_true (k == 3) with b19 | b19
 ·refine zR 126 b19 ?_
  refine zN [1, 131] 1 ⟨pops B44 pAM1 4, [.seq (sub B44 pAM11), .block 0, .seq (sub B44 pAM12)], [(1, .lp 0 0), (131, .bo (decide (gp ≥ 1)))], [((cfAM g s k sz sl of gp lt ea d), 25)]⟩ ?_
  rcases Bool.eq_false_or_eq_true (decide (gp ≥ 1)) with b20 | b20
  ·refine zR 131 b20 ?_
   refine zN [1, 136] 1 ⟨pops B44 pAM1 9, [.seq (sub B44 pAM11), .block 0, .seq (sub B44 pAM12)], [(1, .lp 0 0), (136, .bo (decide (gp ≤ 1099511627776)))], [((cfAM g s k sz sl of gp lt ea d), 25)]⟩ ?_
   rcases Bool.eq_false_or_eq_true (decide (gp ≤ 1099511627776)) with b21 | b21
   ·refine zR 136 b21 ?_
    refine zN [1, 141] 1 ⟨pops B44 pAM1 14, [.seq (sub B44 pAM11), .block 0, .seq (sub B44 pAM12)], [(1, .lp 0 0), (141, .bo (sz == 0))], [((cfAM g s k sz sl of gp lt ea d), 25)]⟩ ?_
    rcases Bool.eq_false_or_eq_true (sz == 0) with b22 | b22
    ·refine zR 141 b22 ?_
     refine zN [1, 146] 1 ⟨pops B44 pAM1 19, [.seq (sub B44 pAM11), .block 0, .seq (sub B44 pAM12)], [(1, .lp 0 0), (146, .bo (sl == 0))], [((cfAM g s k sz sl of gp lt ea d), 25)]⟩ ?_
     rcases Bool.eq_false_or_eq_true (sl == 0) with b23 | b23
     ·refine zR 146 b23 ?_
      refine zN [2] 0 ⟨.exit .ret, [], [(2, .bo (of == 0))], []⟩ ?_
      refine zE (.bo (of == 0)) ?_
      intro ρ w9 hm' hf
      refine ⟨congrArg (fun b => Ending.returned (Value.bool b)) ?_, hm'.below⟩
      exact bool_of (by
       simp only [decide_eq_true_eq, decide_eq_false_iff_not, beq_iff_eq, beq_eq_false_iff_ne, Bool.false_eq_true, true_iff, false_iff, gt_iff_lt, ge_iff_le] at *
       unfold jobK
       omega)
     refine zR 146 b23 ?_
     refine zN [2] 0 ⟨.exit .ret, [], [(2, .v (.bool false))], []⟩ ?_
     refine zE (.v (.bool false)) ?_
     intro ρ w9 hm' hf
     refine ⟨congrArg (fun b => Ending.returned (Value.bool b)) ?_, hm'.below⟩
     exact bool_of (by
      simp only [decide_eq_true_eq, decide_eq_false_iff_not, beq_iff_eq, beq_eq_false_iff_ne, Bool.false_eq_true, true_iff, false_iff, gt_iff_lt, ge_iff_le] at *
      unfold jobK
      omega)
    refine zR 141 b22 ?_
    refine zN [2] 0 ⟨.exit .ret, [], [(2, .v (.bool false))], []⟩ ?_
    refine zE (.v (.bool false)) ?_
    intro ρ w9 hm' hf
    refine ⟨congrArg (fun b => Ending.returned (Value.bool b)) ?_, hm'.below⟩
    exact bool_of (by
     simp only [decide_eq_true_eq, decide_eq_false_iff_not, beq_iff_eq, beq_eq_false_iff_ne, Bool.false_eq_true, true_iff, false_iff, gt_iff_lt, ge_iff_le] at *
     unfold jobK
     omega)
   refine zR 136 b21 ?_
   refine zN [2] 0 ⟨.exit .ret, [], [(2, .v (.bool false))], []⟩ ?_
   refine zE (.v (.bool false)) ?_
   intro ρ w9 hm' hf
   refine ⟨congrArg (fun b => Ending.returned (Value.bool b)) ?_, hm'.below⟩
   exact bool_of (by
    simp only [decide_eq_true_eq, decide_eq_false_iff_not, beq_iff_eq, beq_eq_false_iff_ne, Bool.false_eq_true, true_iff, false_iff, gt_iff_lt, ge_iff_le] at *
    unfold jobK
    omega)
  refine zR 131 b20 ?_
  refine zN [2] 0 ⟨.exit .ret, [], [(2, .v (.bool false))], []⟩ ?_
  refine zE (.v (.bool false)) ?_
  intro ρ w9 hm' hf
  refine ⟨congrArg (fun b => Ending.returned (Value.bool b)) ?_, hm'.below⟩
  exact bool_of (by
   simp only [decide_eq_true_eq, decide_eq_false_iff_not, beq_iff_eq, beq_eq_false_iff_ne, Bool.false_eq_true, true_iff, false_iff, gt_iff_lt, ge_iff_le] at *
   unfold jobK
   omega)
 refine zR 126 b19 ?_
 refine zN [2] 0 ⟨.exit .ret, [], [(2, .v (.bool false))], []⟩ ?_
 refine zE (.v (.bool false)) ?_
 intro ρ w9 hm' hf
 refine ⟨congrArg (fun b => Ending.returned (Value.bool b)) ?_, hm'.below⟩
 exact bool_of (by
  simp only [decide_eq_true_eq, decide_eq_false_iff_not, beq_iff_eq, beq_eq_false_iff_ne, Bool.false_eq_true, true_iff, false_iff, gt_iff_lt, ge_iff_le] at *
  unfold jobK
  omega)
theorem job_iff (g s k sz sl of gp lt ea : Int) : jobK g s k sz sl of gp lt ea ↔ wrongR g s k sz sl of gp lt ea = 0 := by
 have key : wrongR g s k sz sl of gp lt ea = 0 ↔ fldB g s k sz sl of gp lt ea 1 = true ∧ fldB g s k sz sl of gp lt ea 2 = true ∧ fldB g s k sz sl of gp lt ea 3 = true ∧ fldB g s k sz sl of gp lt ea 4 = true ∧ fldB g s k sz sl of gp lt ea 5 = true ∧ fldB g s k sz sl of gp lt ea 6 = true ∧ fldB g s k sz sl of gp lt ea 7 = true ∧ fldB g s k sz sl of gp lt ea 8 = true ∧ fldB g s k sz sl of gp lt ea 9 = true := by
  unfold wrongR
  cases fldB g s k sz sl of gp lt ea 1 <;> cases fldB g s k sz sl of gp lt ea 2 <;> cases fldB g s k sz sl of gp lt ea 3 <;> cases fldB g s k sz sl of gp lt ea 4 <;> cases fldB g s k sz sl of gp lt ea 5 <;> cases fldB g s k sz sl of gp lt ea 6 <;> cases fldB g s k sz sl of gp lt ea 7 <;> cases fldB g s k sz sl of gp lt ea 8 <;> cases fldB g s k sz sl of gp lt ea 9 <;> decide
 rw [key]
 have hdiv : 1 ≤ sz → sz ≤ 1099511627776 → 1 ≤ sl → sl ≤ sz → (IntKind.i64.wrap ((IntKind.i64.wrap (IntKind.i64.wrap (sz + sl) - 1)).tdiv sl) ≤ 64 ↔ sz ≤ IntKind.i64.wrap (64 * sl)) := by
  intro h1 h2 h3 h4
  have e1 : IntKind.i64.wrap (sz + sl) = sz + sl := wrap63 (by omega) (by omega)
  have e2 : IntKind.i64.wrap (sz + sl - 1) = sz + sl - 1 := wrap63 (by omega) (by omega)
  have e3 : (sz + sl - 1).tdiv sl = (sz + sl - 1) / sl := Int.tdiv_eq_ediv_of_nonneg (by omega)
  have e4 : 0 ≤ (sz + sl - 1) / sl := Int.ediv_nonneg (by omega) (by omega)
  have e5 : (sz + sl - 1) / sl ≤ sz + sl - 1 := Int.ediv_le_self _ (by omega)
  have e6 : IntKind.i64.wrap ((sz + sl - 1) / sl) = (sz + sl - 1) / sl := wrap63 e4 (by omega)
  have e7 : IntKind.i64.wrap (64 * sl) = 64 * sl := wrap63 (by omega) (by omega)
  rw [e1, e2, e3, e6, e7]
  have e8 : (sz + sl - 1) / sl < 65 ↔ sz + sl - 1 < 65 * sl := Int.ediv_lt_iff_lt_mul (by omega)
  constructor
  ·intro h
   have := e8.1 (by omega)
   omega
  intro h
  have := e8.2 (by omega)
  omega
 have hz : 1 ≤ sz → sz ≤ 1099511627776 → IntKind.i64.wrap (sz - 1) = sz - 1 := fun h1 h2 => wrap_id ⟨by omega, by omega⟩
 have hs : 1 ≤ sl → sl ≤ 1099511627776 → IntKind.i64.wrap (sl - 1) = sl - 1 := fun h1 h2 => wrap_id ⟨by omega, by omega⟩
 unfold jobK
 generalize IntKind.i64.wrap ((IntKind.i64.wrap (IntKind.i64.wrap (sz + sl) - 1)).tdiv sl) = q at *
 by_cases h1 : k = 1
 ·subst h1
  simp only [fldB, Bool.and_eq_true, Bool.or_eq_true, decide_eq_true_eq, beq_iff_eq, bne_iff_ne, ne_eq, Bool.false_eq_true, true_or, or_true, or_false, false_or, true_and, show ((1 : Int) == 3) = false from rfl, show ((1 : Int) != 2) = true from rfl, show ((1 : Int) == 1) = true from rfl, show ((1 : Int) != 3) = true from rfl, show ((1 : Int) == 2) = false from rfl, cond_true, cond_false]
  constructor
  ·intro h
   rcases h with ⟨a1, a2, a3, a4, h | h | h⟩
   ·have := hz (by omega) (by omega)
    omega
   ·omega
   omega
  intro h
  have := hz (by omega) (by omega)
  refine ⟨?_, ?_, ?_, ?_, .inl ?_⟩ <;> omega
 by_cases h2 : k = 2
 ·subst h2
  simp only [fldB, Bool.and_eq_true, Bool.or_eq_true, decide_eq_true_eq, beq_iff_eq, bne_iff_ne, ne_eq, Bool.false_eq_true, true_or, or_true, or_false, false_or, true_and, show ((2 : Int) == 3) = false from rfl, show ((2 : Int) != 2) = false from rfl, show ((2 : Int) == 1) = false from rfl, show ((2 : Int) != 3) = true from rfl, show ((2 : Int) == 2) = true from rfl, cond_true, cond_false]
  constructor
  ·intro h
   rcases h with ⟨a1, a2, a3, a4, h | h | h⟩
   ·omega
   ·have := hz (by omega) (by omega)
    have := hs (by omega) (by omega)
    have := hdiv (by omega) (by omega) (by omega) (by omega)
    omega
   omega
  intro h
  have := hz (by omega) (by omega)
  have := hs (by omega) (by omega)
  have := hdiv (by omega) (by omega) (by omega) (by omega)
  refine ⟨?_, ?_, ?_, ?_, .inr (.inl ?_)⟩ <;> omega
 by_cases h3 : k = 3
 ·subst h3
  simp only [fldB, Bool.and_eq_true, Bool.or_eq_true, decide_eq_true_eq, beq_iff_eq, bne_iff_ne, ne_eq, Bool.false_eq_true, true_or, or_true, or_false, false_or, true_and, show ((3 : Int) == 3) = true from rfl, show ((3 : Int) != 2) = true from rfl, show ((3 : Int) == 1) = false from rfl, show ((3 : Int) != 3) = false from rfl, show ((3 : Int) == 2) = false from rfl, cond_true, cond_false]
  constructor
  ·intro h
   rcases h with ⟨a1, a2, a3, a4, h | h | h⟩
   ·omega
   ·omega
   omega
  intro h
  refine ⟨?_, ?_, ?_, ?_, .inr (.inr ?_)⟩ <;> omega
 simp only [fldB, Bool.and_eq_true, Bool.or_eq_true, beq_iff_eq]
 constructor
 ·rintro ⟨_, _, _, _, h | h | h⟩ <;> omega
 rintro ⟨_, _, (h | h) | h, _⟩ <;> omega
end Go.Proofs.YthfpekhpeiebjaaGreatDoor
end
section
namespace Go.Proofs.YthfpekhpeiebjaaGreatDoor
open Go.RowKit Go.Sx
theorem beq_of {a b : Bool} (h : a = true ↔ b = true) : a = b := by
 cases a <;> cases b <;> simp_all
theorem time_iff {t : Int} : timeB t = true ↔ (-4611686018427387904 ≤ t ∧ t ≤ 4611686018427387904) := by simp [timeB]
theorem time_no {t : Int} : timeB t = false ↔ ¬ (-4611686018427387904 ≤ t ∧ t ≤ 4611686018427387904) := by rw [← time_iff, Bool.not_eq_true]
def itP (s ik : Int) (key : List UInt8) (t v src : Int) : Prop := (ik = 1 ∧ key.length ≤ 256 ∧ (-4611686018427387904 ≤ t ∧ t ≤ 4611686018427387904) ∧ src = 0) ∨ (ik = 2 ∧ 0 ≤ src ∧ src < s ∧ (-4611686018427387904 ≤ t ∧ t ≤ 4611686018427387904) ∧ key.length = 0 ∧ v = 0) ∨ (ik = 3 ∧ key.length = 0 ∧ t = 0 ∧ v = 0 ∧ src = 0)
theorem itB_iff0 {s ik : Int} {key : List UInt8} {t v src : Int} : itB s ik key t v src = true ↔ itP s ik key t v src := by
 unfold itB itP
 split
 ·simp only [Bool.and_eq_true, beq_iff_eq, decide_eq_true_eq, time_iff, ← List.length_eq_zero_iff]
  omega
 split
 ·simp only [Bool.and_eq_true, beq_iff_eq, decide_eq_true_eq, time_iff, ← List.length_eq_zero_iff]
  omega
 split
 ·simp only [Bool.and_eq_true, beq_iff_eq, decide_eq_true_eq, time_iff, ← List.length_eq_zero_iff]
  omega
 simp only [Bool.false_eq_true, false_iff]
 omega
theorem itB_iff {s ik : Int} {key : List UInt8} {t v src : Int} : itB s ik key t v src = true ↔ ((ik = 1 ∧ key.length ≤ 256 ∧ (-4611686018427387904 ≤ t ∧ t ≤ 4611686018427387904) ∧ src = 0) ∨ (ik = 2 ∧ 0 ≤ src ∧ src < s ∧ (-4611686018427387904 ≤ t ∧ t ≤ 4611686018427387904) ∧ key.length = 0 ∧ v = 0) ∨ (ik = 3 ∧ key.length = 0 ∧ t = 0 ∧ v = 0 ∧ src = 0)) := itB_iff0
theorem itB_no {s ik : Int} {key : List UInt8} {t v src : Int} : itB s ik key t v src = false ↔ ¬ ((ik = 1 ∧ key.length ≤ 256 ∧ (-4611686018427387904 ≤ t ∧ t ≤ 4611686018427387904) ∧ src = 0) ∨ (ik = 2 ∧ 0 ≤ src ∧ src < s ∧ (-4611686018427387904 ≤ t ∧ t ≤ 4611686018427387904) ∧ key.length = 0 ∧ v = 0) ∨ (ik = 3 ∧ key.length = 0 ∧ t = 0 ∧ v = 0 ∧ src = 0)) := by rw [← itB_iff, Bool.not_eq_true]
theorem mayB_iff {c : Cf} {kd ik : Int} {key : List UInt8} {t v src wk wks bit mask : Int} : mayB c ⟨kd, ik, key, t, v, src, wk, wks, bit, mask⟩ = true ↔ ((kd = 1 ∧ wk = 0 ∧ wks = 0 ∧ bit = 0 ∧ mask = 0 ∧ itB c.s ik key t v src = true) ∨ (kd ≠ 1 ∧ ik = 0 ∧ key.length = 0 ∧ t = 0 ∧ v = 0 ∧ src = 0 ∧
  ((kd = 2 ∧ wks = 0 ∧ bit = 0 ∧ mask = 0 ∧ 0 ≤ wk) ∨ (kd = 3 ∧ wk = 0 ∧ wks = 0 ∧ bit = 0 ∧ mask = 0) ∨ (kd = 4 ∧ wk = 0 ∧ bit = 0 ∧ mask = 0 ∧ 1 ≤ wks ∧ wks ≤ c.g) ∨ (kd = 5 ∧ wk = 0 ∧ wks = 0 ∧ 0 ≤ bit)))) := by
 by_cases h1 : kd = 1
 ·rw [mayB_1 h1]
  simp only [Bool.and_eq_true, beq_iff_eq]
  simp [h1]
 rw [mayB_n h1]
 simp only [Bool.and_eq_true, beq_iff_eq, decide_eq_true_eq, ← List.length_eq_zero_iff]
 split
 ·simp only [Bool.and_eq_true, beq_iff_eq, decide_eq_true_eq]
  omega
 split
 ·simp only [Bool.and_eq_true, beq_iff_eq, decide_eq_true_eq]
  omega
 split
 ·simp only [Bool.and_eq_true, beq_iff_eq, decide_eq_true_eq]
  omega
 split
 ·simp only [Bool.and_eq_true, beq_iff_eq, decide_eq_true_eq]
  omega
 simp only [Bool.false_eq_true, and_false, false_iff]
 omega
noncomputable def B90 : Code := (Tryz.f90.body).getD .skip
set_option maxHeartbeats 8000000 in
set_option maxRecDepth 100000 in
theorem rtime_any (t : Int) (w : World) :
  Calls Tryz.prog 90 #[.int .i64 t] w fun e w' => e = .returned (.bool (timeB t)) ∧ Below w.heap.size w w' := by
 refine enter (fn := Tryz.f90) (c := B90) [.io .i64 t] Tryz.func90 rfl rfl ?_
 refine zN [0, 5] 0 ⟨pops B90 [1, 0] 3, [.seq (sub B90 [1, 1])], [(0, .io .i64 t), (5, .bo (decide (t ≥ -4611686018427387904)))], []⟩ ?_
 rcases Bool.eq_false_or_eq_true (decide (t ≥ -4611686018427387904)) with b0 | b0
 ·refine zR 5 b0 ?_
  refine zN [2] 0 ⟨.exit .ret, [], [(2, .bo (decide (t ≤ 4611686018427387904)))], []⟩ ?_
  refine zE (.bo (decide (t ≤ 4611686018427387904))) ?_
  intro ρ w9 hm' hf
  refine ⟨congrArg (fun b => Ending.returned (Value.bool b)) ?_, hm'.below⟩
  exact beq_of (by
   rw [time_iff]
   simp only [BEq.rfl, Bool.true_and, Bool.and_true, Bool.and_eq_true, Bool.and_eq_false_iff, beq_iff_eq, beq_eq_false_iff_ne, decide_eq_true_eq, decide_eq_false_iff_not, key_nil, ← List.length_eq_zero_iff, Bool.false_eq_true, true_iff, false_iff, ge_iff_le, time_iff, time_no, mkB_size] at *
   omega)
 refine zR 5 b0 ?_
 refine zN [2] 0 ⟨.exit .ret, [], [(2, .v (.bool false))], []⟩ ?_
 refine zE (.v (.bool false)) ?_
 intro ρ w9 hm' hf
 refine ⟨congrArg (fun b => Ending.returned (Value.bool b)) ?_, hm'.below⟩
 exact beq_of (by
  rw [time_iff]
  simp only [BEq.rfl, Bool.true_and, Bool.and_true, Bool.and_eq_true, Bool.and_eq_false_iff, beq_iff_eq, beq_eq_false_iff_ne, decide_eq_true_eq, decide_eq_false_iff_not, key_nil, ← List.length_eq_zero_iff, Bool.false_eq_true, true_iff, false_iff, ge_iff_le, time_iff, time_no, mkB_size] at *
  omega)
noncomputable def B73 : Code := (Tryz.f73.body).getD .skip
set_option maxHeartbeats 8000000 in
set_option maxRecDepth 100000 in
theorem ritem_any (g s k sz sl of gp lt ea : Int) (d : Bool) (ik : Int) (key : List UInt8) (t v src : Int) (w : World) :
  Calls Tryz.prog 73 #[.agg #[.int .i64 g, .int .i64 s, .int .i64 k, .int .i64 sz, .int .i64 sl, .int .i64 of, .int .i64 gp, .int .i64 lt, .int .i64 ea, .bool d], .agg #[.int .i64 ik, .string (mkB key), .int .i64 t, .int .i64 v, .int .i64 src]] w fun e w' => e = .returned (.bool (itB s ik key t v src)) ∧ Below w.heap.size w w' := by
 refine enter (fn := Tryz.f73) (c := B73) [.agg (cfAM g s k sz sl of gp lt ea d), .agg [.io .i64 ik, .so (mkB key), .io .i64 t, .io .i64 v, .io .i64 src]] Tryz.func73 rfl rfl ?_
 refine zN [2, 3, 5, 10, 11] 3 ⟨.code (sub B73 [1, 1, 0, 1, 4, 1]), [.block 0, .seq (sub B73 pAM12)], [(2, .lp 0 0), (3, .lp 1 0), (5, .lp 2 0), (10, .io .i64 ik), (11, .bo (ik == 1))], [((cfAM g s k sz sl of gp lt ea d), 25), ([.io .i64 ik, .so (mkB key), .io .i64 t, .io .i64 v, .io .i64 src], 38), ([.io .i64 ik, .v (.string (ByteArray.mk #[])), .v (.int .i64 0), .v (.int .i64 0), .v (.int .i64 0)], 38)]⟩ ?_
 rcases Bool.eq_false_or_eq_true (ik == 1) with b0 | b0
 ·refine zR 11 b0 ?_
  refine zN [3, 5] 3 ⟨.any (opsOf (sub B73 pAM9)) 12 [], [.seq (sub B73 [1, 1, 0, 1, 4, 1, 2, 1]), .block 0, .seq (sub B73 pAM12)], [(3, .lp 1 0), (5, .lp 2 0)], [((cfAM g s k sz sl of gp lt ea d), 25), ([.io .i64 ik, .so (mkB key), .io .i64 t, .io .i64 v, .io .i64 src], 38), ([.io .i64 ik, .v (.string (ByteArray.mk #[])), .v (.int .i64 0), .v (.int .i64 0), .v (.int .i64 0)], 38)]⟩ ?_
  refine At.anyOrder noF_stable (j := 0) (fun _ _ _ _ _ => trivial) rfl 20 15 [3, 5] 3 [(3, .lp 1 0), (5, .lp 2 0)] [((cfAM g s k sz sl of gp lt ea d), 25), ([.io .i64 ik, .so (mkB key), .io .i64 t, .io .i64 v, .io .i64 src], 38), ([.io .i64 ik, .so (mkB key), .io .i64 t, .io .i64 v, .v (.int .i64 0)], 38)] (by kernel_rfl) (by kernel_rfl) ?_
  refine zN [3, 25] 2 ⟨pops B73 pAM7 4, [.seq (sub B73 pAM8), .block 0, .seq (sub B73 pAM12)], [(3, .lp 1 0), (25, .bo (ik == ik && ((mkB key).toList == (mkB key).toList && (t == t && (v == v && (src == 0 && true))))))], [((cfAM g s k sz sl of gp lt ea d), 25), ([.io .i64 ik, .so (mkB key), .io .i64 t, .io .i64 v, .io .i64 src], 38)]⟩ ?_
  rcases Bool.eq_false_or_eq_true (ik == ik && ((mkB key).toList == (mkB key).toList && (t == t && (v == v && (src == 0 && true))))) with b0 | b0
  ·refine zR 25 b0 ?_
   refine zN [3, 31] 2 ⟨pops B73 pAM7 10, [.seq (sub B73 pAM8), .block 0, .seq (sub B73 pAM12)], [(3, .lp 1 0), (31, .bo (decide ((↑(mkB key).size : Int) ≤ 256)))], [((cfAM g s k sz sl of gp lt ea d), 25), ([.io .i64 ik, .so (mkB key), .io .i64 t, .io .i64 v, .io .i64 src], 38)]⟩ ?_
   rcases Bool.eq_false_or_eq_true (decide ((↑(mkB key).size : Int) ≤ 256)) with b1 | b1
   ·refine zR 31 b1 ?_
    refine zN [31, 33] 0 ⟨pops B73 pAM7 12, [.seq (sub B73 pAM8), .block 0, .seq (sub B73 pAM12)], [(31, .v (.bool true)), (33, .io .i64 t)], []⟩ ?_
    refine zC noF_stable 90 [.io .i64 t] (.bo (timeB t)) (fun _ _ w1 _ _ => rtime_any t w1) ?_
    refine zN [4] 0 ⟨.exit .ret, [], [(4, .bo (timeB t))], []⟩ ?_
    refine zE (.bo (timeB t)) ?_
    intro ρ w9 hm' hf
    refine ⟨congrArg (fun b => Ending.returned (Value.bool b)) ?_, hm'.below⟩
    exact beq_of (by
     rw [itB_iff]
     simp only [BEq.rfl, Bool.true_and, Bool.and_true, Bool.and_eq_true, Bool.and_eq_false_iff, beq_iff_eq, beq_eq_false_iff_ne, decide_eq_true_eq, decide_eq_false_iff_not, key_nil, ← List.length_eq_zero_iff, Bool.false_eq_true, true_iff, false_iff, ge_iff_le, time_iff, time_no, mkB_size] at *
     omega)
   refine zR 31 b1 ?_
   refine zN [4] 0 ⟨.exit .ret, [], [(4, .v (.bool false))], []⟩ ?_
   refine zE (.v (.bool false)) ?_
   intro ρ w9 hm' hf
   refine ⟨congrArg (fun b => Ending.returned (Value.bool b)) ?_, hm'.below⟩
   exact beq_of (by
    rw [itB_iff]
    simp only [BEq.rfl, Bool.true_and, Bool.and_true, Bool.and_eq_true, Bool.and_eq_false_iff, beq_iff_eq, beq_eq_false_iff_ne, decide_eq_true_eq, decide_eq_false_iff_not, key_nil, ← List.length_eq_zero_iff, Bool.false_eq_true, true_iff, false_iff, ge_iff_le, time_iff, time_no, mkB_size] at *
    omega)
  refine zR 25 b0 ?_
  refine zN [4] 0 ⟨.exit .ret, [], [(4, .v (.bool false))], []⟩ ?_
  refine zE (.v (.bool false)) ?_
  intro ρ w9 hm' hf
  refine ⟨congrArg (fun b => Ending.returned (Value.bool b)) ?_, hm'.below⟩
  exact beq_of (by
   rw [itB_iff]
   simp only [BEq.rfl, Bool.true_and, Bool.and_true, Bool.and_eq_true, Bool.and_eq_false_iff, beq_iff_eq, beq_eq_false_iff_ne, decide_eq_true_eq, decide_eq_false_iff_not, key_nil, ← List.length_eq_zero_iff, Bool.false_eq_true, true_iff, false_iff, ge_iff_le, time_iff, time_no, mkB_size] at *
   omega)
 refine zR 11 b0 ?_
 refine zN [2, 3, 5, 10, 36] 3 ⟨.code (sub B73 pAM10), [.block 0, .seq (sub B73 pAM12)], [(2, .lp 0 0), (3, .lp 1 0), (5, .lp 2 0), (10, .io .i64 ik), (36, .bo (ik == 2))], [((cfAM g s k sz sl of gp lt ea d), 25), ([.io .i64 ik, .so (mkB key), .io .i64 t, .io .i64 v, .io .i64 src], 38), ([.io .i64 ik, .v (.string (ByteArray.mk #[])), .v (.int .i64 0), .v (.int .i64 0), .v (.int .i64 0)], 38)]⟩ ?_
 rcases Bool.eq_false_or_eq_true (ik == 2) with b1 | b1
 ·refine zR 36 b1 ?_
  refine zN [2, 3, 5] 3 ⟨.any (opsOf (sub B73 pAM4)) 8 [], [.seq (sub B73 [1, 1, 0, 1, 4, 1, 3, 1, 2, 1]), .block 0, .seq (sub B73 pAM12)], [(2, .lp 0 0), (3, .lp 1 0), (5, .lp 2 0)], [((cfAM g s k sz sl of gp lt ea d), 25), ([.io .i64 ik, .so (mkB key), .io .i64 t, .io .i64 v, .io .i64 src], 38), ([.io .i64 ik, .v (.string (ByteArray.mk #[])), .v (.int .i64 0), .v (.int .i64 0), .v (.int .i64 0)], 38)]⟩ ?_
  refine At.anyOrder noF_stable (j := 0) (fun _ _ _ _ _ => trivial) rfl 20 3 [2, 3, 5] 3 [(2, .lp 0 0), (3, .lp 1 0), (5, .lp 2 0)] [((cfAM g s k sz sl of gp lt ea d), 25), ([.io .i64 ik, .so (mkB key), .io .i64 t, .io .i64 v, .io .i64 src], 38), ([.io .i64 ik, .v (.string (ByteArray.mk #[])), .io .i64 t, .v (.int .i64 0), .io .i64 src], 38)] (by kernel_rfl) (by kernel_rfl) ?_
  refine zN [2, 3, 47] 2 ⟨pops B73 pAM2 4, [.seq (sub B73 pAM8), .block 0, .seq (sub B73 pAM12)], [(2, .lp 0 0), (3, .lp 1 0), (47, .bo (ik == ik && ((mkB key).toList == (ByteArray.mk #[]).toList && (t == t && (v == 0 && (src == src && true))))))], [((cfAM g s k sz sl of gp lt ea d), 25), ([.io .i64 ik, .so (mkB key), .io .i64 t, .io .i64 v, .io .i64 src], 38)]⟩ ?_
  rcases Bool.eq_false_or_eq_true (ik == ik && ((mkB key).toList == (ByteArray.mk #[]).toList && (t == t && (v == 0 && (src == src && true))))) with b0 | b0
  ·refine zR 47 b0 ?_
   refine zN [2, 3, 52] 2 ⟨pops B73 pAM2 9, [.seq (sub B73 pAM8), .block 0, .seq (sub B73 pAM12)], [(2, .lp 0 0), (3, .lp 1 0), (52, .bo (decide (src ≥ 0)))], [((cfAM g s k sz sl of gp lt ea d), 25), ([.io .i64 ik, .so (mkB key), .io .i64 t, .io .i64 v, .io .i64 src], 38)]⟩ ?_
   rcases Bool.eq_false_or_eq_true (decide (src ≥ 0)) with b1 | b1
   ·refine zR 52 b1 ?_
    refine zN [3, 59] 2 ⟨pops B73 pAM2 16, [.seq (sub B73 pAM8), .block 0, .seq (sub B73 pAM12)], [(3, .lp 1 0), (59, .bo (decide (src < s)))], [((cfAM g s k sz sl of gp lt ea d), 25), ([.io .i64 ik, .so (mkB key), .io .i64 t, .io .i64 v, .io .i64 src], 38)]⟩ ?_
    rcases Bool.eq_false_or_eq_true (decide (src < s)) with b2 | b2
    ·refine zR 59 b2 ?_
     refine zN [59, 61] 0 ⟨pops B73 pAM2 18, [.seq (sub B73 pAM8), .block 0, .seq (sub B73 pAM12)], [(59, .v (.bool true)), (61, .io .i64 t)], []⟩ ?_
     refine zC noF_stable 90 [.io .i64 t] (.bo (timeB t)) (fun _ _ w1 _ _ => rtime_any t w1) ?_
     refine zN [4] 0 ⟨.exit .ret, [], [(4, .bo (timeB t))], []⟩ ?_
     refine zE (.bo (timeB t)) ?_
     intro ρ w9 hm' hf
     refine ⟨congrArg (fun b => Ending.returned (Value.bool b)) ?_, hm'.below⟩
     exact beq_of (by
      rw [itB_iff]
      simp only [BEq.rfl, Bool.true_and, Bool.and_true, Bool.and_eq_true, Bool.and_eq_false_iff, beq_iff_eq, beq_eq_false_iff_ne, decide_eq_true_eq, decide_eq_false_iff_not, key_nil, ← List.length_eq_zero_iff, Bool.false_eq_true, true_iff, false_iff, ge_iff_le, time_iff, time_no, mkB_size] at *
      omega)
    refine zR 59 b2 ?_
    refine zN [4] 0 ⟨.exit .ret, [], [(4, .v (.bool false))], []⟩ ?_
    refine zE (.v (.bool false)) ?_
    intro ρ w9 hm' hf
    refine ⟨congrArg (fun b => Ending.returned (Value.bool b)) ?_, hm'.below⟩
    exact beq_of (by
     rw [itB_iff]
     simp only [BEq.rfl, Bool.true_and, Bool.and_true, Bool.and_eq_true, Bool.and_eq_false_iff, beq_iff_eq, beq_eq_false_iff_ne, decide_eq_true_eq, decide_eq_false_iff_not, key_nil, ← List.length_eq_zero_iff, Bool.false_eq_true, true_iff, false_iff, ge_iff_le, time_iff, time_no, mkB_size] at *
     omega)
   refine zR 52 b1 ?_
   refine zN [4] 0 ⟨.exit .ret, [], [(4, .v (.bool false))], []⟩ ?_
   refine zE (.v (.bool false)) ?_
   intro ρ w9 hm' hf
   refine ⟨congrArg (fun b => Ending.returned (Value.bool b)) ?_, hm'.below⟩
   exact beq_of (by
    rw [itB_iff]
    simp only [BEq.rfl, Bool.true_and, Bool.and_true, Bool.and_eq_true, Bool.and_eq_false_iff, beq_iff_eq, beq_eq_false_iff_ne, decide_eq_true_eq, decide_eq_false_iff_not, key_nil, ← List.length_eq_zero_iff, Bool.false_eq_true, true_iff, false_iff, ge_iff_le, time_iff, time_no, mkB_size] at *
    omega)
  refine zR 47 b0 ?_
  refine zN [4] 0 ⟨.exit .ret, [], [(4, .v (.bool false))], []⟩ ?_
  refine zE (.v (.bool false)) ?_
  intro ρ w9 hm' hf
  refine ⟨congrArg (fun b => Ending.returned (Value.bool b)) ?_, hm'.below⟩
  exact beq_of (by
   rw [itB_iff]
   simp only [BEq.rfl, Bool.true_and, Bool.and_true, Bool.and_eq_true, Bool.and_eq_false_iff, beq_iff_eq, beq_eq_false_iff_ne, decide_eq_true_eq, decide_eq_false_iff_not, key_nil, ← List.length_eq_zero_iff, Bool.false_eq_true, true_iff, false_iff, ge_iff_le, time_iff, time_no, mkB_size] at *
   omega)
 refine zR 36 b1 ?_
 refine zN [3, 5, 64] 3 ⟨.code (sub B73 pAM5), [.block 0, .seq (sub B73 pAM12)], [(3, .lp 1 0), (5, .lp 2 0), (64, .bo (ik == 3))], [((cfAM g s k sz sl of gp lt ea d), 25), ([.io .i64 ik, .so (mkB key), .io .i64 t, .io .i64 v, .io .i64 src], 38), ([.io .i64 ik, .v (.string (ByteArray.mk #[])), .v (.int .i64 0), .v (.int .i64 0), .v (.int .i64 0)], 38)]⟩ ?_
 rcases Bool.eq_false_or_eq_true (ik == 3) with b2 | b2
 ·refine zR 64 b2 ?_
  refine zN [4] 0 ⟨.exit .ret, [], [(4, .bo (ik == ik && ((mkB key).toList == (ByteArray.mk #[]).toList && (t == 0 && (v == 0 && (src == 0 && true))))))], []⟩ ?_
  refine zE (.bo (ik == ik && ((mkB key).toList == (ByteArray.mk #[]).toList && (t == 0 && (v == 0 && (src == 0 && true)))))) ?_
  intro ρ w9 hm' hf
  refine ⟨congrArg (fun b => Ending.returned (Value.bool b)) ?_, hm'.below⟩
  exact beq_of (by
   rw [itB_iff]
   simp only [BEq.rfl, Bool.true_and, Bool.and_true, Bool.and_eq_true, Bool.and_eq_false_iff, beq_iff_eq, beq_eq_false_iff_ne, decide_eq_true_eq, decide_eq_false_iff_not, key_nil, ← List.length_eq_zero_iff, Bool.false_eq_true, true_iff, false_iff, ge_iff_le, time_iff, time_no, mkB_size] at *
   omega)
 refine zR 64 b2 ?_
 refine zN [4] 0 ⟨.exit .ret, [], [(4, .v (.bool false))], []⟩ ?_
 refine zE (.v (.bool false)) ?_
 intro ρ w9 hm' hf
 refine ⟨congrArg (fun b => Ending.returned (Value.bool b)) ?_, hm'.below⟩
 exact beq_of (by
  rw [itB_iff]
  simp only [BEq.rfl, Bool.true_and, Bool.and_true, Bool.and_eq_true, Bool.and_eq_false_iff, beq_iff_eq, beq_eq_false_iff_ne, decide_eq_true_eq, decide_eq_false_iff_not, key_nil, ← List.length_eq_zero_iff, Bool.false_eq_true, true_iff, false_iff, ge_iff_le, time_iff, time_no, mkB_size] at *
  omega)
noncomputable def B45 : Code := (Tryz.f45.body).getD .skip
set_option maxHeartbeats 8000000 in
set_option maxRecDepth 100000 in
theorem rstep_any (g s k sz sl of gp lt ea : Int) (d : Bool) (kd ik : Int) (key : List UInt8) (t v src wk wks bit mask : Int) (w : World) :
  Calls Tryz.prog 45 #[.agg #[.int .i64 g, .int .i64 s, .int .i64 k, .int .i64 sz, .int .i64 sl, .int .i64 of, .int .i64 gp, .int .i64 lt, .int .i64 ea, .bool d], .agg #[.int .i64 kd, .int .i64 ik, .string (mkB key), .int .i64 t, .int .i64 v, .int .i64 src, .int .i64 wk, .int .i64 wks, .int .i64 bit, .int .u32 mask]] w fun e w' => e = .returned (.bool (mayB ⟨g, s, k, sz, sl, of, gp, lt, ea, d⟩ ⟨kd, ik, key, t, v, src, wk, wks, bit, mask⟩)) ∧ Below w.heap.size w w' := by
 refine enter (fn := Tryz.f45) (c := B45) [.agg (cfAM g s k sz sl of gp lt ea d), .agg [.io .i64 kd, .io .i64 ik, .so (mkB key), .io .i64 t, .io .i64 v, .io .i64 src, .io .i64 wk, .io .i64 wks, .io .i64 bit, .io .u32 mask]] Tryz.func45 rfl rfl ?_
 refine zN [2, 3, 5, 11, 12] 3 ⟨.code (sub B45 [1, 1, 0, 1, 4, 1]), [.block 0, .seq (sub B45 pAM12)], [(2, .lp 0 0), (3, .lp 1 0), (5, .lp 2 0), (11, .io .i64 kd), (12, .bo (kd == 1))], [((cfAM g s k sz sl of gp lt ea d), 25), ([.io .i64 kd, .io .i64 ik, .so (mkB key), .io .i64 t, .io .i64 v, .io .i64 src, .io .i64 wk, .io .i64 wks, .io .i64 bit, .io IntKind.u32 mask], 41), ([.io .i64 kd, .v (.int .i64 0), .v (.string (ByteArray.mk #[])), .v (.int .i64 0), .v (.int .i64 0), .v (.int .i64 0), .v (.int .i64 0), .v (.int .i64 0), .v (.int .i64 0), .v (.int IntKind.u32 0)], 41)]⟩ ?_
 rcases Bool.eq_false_or_eq_true (kd == 1) with b0 | b0
 ·refine zR 12 b0 ?_
  refine zN [3, 5, 17, 19] 3 ⟨pops B45 pAM7 3, [.seq (sub B45 pAM8), .block 0, .seq (sub B45 pAM12)], [(3, .lp 1 0), (5, .lp 2 0), (17, .agg (cfAM g s k sz sl of gp lt ea d)), (19, .agg [.io .i64 ik, .so (mkB key), .io .i64 t, .io .i64 v, .io .i64 src])], [((cfAM g s k sz sl of gp lt ea d), 25), ([.io .i64 kd, .io .i64 ik, .so (mkB key), .io .i64 t, .io .i64 v, .io .i64 src, .io .i64 wk, .io .i64 wks, .io .i64 bit, .io IntKind.u32 mask], 41), ([.io .i64 kd, .io .i64 ik, .so (mkB key), .io .i64 t, .io .i64 v, .io .i64 src, .v (.int .i64 0), .v (.int .i64 0), .v (.int .i64 0), .v (.int IntKind.u32 0)], 41)]⟩ ?_
  refine zC noF_stable 73 [.agg (cfAM g s k sz sl of gp lt ea d), .agg [.io .i64 ik, .so (mkB key), .io .i64 t, .io .i64 v, .io .i64 src]] (.bo (itB s ik key t v src)) (fun _ _ w1 _ _ => ritem_any g s k sz sl of gp lt ea d ik key t v src w1) ?_
  refine zN [6, 24] 0 ⟨pops B45 [1, 1, 0, 1, 4, 1, 2, 1, 1, 0] 4, [.seq (sub B45 pAM6), .block 0, .seq (sub B45 pAM12)], [(6, .bo (itB s ik key t v src)), (24, .bo (kd == kd && (ik == ik && ((mkB key).toList == (mkB key).toList && (t == t && (v == v && (src == src && true)))) && (wk == 0 && (wks == 0 && (bit == 0 && (mask == 0 && true)))))))], []⟩ ?_
  rcases Bool.eq_false_or_eq_true (kd == kd && (ik == ik && ((mkB key).toList == (mkB key).toList && (t == t && (v == v && (src == src && true)))) && (wk == 0 && (wks == 0 && (bit == 0 && (mask == 0 && true)))))) with b0 | b0
  ·refine zR 24 b0 ?_
   refine zN [4] 0 ⟨.exit .ret, [], [(4, .bo (itB s ik key t v src))], []⟩ ?_
   refine zE (.bo (itB s ik key t v src)) ?_
   intro ρ w9 hm' hf
   refine ⟨congrArg (fun b => Ending.returned (Value.bool b)) ?_, hm'.below⟩
   exact beq_of (by
    rw [mayB_iff]
    simp only [BEq.rfl, Bool.true_and, Bool.and_true, Bool.and_eq_true, Bool.and_eq_false_iff, beq_iff_eq, beq_eq_false_iff_ne, decide_eq_true_eq, decide_eq_false_iff_not, key_nil, ← List.length_eq_zero_iff, Bool.false_eq_true, true_iff, false_iff, ge_iff_le, time_iff, time_no, mkB_size] at *
    try simp only [itB_iff, itB_no] at *
    omega)
  refine zR 24 b0 ?_
  refine zN [4] 0 ⟨.exit .ret, [], [(4, .v (.bool false))], []⟩ ?_
  refine zE (.v (.bool false)) ?_
  intro ρ w9 hm' hf
  refine ⟨congrArg (fun b => Ending.returned (Value.bool b)) ?_, hm'.below⟩
  exact beq_of (by
   rw [mayB_iff]
   simp only [BEq.rfl, Bool.true_and, Bool.and_true, Bool.and_eq_true, Bool.and_eq_false_iff, beq_iff_eq, beq_eq_false_iff_ne, decide_eq_true_eq, decide_eq_false_iff_not, key_nil, ← List.length_eq_zero_iff, Bool.false_eq_true, true_iff, false_iff, ge_iff_le, time_iff, time_no, mkB_size] at *
   try simp only [itB_iff, itB_no] at *
   omega)
 refine zR 12 b0 ?_
 refine zN [2, 3, 5, 11, 27] 3 ⟨.code (sub B45 pAM10), [.block 0, .seq (sub B45 pAM12)], [(2, .lp 0 0), (3, .lp 1 0), (5, .lp 2 0), (11, .io .i64 kd), (27, .bo (kd == 2))], [((cfAM g s k sz sl of gp lt ea d), 25), ([.io .i64 kd, .io .i64 ik, .so (mkB key), .io .i64 t, .io .i64 v, .io .i64 src, .io .i64 wk, .io .i64 wks, .io .i64 bit, .io IntKind.u32 mask], 41), ([.io .i64 kd, .v (.int .i64 0), .v (.string (ByteArray.mk #[])), .v (.int .i64 0), .v (.int .i64 0), .v (.int .i64 0), .v (.int .i64 0), .v (.int .i64 0), .v (.int .i64 0), .v (.int IntKind.u32 0)], 41)]⟩ ?_
 rcases Bool.eq_false_or_eq_true (kd == 2) with b1 | b1
 ·refine zR 27 b1 ?_
  refine zN [3, 35] 2 ⟨pops B45 pAM2 4, [.seq (sub B45 pAM6), .block 0, .seq (sub B45 pAM12)], [(3, .lp 1 0), (35, .bo (kd == kd && (ik == 0 && ((mkB key).toList == (ByteArray.mk #[]).toList && (t == 0 && (v == 0 && (src == 0 && true)))) && (wk == wk && (wks == 0 && (bit == 0 && (mask == 0 && true)))))))], [((cfAM g s k sz sl of gp lt ea d), 25), ([.io .i64 kd, .io .i64 ik, .so (mkB key), .io .i64 t, .io .i64 v, .io .i64 src, .io .i64 wk, .io .i64 wks, .io .i64 bit, .io IntKind.u32 mask], 41)]⟩ ?_
  rcases Bool.eq_false_or_eq_true (kd == kd && (ik == 0 && ((mkB key).toList == (ByteArray.mk #[]).toList && (t == 0 && (v == 0 && (src == 0 && true)))) && (wk == wk && (wks == 0 && (bit == 0 && (mask == 0 && true)))))) with b2 | b2
  ·refine zR 35 b2 ?_
   refine zN [4] 0 ⟨.exit .ret, [], [(4, .bo (decide (wk ≥ 0)))], []⟩ ?_
   refine zE (.bo (decide (wk ≥ 0))) ?_
   intro ρ w9 hm' hf
   refine ⟨congrArg (fun b => Ending.returned (Value.bool b)) ?_, hm'.below⟩
   exact beq_of (by
    rw [mayB_iff]
    simp only [BEq.rfl, Bool.true_and, Bool.and_true, Bool.and_eq_true, Bool.and_eq_false_iff, beq_iff_eq, beq_eq_false_iff_ne, decide_eq_true_eq, decide_eq_false_iff_not, key_nil, ← List.length_eq_zero_iff, Bool.false_eq_true, true_iff, false_iff, ge_iff_le, time_iff, time_no, mkB_size] at *
    try simp only [itB_iff, itB_no] at *
    omega)
  refine zR 35 b2 ?_
  refine zN [4] 0 ⟨.exit .ret, [], [(4, .v (.bool false))], []⟩ ?_
  refine zE (.v (.bool false)) ?_
  intro ρ w9 hm' hf
  refine ⟨congrArg (fun b => Ending.returned (Value.bool b)) ?_, hm'.below⟩
  exact beq_of (by
   rw [mayB_iff]
   simp only [BEq.rfl, Bool.true_and, Bool.and_true, Bool.and_eq_true, Bool.and_eq_false_iff, beq_iff_eq, beq_eq_false_iff_ne, decide_eq_true_eq, decide_eq_false_iff_not, key_nil, ← List.length_eq_zero_iff, Bool.false_eq_true, true_iff, false_iff, ge_iff_le, time_iff, time_no, mkB_size] at *
   try simp only [itB_iff, itB_no] at *
   omega)
 refine zR 27 b1 ?_
 refine zN [2, 3, 5, 11, 40] 3 ⟨.code (sub B45 pAM5), [.block 0, .seq (sub B45 pAM12)], [(2, .lp 0 0), (3, .lp 1 0), (5, .lp 2 0), (11, .io .i64 kd), (40, .bo (kd == 3))], [((cfAM g s k sz sl of gp lt ea d), 25), ([.io .i64 kd, .io .i64 ik, .so (mkB key), .io .i64 t, .io .i64 v, .io .i64 src, .io .i64 wk, .io .i64 wks, .io .i64 bit, .io IntKind.u32 mask], 41), ([.io .i64 kd, .v (.int .i64 0), .v (.string (ByteArray.mk #[])), .v (.int .i64 0), .v (.int .i64 0), .v (.int .i64 0), .v (.int .i64 0), .v (.int .i64 0), .v (.int .i64 0), .v (.int IntKind.u32 0)], 41)]⟩ ?_
 rcases Bool.eq_false_or_eq_true (kd == 3) with b3 | b3
 ·refine zR 40 b3 ?_
  refine zN [4] 0 ⟨.exit .ret, [], [(4, .bo (kd == kd && (ik == 0 && ((mkB key).toList == (ByteArray.mk #[]).toList && (t == 0 && (v == 0 && (src == 0 && true)))) && (wk == 0 && (wks == 0 && (bit == 0 && (mask == 0 && true)))))))], []⟩ ?_
  refine zE (.bo (kd == kd && (ik == 0 && ((mkB key).toList == (ByteArray.mk #[]).toList && (t == 0 && (v == 0 && (src == 0 && true)))) && (wk == 0 && (wks == 0 && (bit == 0 && (mask == 0 && true))))))) ?_
  intro ρ w9 hm' hf
  refine ⟨congrArg (fun b => Ending.returned (Value.bool b)) ?_, hm'.below⟩
  exact beq_of (by
   rw [mayB_iff]
   simp only [BEq.rfl, Bool.true_and, Bool.and_true, Bool.and_eq_true, Bool.and_eq_false_iff, beq_iff_eq, beq_eq_false_iff_ne, decide_eq_true_eq, decide_eq_false_iff_not, key_nil, ← List.length_eq_zero_iff, Bool.false_eq_true, true_iff, false_iff, ge_iff_le, time_iff, time_no, mkB_size] at *
   try simp only [itB_iff, itB_no] at *
   omega)
 refine zR 40 b3 ?_
 refine zN [2, 3, 5, 11, 45] 3 ⟨.code (sub B45 [1, 1, 0, 1, 4, 1, 3, 1, 3, 1, 3, 1]), [.block 0, .seq (sub B45 pAM12)], [(2, .lp 0 0), (3, .lp 1 0), (5, .lp 2 0), (11, .io .i64 kd), (45, .bo (kd == 4))], [((cfAM g s k sz sl of gp lt ea d), 25), ([.io .i64 kd, .io .i64 ik, .so (mkB key), .io .i64 t, .io .i64 v, .io .i64 src, .io .i64 wk, .io .i64 wks, .io .i64 bit, .io IntKind.u32 mask], 41), ([.io .i64 kd, .v (.int .i64 0), .v (.string (ByteArray.mk #[])), .v (.int .i64 0), .v (.int .i64 0), .v (.int .i64 0), .v (.int .i64 0), .v (.int .i64 0), .v (.int .i64 0), .v (.int IntKind.u32 0)], 41)]⟩ ?_
 rcases Bool.eq_false_or_eq_true (kd == 4) with b4 | b4
 ·refine zR 45 b4 ?_
  refine zN [2, 3, 53] 2 ⟨pops B45 pAM0 4, [.seq (sub B45 pAM6), .block 0, .seq (sub B45 pAM12)], [(2, .lp 0 0), (3, .lp 1 0), (53, .bo (kd == kd && (ik == 0 && ((mkB key).toList == (ByteArray.mk #[]).toList && (t == 0 && (v == 0 && (src == 0 && true)))) && (wk == 0 && (wks == wks && (bit == 0 && (mask == 0 && true)))))))], [((cfAM g s k sz sl of gp lt ea d), 25), ([.io .i64 kd, .io .i64 ik, .so (mkB key), .io .i64 t, .io .i64 v, .io .i64 src, .io .i64 wk, .io .i64 wks, .io .i64 bit, .io IntKind.u32 mask], 41)]⟩ ?_
  rcases Bool.eq_false_or_eq_true (kd == kd && (ik == 0 && ((mkB key).toList == (ByteArray.mk #[]).toList && (t == 0 && (v == 0 && (src == 0 && true)))) && (wk == 0 && (wks == wks && (bit == 0 && (mask == 0 && true)))))) with b5 | b5
  ·refine zR 53 b5 ?_
   refine zN [2, 3, 58] 2 ⟨pops B45 pAM0 9, [.seq (sub B45 pAM6), .block 0, .seq (sub B45 pAM12)], [(2, .lp 0 0), (3, .lp 1 0), (58, .bo (decide (wks ≥ 1)))], [((cfAM g s k sz sl of gp lt ea d), 25), ([.io .i64 kd, .io .i64 ik, .so (mkB key), .io .i64 t, .io .i64 v, .io .i64 src, .io .i64 wk, .io .i64 wks, .io .i64 bit, .io IntKind.u32 mask], 41)]⟩ ?_
   rcases Bool.eq_false_or_eq_true (decide (wks ≥ 1)) with b6 | b6
   ·refine zR 58 b6 ?_
    refine zN [4] 0 ⟨.exit .ret, [], [(4, .bo (decide (wks ≤ g)))], []⟩ ?_
    refine zE (.bo (decide (wks ≤ g))) ?_
    intro ρ w9 hm' hf
    refine ⟨congrArg (fun b => Ending.returned (Value.bool b)) ?_, hm'.below⟩
    exact beq_of (by
     rw [mayB_iff]
     simp only [BEq.rfl, Bool.true_and, Bool.and_true, Bool.and_eq_true, Bool.and_eq_false_iff, beq_iff_eq, beq_eq_false_iff_ne, decide_eq_true_eq, decide_eq_false_iff_not, key_nil, ← List.length_eq_zero_iff, Bool.false_eq_true, true_iff, false_iff, ge_iff_le, time_iff, time_no, mkB_size] at *
     try simp only [itB_iff, itB_no] at *
     omega)
   refine zR 58 b6 ?_
   refine zN [4] 0 ⟨.exit .ret, [], [(4, .v (.bool false))], []⟩ ?_
   refine zE (.v (.bool false)) ?_
   intro ρ w9 hm' hf
   refine ⟨congrArg (fun b => Ending.returned (Value.bool b)) ?_, hm'.below⟩
   exact beq_of (by
    rw [mayB_iff]
    simp only [BEq.rfl, Bool.true_and, Bool.and_true, Bool.and_eq_true, Bool.and_eq_false_iff, beq_iff_eq, beq_eq_false_iff_ne, decide_eq_true_eq, decide_eq_false_iff_not, key_nil, ← List.length_eq_zero_iff, Bool.false_eq_true, true_iff, false_iff, ge_iff_le, time_iff, time_no, mkB_size] at *
    try simp only [itB_iff, itB_no] at *
    omega)
  refine zR 53 b5 ?_
  refine zN [4] 0 ⟨.exit .ret, [], [(4, .v (.bool false))], []⟩ ?_
  refine zE (.v (.bool false)) ?_
  intro ρ w9 hm' hf
  refine ⟨congrArg (fun b => Ending.returned (Value.bool b)) ?_, hm'.below⟩
  exact beq_of (by
   rw [mayB_iff]
   simp only [BEq.rfl, Bool.true_and, Bool.and_true, Bool.and_eq_true, Bool.and_eq_false_iff, beq_iff_eq, beq_eq_false_iff_ne, decide_eq_true_eq, decide_eq_false_iff_not, key_nil, ← List.length_eq_zero_iff, Bool.false_eq_true, true_iff, false_iff, ge_iff_le, time_iff, time_no, mkB_size] at *
   try simp only [itB_iff, itB_no] at *
   omega)
 refine zR 45 b4 ?_
 refine zN [3, 5, 65] 3 ⟨.code (sub B45 [1, 1, 0, 1, 4, 1, 3, 1, 3, 1, 3, 1, 3, 1]), [.block 0, .seq (sub B45 pAM12)], [(3, .lp 1 0), (5, .lp 2 0), (65, .bo (kd == 5))], [((cfAM g s k sz sl of gp lt ea d), 25), ([.io .i64 kd, .io .i64 ik, .so (mkB key), .io .i64 t, .io .i64 v, .io .i64 src, .io .i64 wk, .io .i64 wks, .io .i64 bit, .io IntKind.u32 mask], 41), ([.io .i64 kd, .v (.int .i64 0), .v (.string (ByteArray.mk #[])), .v (.int .i64 0), .v (.int .i64 0), .v (.int .i64 0), .v (.int .i64 0), .v (.int .i64 0), .v (.int .i64 0), .v (.int IntKind.u32 0)], 41)]⟩ ?_
 rcases Bool.eq_false_or_eq_true (kd == 5) with b7 | b7
 ·refine zR 65 b7 ?_
  refine zN [3, 5] 3 ⟨.any (opsOf (sub B45 [1, 1, 0, 1, 4, 1, 3, 1, 3, 1, 3, 1, 3, 1, 2, 0])) 8 [], [.seq (sub B45 [1, 1, 0, 1, 4, 1, 3, 1, 3, 1, 3, 1, 3, 1, 2, 1]), .block 0, .seq (sub B45 pAM12)], [(3, .lp 1 0), (5, .lp 2 0)], [((cfAM g s k sz sl of gp lt ea d), 25), ([.io .i64 kd, .io .i64 ik, .so (mkB key), .io .i64 t, .io .i64 v, .io .i64 src, .io .i64 wk, .io .i64 wks, .io .i64 bit, .io IntKind.u32 mask], 41), ([.io .i64 kd, .v (.int .i64 0), .v (.string (ByteArray.mk #[])), .v (.int .i64 0), .v (.int .i64 0), .v (.int .i64 0), .v (.int .i64 0), .v (.int .i64 0), .v (.int .i64 0), .v (.int IntKind.u32 0)], 41)]⟩ ?_
  refine At.anyOrder noF_stable (j := 0) (fun _ _ _ _ _ => trivial) rfl 20 3 [3, 5] 3 [(3, .lp 1 0), (5, .lp 2 0)] [((cfAM g s k sz sl of gp lt ea d), 25), ([.io .i64 kd, .io .i64 ik, .so (mkB key), .io .i64 t, .io .i64 v, .io .i64 src, .io .i64 wk, .io .i64 wks, .io .i64 bit, .io .u32 mask], 41), ([.io .i64 kd, .v (.int .i64 0), .v (.string (ByteArray.mk #[])), .v (.int .i64 0), .v (.int .i64 0), .v (.int .i64 0), .v (.int .i64 0), .v (.int .i64 0), .io .i64 bit, .io .u32 mask], 41)] (by kernel_rfl) (by kernel_rfl) ?_
  refine zN [3, 76] 2 ⟨pops B45 [1, 1, 0, 1, 4, 1, 3, 1, 3, 1, 3, 1, 3, 1, 2, 1, 0] 4, [.seq (sub B45 pAM6), .block 0, .seq (sub B45 pAM12)], [(3, .lp 1 0), (76, .bo (kd == kd && (ik == 0 && ((mkB key).toList == (ByteArray.mk #[]).toList && (t == 0 && (v == 0 && (src == 0 && true)))) && (wk == 0 && (wks == 0 && (bit == bit && (mask == mask && true)))))))], [((cfAM g s k sz sl of gp lt ea d), 25), ([.io .i64 kd, .io .i64 ik, .so (mkB key), .io .i64 t, .io .i64 v, .io .i64 src, .io .i64 wk, .io .i64 wks, .io .i64 bit, .io IntKind.u32 mask], 41)]⟩ ?_
  rcases Bool.eq_false_or_eq_true (kd == kd && (ik == 0 && ((mkB key).toList == (ByteArray.mk #[]).toList && (t == 0 && (v == 0 && (src == 0 && true)))) && (wk == 0 && (wks == 0 && (bit == bit && (mask == mask && true)))))) with b0 | b0
  ·refine zR 76 b0 ?_
   refine zN [4] 0 ⟨.exit .ret, [], [(4, .bo (decide (bit ≥ 0)))], []⟩ ?_
   refine zE (.bo (decide (bit ≥ 0))) ?_
   intro ρ w9 hm' hf
   refine ⟨congrArg (fun b => Ending.returned (Value.bool b)) ?_, hm'.below⟩
   exact beq_of (by
    rw [mayB_iff]
    simp only [BEq.rfl, Bool.true_and, Bool.and_true, Bool.and_eq_true, Bool.and_eq_false_iff, beq_iff_eq, beq_eq_false_iff_ne, decide_eq_true_eq, decide_eq_false_iff_not, key_nil, ← List.length_eq_zero_iff, Bool.false_eq_true, true_iff, false_iff, ge_iff_le, time_iff, time_no, mkB_size] at *
    try simp only [itB_iff, itB_no] at *
    omega)
  refine zR 76 b0 ?_
  refine zN [4] 0 ⟨.exit .ret, [], [(4, .v (.bool false))], []⟩ ?_
  refine zE (.v (.bool false)) ?_
  intro ρ w9 hm' hf
  refine ⟨congrArg (fun b => Ending.returned (Value.bool b)) ?_, hm'.below⟩
  exact beq_of (by
   rw [mayB_iff]
   simp only [BEq.rfl, Bool.true_and, Bool.and_true, Bool.and_eq_true, Bool.and_eq_false_iff, beq_iff_eq, beq_eq_false_iff_ne, decide_eq_true_eq, decide_eq_false_iff_not, key_nil, ← List.length_eq_zero_iff, Bool.false_eq_true, true_iff, false_iff, ge_iff_le, time_iff, time_no, mkB_size] at *
   try simp only [itB_iff, itB_no] at *
   omega)
 refine zR 65 b7 ?_
 refine zN [4] 0 ⟨.exit .ret, [], [(4, .v (.bool false))], []⟩ ?_
 refine zE (.v (.bool false)) ?_
 intro ρ w9 hm' hf
 refine ⟨congrArg (fun b => Ending.returned (Value.bool b)) ?_, hm'.below⟩
 exact beq_of (by
  rw [mayB_iff]
  simp only [BEq.rfl, Bool.true_and, Bool.and_true, Bool.and_eq_true, Bool.and_eq_false_iff, beq_iff_eq, beq_eq_false_iff_ne, decide_eq_true_eq, decide_eq_false_iff_not, key_nil, ← List.length_eq_zero_iff, Bool.false_eq_true, true_iff, false_iff, ge_iff_le, time_iff, time_no, mkB_size] at *
  try simp only [itB_iff, itB_no] at *
  omega)
end Go.Proofs.YthfpekhpeiebjaaGreatDoor
end
