/- Joined texts: SC, LN, U, UC, TB, TX, BN, PT. -/
import Derived.Test.YthfpekhpeiebjaaGreatDoorRAL
import Derived.Test.YthfpekhpeiebjaaGreatDoorRAA
import Derived.Lib.SmallJoins
import Derived.WideKeyArgs
import Derived.Deep.Slices
import Derived.SizedLaws
import Derived.Test.YthfpekhpeiebjaaGreatDoorRAG
set_option linter.unusedSimpArgs false
set_option linter.unusedVariables false
namespace Go.Sx
open Go
def cfAM (g s k sz sl of gp lt ea : Int) (d : Bool) : List SV := [.io .i64 g, .io .i64 s, .io .i64 k, .io .i64 sz, .io .i64 sl, .io .i64 of, .io .i64 gp, .io .i64 lt, .io .i64 ea, .bo d]
def cwAM (g s k sz sl of gp lt ea : Int) (d : Bool) (wk : Int) (A : Option Addr) (n c : Nat) : List SV := [.io .i64 g, .io .i64 s, .io .i64 k, .io .i64 sz, .io .i64 sl, .io .i64 of, .io .i64 gp, .io .i64 lt, .io .i64 ea, .bo d, .io .i64 wk, .sl A n c]
def zAM0 : List SV := [.v (.int .i64 0), .v (.int .i64 0), .v (.int .i64 0), .v (.int .i64 0), .v (.int .i64 0), .v (.int .i64 0), .v (.int .i64 0), .v (.int .i64 0), .v (.int .i64 0), .v (.bool false), .v (.int .i64 0), .v (.slice none 0 0)]
def pAM1 : List Nat := [1, 1, 1, 1, 1, 0, 1, 4, 4, 1, 1, 0, 4, 1]
def pAM2 : List Nat := [1, 0, 1, 4, 1, 2, 0, 1, 4, 1, 2, 1]
def pAM3 : List Nat := [1, 1, 1, 1, 1, 0, 1, 4, 4, 1, 1, 1]
def pAM4 : List Nat := [1, 1, 1, 0, 1, 4, 4, 1, 1, 1]
def pAM5 : List Nat := [1, 0, 1, 4, 1, 2, 1]
def pAM6 : List Nat := [1, 1, 1, 1, 1, 1]
def pAM7 : List Nat := [1, 1, 1, 1, 0]
def pAM8 : List Nat := [1, 1, 1, 1, 1]
def pAM9 : List Nat := [1, 1, 1, 1]
end Go.Sx
section
namespace Go.Proofs.YthfpekhpeiebjaaGreatDoor
open Go.RowKit Go.Sx
noncomputable def B13 : Code := (Tryz.f13.body).getD .skip
theorem stW_at : ∀ (xs : List St) (i : Nat) (x : St) (j : Nat), xs[i]? = some x → j < 10 → (stW xs)[i * 10 + j]? = x.w[j]?
 | [], i, x, j, h, _ => by simp at h
 | y :: xs, 0, x, j, h, hj => by
  simp only [List.getElem?_cons_zero, Option.some.injEq] at h
  subst h
  simp only [stW, List.flatMap_cons, Nat.zero_mul, Nat.zero_add]
  rw [List.getElem?_append_left (by rw [St.w_len]; exact hj)]
 | y :: xs, i + 1, x, j, h, hj => by
  have ih := stW_at xs i x j (by simpa using h) hj
  simp only [stW, List.flatMap_cons] at ih ⊢
  rw [List.getElem?_append_right (by rw [St.w_len]; omega), St.w_len, ← ih]
  congr 1
  omega
/-- A slice that came in holds these steps. -/
def SlS (w : World) (A : Option Addr) (n : Nat) (xs : List St) : Prop := n = xs.length ∧ (A = none → xs = []) ∧ ∀ a, A = some a → Src w a (stW xs)
theorem SlS.below {w w' : World} {A : Option Addr} {n : Nat} {xs : List St} (h : SlS w A n xs) (hb : Below w.heap.size w w') : SlS w' A n xs := ⟨h.1, h.2.1, fun a ha j u hj => cell_below (h.2.2 a ha j u hj) hb⟩
theorem SlS.get {w : World} {A : Option Addr} {n : Nat} {xs : List St} (h : SlS w A n xs) {i : Nat} {x : St} (hx : xs[i]? = some x) : ∃ a, A = some a ∧ ∀ (j : Nat) (v : Value), x.w[j]? = some v → w.cell? ((a.add ((i : Int).toNat * 10)).add j) = some v := by
 cases A with
 | none => rw [h.2.1 rfl] at hx; simp at hx
 | some a =>
  refine ⟨a, rfl, fun j v hj => ?_⟩
  have hj10 : j < 10 := by have := (List.getElem?_eq_some_iff.1 hj).1; rw [St.w_len] at this; exact this
  have := h.2.2 a rfl (i * 10 + j) v (by rw [stW_at xs i x j hx hj10]; exact hj)
  rw [Int.toNat_natCast, Addr.add_add]
  exact this
/-- The first step that may not be. -/
def badI (c : Cf) : List St → Nat → Option Nat
 | [], _ => none
 | x :: l, i => if mayB c x then badI c l (i + 1) else some i
def chkE : Option Nat → Int × Int
 | some i => (2 + (i : Int), 2)
 | none => (0, 0)
/-- What Check answers. -/
def chkP (c : Cf) (wk : Int) (xs : List St) : Int × Int := if ¬ c.wr = 0 then (0, 2) else if wk < 1 ∨ c.g < wk then (1, 2) else chkE (badI c xs 0)
theorem chkP_1 {c : Cf} {wk : Int} {xs : List St} (h : c.wr = 0) (h2 : wk < 1 ∨ c.g < wk) : chkP c wk xs = (1, 2) := by
 unfold chkP
 rw [if_neg (Classical.not_not.2 h), if_pos h2]
theorem chkP_2 {c : Cf} {wk : Int} {xs : List St} (h : c.wr = 0) (h2 : ¬ (wk < 1 ∨ c.g < wk)) : chkP c wk xs = chkE (badI c xs 0) := by
 unfold chkP
 rw [if_neg (Classical.not_not.2 h), if_neg h2]
def frC (A : Option Addr) (n cap : Nat) (i : Nat) : Fr := [(1, .lp 0 0), (22, .sl A n cap), (23, .io .i64 (n : Int)), (24, .io .i64 (i : Int))]
def locC (c : Cf) (wk : Int) (A : Option Addr) (n cap : Nat) (_ : Nat) : Sx.Loc := match c with
 | ⟨g, s, k, sz, sl, of, gp, lt, ea, d⟩ => [((cwAM g s k sz sl of gp lt ea d wk A n cap), 28)]
def GC (c : Cf) (xs : List St) (R : Int × Int) (i : Nat) (_ : List Nat) (_ : World) : Prop := True ∧ (chkE (badI c (xs.drop i) i) = R ∧ i ≤ xs.length)
set_option maxHeartbeats 8000000 in
set_option maxRecDepth 100000 in
theorem check_go (g s k sz sl of gp lt ea : Int) (d : Bool) (wk : Int) (A : Option Addr) (n cap : Nat) (xs : List St) (w : World) (hS : SlS w A n xs) (hn : n ≤ 1048576) :
  Calls Tryz.prog 13 #[.agg #[.int .i64 g, .int .i64 s, .int .i64 k, .int .i64 sz, .int .i64 sl, .int .i64 of, .int .i64 gp, .int .i64 lt, .int .i64 ea, .bool d, .int .i64 wk, .slice A n cap]] w fun e w' => e = .returned (.tuple #[.int .i64 (chkP ⟨g, s, k, sz, sl, of, gp, lt, ea, d⟩ wk xs).1, .int .i64 (chkP ⟨g, s, k, sz, sl, of, gp, lt, ea, d⟩ wk xs).2]) ∧ Below w.heap.size w w' := by
 have hl := hS.1
 refine enter (fn := Tryz.f13) (c := B13) [.agg (cwAM g s k sz sl of gp lt ea d wk A n cap)] Tryz.func13 rfl rfl ?_
 refine At.to (noF_stable) (noF_fewer) 0 300 [1, 7] 1 ⟨pops B13 [1, 0, 0] 2, [.seq (sub B13 [1, 0, 1]), .seq (sub B13 [1, 1])], [(1, .lp 0 0), (7, .agg (cfAM g s k sz sl of gp lt ea d))], [((cwAM g s k sz sl of gp lt ea d wk A n cap), 28)]⟩ (by kernel_rfl) (by kernel_rfl) ?_
 refine At.call noF_stable 41 [.agg (cfAM g s k sz sl of gp lt ea d)] (.io .i64 (jobE (wrongF g s k sz sl of gp lt ea))) (by kernel_rfl) (by kernel_rfl) (by kernel_rfl) (fun _ _ w1 _ _ => check_any g s k sz sl of gp lt ea d w1) ?_
 refine At.to (noF_stable) (noF_fewer) 0 300 [1, 9] 1 ⟨.code (sub B13 [1, 0, 1]), [.seq (sub B13 [1, 1])], [(1, .lp 0 0), (9, .bo (jobE (wrongF g s k sz sl of gp lt ea) != 0))], [((cwAM g s k sz sl of gp lt ea d wk A n cap), 28)]⟩ (by kernel_rfl) (by kernel_rfl) ?_
 rcases Bool.eq_false_or_eq_true (jobE (wrongF g s k sz sl of gp lt ea) != 0) with b0 | b0
 ·refine At.res 9 (jobE (wrongF g s k sz sl of gp lt ea) != 0) true (by kernel_rfl) b0 ?_
  refine At.to (noF_stable) (noF_fewer) 0 300 [2, 3] 0 ⟨.exit .ret, [], [(2, .v (.int .i64 0)), (3, .v (.int .i64 2))], []⟩ (by kernel_rfl) (by kernel_rfl) ?_
  refine At.ret (by kernel_rfl) (.tup [.v (.int .i64 0), .v (.int .i64 2)]) (by kernel_rfl) ?_
  have hwr : ¬ wrongR g s k sz sl of gp lt ea = 0 := by rw [jobE_zero, wrong_eq] at b0; simpa using b0
  have hR2 : chkP ⟨g, s, k, sz, sl, of, gp, lt, ea, d⟩ wk xs = (0, 2) := if_pos hwr
  intro ρ w9 hm' hf
  exact ⟨by rw [hR2]; rfl, hm'.below⟩
 ·refine At.res 9 (jobE (wrongF g s k sz sl of gp lt ea) != 0) false (by kernel_rfl) b0 ?_
  refine At.to (noF_stable) (noF_fewer) 0 300 [1, 13] 1 ⟨pops B13 [1, 1, 0, 0] 4, [.seq (sub B13 [1, 1, 0, 1]), .seq (sub B13 [1, 1, 1])], [(1, .lp 0 0), (13, .bo (decide (wk < 1)))], [((cwAM g s k sz sl of gp lt ea d wk A n cap), 28)]⟩ (by kernel_rfl) (by kernel_rfl) ?_
  rcases Bool.eq_false_or_eq_true (decide (wk < 1)) with b1 | b1
  ·refine At.res 13 (decide (wk < 1)) true (by kernel_rfl) b1 ?_
   refine At.to (noF_stable) (noF_fewer) 0 300 [2, 3] 0 ⟨.exit .ret, [], [(2, .v (.int .i64 1)), (3, .v (.int .i64 2))], []⟩ (by kernel_rfl) (by kernel_rfl) ?_
   refine At.ret (by kernel_rfl) (.tup [.v (.int .i64 1), .v (.int .i64 2)]) (by kernel_rfl) ?_
   have hwr : wrongR g s k sz sl of gp lt ea = 0 := by rw [jobE_zero, wrong_eq] at b0; simpa using b0
   have hR2 : chkP ⟨g, s, k, sz, sl, of, gp, lt, ea, d⟩ wk xs = (1, 2) := chkP_1 hwr (Or.inl (of_decide_eq_true b1))
   intro ρ w9 hm' hf
   exact ⟨by rw [hR2]; rfl, hm'.below⟩
  ·refine At.res 13 (decide (wk < 1)) false (by kernel_rfl) b1 ?_
   refine At.to (noF_stable) (noF_fewer) 0 300 [1, 20] 1 ⟨.code (sub B13 [1, 1, 0, 1]), [.seq (sub B13 [1, 1, 1])], [(1, .lp 0 0), (20, .bo (decide (wk > g)))], [((cwAM g s k sz sl of gp lt ea d wk A n cap), 28)]⟩ (by kernel_rfl) (by kernel_rfl) ?_
   rcases Bool.eq_false_or_eq_true (decide (wk > g)) with b2 | b2
   ·refine At.res 20 (decide (wk > g)) true (by kernel_rfl) b2 ?_
    refine At.to (noF_stable) (noF_fewer) 0 300 [2, 3] 0 ⟨.exit .ret, [], [(2, .v (.int .i64 1)), (3, .v (.int .i64 2))], []⟩ (by kernel_rfl) (by kernel_rfl) ?_
    refine At.ret (by kernel_rfl) (.tup [.v (.int .i64 1), .v (.int .i64 2)]) (by kernel_rfl) ?_
    have hwr : wrongR g s k sz sl of gp lt ea = 0 := by rw [jobE_zero, wrong_eq] at b0; simpa using b0
    have hR2 : chkP ⟨g, s, k, sz, sl, of, gp, lt, ea, d⟩ wk xs = (1, 2) := chkP_1 hwr (Or.inr (of_decide_eq_true b2))
    intro ρ w9 hm' hf
    exact ⟨by rw [hR2]; rfl, hm'.below⟩
   ·refine At.res 20 (decide (wk > g)) false (by kernel_rfl) b2 ?_
    refine At.to (noF_stable) (noF_fewer) 0 300 [1, 22, 23, 24] 1 ⟨.code (sub B13 [1, 1, 1, 0, 1, 4]), [.block 0, .seq (sub B13 pAM9)], [(1, .lp 0 0), (22, .sl A n cap), (23, .io .i64 (↑n : Int)), (24, .v (.int .i64 0))], [((cwAM g s k sz sl of gp lt ea d wk A n cap), 28)]⟩ (by kernel_rfl) (by kernel_rfl) ?_
    have hwr : wrongR g s k sz sl of gp lt ea = 0 := by rw [jobE_zero, wrong_eq] at b0; simpa using b0
    have hlo := of_decide_eq_false b1
    have hhi := of_decide_eq_false b2
    clear b0 b1 b2
    have hR2 : chkP ⟨g, s, k, sz, sl, of, gp, lt, ea, d⟩ wk xs = chkE (badI ⟨g, s, k, sz, sl, of, gp, lt, ea, d⟩ xs 0) := chkP_2 hwr (by show ¬ (wk < 1 ∨ g < wk); omega)
    rw [hR2]
    generalize hR : chkE (badI ⟨g, s, k, sz, sl, of, gp, lt, ea, d⟩ xs 0) = R
    refine At.canonT [24] _ rfl ?_
    refine At.slFr _ rfl ?_
    refine At.loop (σ := Nat) (sub B13 [1, 1, 1, 0, 1, 4, 4]) (frC A n cap) (locC ⟨g, s, k, sz, sl, of, gp, lt, ea, d⟩ wk A n cap) (GC ⟨g, s, k, sz, sl, of, gp, lt, ea, d⟩ xs R) (fun i => n - i) 0 (by kernel_rfl) (by unfold subFr; kernel_rfl) (by kernel_rfl) (fun _ _ _ _ h => ⟨h, hR, Nat.zero_le _⟩) ?_
    clear hR hR2
    intro i
    refine At.pure fun ⟨h1, h2⟩ => ?_
    refine At.to (noF_stable) (noF_fewer) 0 300 [1, 22, 23, 24, 25] 1 ⟨.code (sub B13 [1, 1, 1, 0, 1, 4, 4, 1, 0]), [.seq (sub B13 [1, 1, 1, 0, 1, 4, 4, 1, 1]), .next (Sx.Next w.heap.size w Tryz.f13.ntmps (frC A n cap) (locC (Cf.mk g s k sz sl of gp lt ea d) wk A n cap) (GC (Cf.mk g s k sz sl of gp lt ea d) xs R) (fun i => n - i) i), .block 0, .seq (sub B13 pAM9)], [(1, .lp 0 0), (22, .sl A n cap), (23, .io .i64 (↑n : Int)), (24, .io .i64 (↑i : Int)), (25, .bo (decide ((↑i : Int) < (↑n : Int))))], [((cwAM g s k sz sl of gp lt ea d wk A n cap), 28)]⟩ (by kernel_rfl) (by kernel_rfl) ?_
    rcases Bool.eq_false_or_eq_true (decide ((↑i : Int) < (↑n : Int))) with b0 | b0
    ·refine At.res 25 (decide ((↑i : Int) < (↑n : Int))) true (by kernel_rfl) b0 ?_
     refine At.to (noF_stable) (noF_fewer) 0 300 [1, 22, 23, 24, 26] 1 ⟨pops B13 [1, 1, 1, 0, 1, 4, 4, 1, 1, 0, 4, 0] 1, [.seq (sub B13 [1, 1, 1, 0, 1, 4, 4, 1, 1, 0, 4, 1]), .block 1, .seq (sub B13 pAM4), .next (Sx.Next w.heap.size w Tryz.f13.ntmps (frC A n cap) (locC (Cf.mk g s k sz sl of gp lt ea d) wk A n cap) (GC (Cf.mk g s k sz sl of gp lt ea d) xs R) (fun i => n - i) i), .block 0, .seq (sub B13 pAM9)], [(1, .lp 0 0), (22, .sl A n cap), (23, .io .i64 (↑n : Int)), (24, .io .i64 (↑i : Int)), (26, .io .i64 (↑i : Int))], [((cwAM g s k sz sl of gp lt ea d wk A n cap), 28)]⟩ (by kernel_rfl) (by kernel_rfl) ?_
     have hi : i < n := by have := of_decide_eq_true b0; omega
     clear b0
     obtain ⟨x, hx⟩ : ∃ x, xs[i]? = some x := ⟨_, List.getElem?_eq_getElem (by rw [← hS.1]; exact hi)⟩
     obtain ⟨a, rfl, hcell⟩ := hS.get hx
     rw [drop_at hx] at h1
     simp only [badI] at h1
     obtain ⟨kd, ik, key, ti, v, src, wk2, wks, bit, mask⟩ := x
     refine At.idx a n 10 (i : Int) (by kernel_rfl) (by omega) (by omega) noF_stable ?_
     refine At.lda (a.add ((i : Int).toNat * 10)) 10 [.io .i64 kd, .io .i64 ik, .so (mkB key), .io .i64 ti, .io .i64 v, .io .i64 src, .io .i64 wk2, .io .i64 wks, .io .i64 bit, .io .u32 mask] (by kernel_rfl) rfl noF_stable (fun ρ w1 hm' hf j v2 hj => cell_below (hcell j v2 hj) hm'.below) ?_
     refine At.to (noF_stable) (noF_fewer) 0 300 [1, 4, 22, 23, 24, 30, 31] 1 ⟨pops B13 [1, 1, 1, 0, 1, 4, 4, 1, 1, 0, 4, 1, 0] 3, [.seq (sub B13 [1, 1, 1, 0, 1, 4, 4, 1, 1, 0, 4, 1, 1]), .block 1, .seq (sub B13 pAM4), .next (Sx.Next w.heap.size w Tryz.f13.ntmps (frC (some a) n cap) (locC (Cf.mk g s k sz sl of gp lt ea d) wk (some a) n cap) (GC (Cf.mk g s k sz sl of gp lt ea d) xs R) (fun i => n - i) i), .block 0, .seq (sub B13 pAM9)], [(1, .lp 0 0), (4, .io .i64 (↑i : Int)), (22, .sl (some a) n cap), (23, .io .i64 (↑n : Int)), (24, .io .i64 (↑i : Int)), (30, .agg (cfAM g s k sz sl of gp lt ea d)), (31, .agg [.io .i64 kd, .io .i64 ik, .so (mkB key), .io .i64 ti, .io .i64 v, .io .i64 src, .io .i64 wk2, .io .i64 wks, .io .i64 bit, .io IntKind.u32 mask])], [((cwAM g s k sz sl of gp lt ea d wk (some a) n cap), 28)]⟩ (by kernel_rfl) (by kernel_rfl) ?_
     refine At.call noF_stable 31 [.agg (cfAM g s k sz sl of gp lt ea d), .agg [.io .i64 kd, .io .i64 ik, .so (mkB key), .io .i64 ti, .io .i64 v, .io .i64 src, .io .i64 wk2, .io .i64 wks, .io .i64 bit, .io .u32 mask]] (.bo (mayB ⟨g, s, k, sz, sl, of, gp, lt, ea, d⟩ ⟨kd, ik, key, ti, v, src, wk2, wks, bit, mask⟩)) (by kernel_rfl) (by kernel_rfl) (by kernel_rfl) (fun _ _ w1 _ _ => may_any ⟨g, s, k, sz, sl, of, gp, lt, ea, d⟩ ⟨kd, ik, key, ti, v, src, wk2, wks, bit, mask⟩ hwr w1) ?_
     refine At.to (noF_stable) (noF_fewer) 0 300 [1, 4, 22, 23, 24, 33] 1 ⟨.code (sub B13 [1, 1, 1, 0, 1, 4, 4, 1, 1, 0, 4, 1, 1]), [.block 1, .seq (sub B13 pAM4), .next (Sx.Next w.heap.size w Tryz.f13.ntmps (frC (some a) n cap) (locC (Cf.mk g s k sz sl of gp lt ea d) wk (some a) n cap) (GC (Cf.mk g s k sz sl of gp lt ea d) xs R) (fun i => n - i) i), .block 0, .seq (sub B13 pAM9)], [(1, .lp 0 0), (4, .io .i64 (↑i : Int)), (22, .sl (some a) n cap), (23, .io .i64 (↑n : Int)), (24, .io .i64 (↑i : Int)), (33, .bo !mayB (Cf.mk g s k sz sl of gp lt ea d) (St.mk kd ik key ti v src wk2 wks bit mask))], [((cwAM g s k sz sl of gp lt ea d wk (some a) n cap), 28)]⟩ (by kernel_rfl) (by kernel_rfl) ?_
     rcases Bool.eq_false_or_eq_true (!mayB (Cf.mk g s k sz sl of gp lt ea d) (St.mk kd ik key ti v src wk2 wks bit mask)) with b0 | b0
     ·refine At.res 33 (!mayB (Cf.mk g s k sz sl of gp lt ea d) (St.mk kd ik key ti v src wk2 wks bit mask)) true (by kernel_rfl) b0 ?_
      refine At.to (noF_stable) (noF_fewer) 0 300 [2, 3] 0 ⟨.exit .ret, [], [(2, .io .i64 (IntKind.i64.wrap (2 + (↑i : Int)))), (3, .v (.int .i64 2))], []⟩ (by kernel_rfl) (by kernel_rfl) ?_
      refine At.ret (by kernel_rfl) (.tup [.io .i64 (IntKind.i64.wrap (2 + (↑i : Int))), .v (.int .i64 2)]) (by kernel_rfl) ?_
      have hmay : mayB ⟨g, s, k, sz, sl, of, gp, lt, ea, d⟩ ⟨kd, ik, key, ti, v, src, wk2, wks, bit, mask⟩ = false := by simpa using b0
      rw [hmay] at h1
      have hw2 : IntKind.i64.wrap (2 + (i : Int)) = 2 + (i : Int) := wrap63 (by omega) (by omega)
      rw [hw2]
      intro ρ w9 hm' hf
      exact ⟨by rw [← h1]; rfl, hm'.below⟩
     ·refine At.res 33 (!mayB (Cf.mk g s k sz sl of gp lt ea d) (St.mk kd ik key ti v src wk2 wks bit mask)) false (by kernel_rfl) b0 ?_
      refine At.to (noF_stable) (noF_fewer) 0 300 [1, 4, 22, 23, 24] 1 ⟨.exit .normal, [.next (Sx.Next w.heap.size w Tryz.f13.ntmps (frC (some a) n cap) (locC (Cf.mk g s k sz sl of gp lt ea d) wk (some a) n cap) (GC (Cf.mk g s k sz sl of gp lt ea d) xs R) (fun i => n - i) i), .block 0, .seq (sub B13 pAM9)], [(1, .lp 0 0), (4, .io .i64 (↑i : Int)), (22, .sl (some a) n cap), (23, .io .i64 (↑n : Int)), (24, .io .i64 (IntKind.i64.wrap ((↑i : Int) + 1)))], [((cwAM g s k sz sl of gp lt ea d wk (some a) n cap), 28)]⟩ (by kernel_rfl) (by kernel_rfl) ?_
      have hmay : mayB ⟨g, s, k, sz, sl, of, gp, lt, ea, d⟩ ⟨kd, ik, key, ti, v, src, wk2, wks, bit, mask⟩ = true := by simpa using b0
      rw [hmay] at h1
      have hw3 : IntKind.i64.wrap ((i : Int) + 1) = ((i + 1 : Nat) : Int) := by
       rw [wrap63 (by omega) (by omega)]
       omega
      rw [hw3]
      refine At.next (σ := Nat) (i + 1) rfl rfl (by unfold subFr; kernel_rfl) (by kernel_rfl) ?_ ?_
      ·intro ρ a' w' hi' hf
       exact ⟨hf, h1, by omega⟩
      ·show n - (i + 1) < n - i
       omega
    ·refine At.res 25 (decide ((↑i : Int) < (↑n : Int))) false (by kernel_rfl) b0 ?_
     refine At.to (noF_stable) (noF_fewer) 0 300 [2, 3] 0 ⟨.exit .ret, [], [(2, .v (.int .i64 0)), (3, .v (.int .i64 0))], []⟩ (by kernel_rfl) (by kernel_rfl) ?_
     refine At.ret (by kernel_rfl) (.tup [.v (.int .i64 0), .v (.int .i64 0)]) (by kernel_rfl) ?_
     have hi : ¬ (i : Int) < (n : Int) := of_decide_eq_false b0
     rw [List.drop_eq_nil_of_le (by rw [← hS.1]; omega)] at h1
     simp only [badI] at h1
     intro ρ w9 hm' hf
     exact ⟨by rw [← h1]; rfl, hm'.below⟩
theorem check_kit (c : Cf) (wk : Int) (A : Option Addr) (n cap : Nat) (xs : List St) (w : World) (hS : SlS w A n xs) (hn : n ≤ 1048576) :
  Calls Tryz.prog 13 #[.agg (c.w ++ [Value.int .i64 wk, Value.slice A n cap]).toArray] w fun e w' => e = .returned (.tuple #[.int .i64 (chkP c wk xs).1, .int .i64 (chkP c wk xs).2]) ∧ Below w.heap.size w w' := by
 obtain ⟨g, s, k, sz, sl, of, gp, lt, ea, d⟩ := c
 exact check_go g s k sz sl of gp lt ea d wk A n cap xs w hS hn
end Go.Proofs.YthfpekhpeiebjaaGreatDoor
end
section
namespace Go.Proofs.YthfpekhpeiebjaaGreatDoor
open Go.RowKit Go.Sx
/-- A step's line. -/
def lineS : St → List UInt8
 | ⟨kd, ik, key, ti, v, src, wk, wks, bit, mask⟩ => if kd = 1 then (if ik = 1 then [101, 118, 101, 110, 116, 32] ++ quoteB key ++ [32] ++ Lib.itoa ti ++ [32] ++ Lib.itoa v else if ik = 2 then [109, 97, 114, 107, 32] ++ Lib.itoa src ++ [32] ++ Lib.itoa ti else [115, 97, 118, 101])
  else if kd = 2 then [112, 105, 99, 107, 32] ++ Lib.itoa wk else if kd = 4 then [114, 101, 115, 116, 111, 114, 101, 32] ++ Lib.itoa wks else if kd = 5 then [115, 112, 111, 105, 108, 32] ++ Lib.itoa bit ++ [32] ++ Lib.itoa mask else [100, 114, 97, 105, 110]
def St.ok (x : St) : Prop := in64 x.t ∧ in64 x.v ∧ in64 x.src ∧ in64 x.wk ∧ in64 x.wks ∧ in64 x.bit ∧ (0 ≤ x.mask ∧ x.mask < 4294967296)
section
variable {Q : Exit → Act → World → Prop} {N : Nat} {w0 : World} {ntm : Nat} {F : List Nat → World → Prop} [Md]
theorem catX {s : S} (x y : List UInt8) (hq : catI Tryz.prog ntm s = some (mkB x, mkB y)) (hs : x.length + y.length ≤ 1000000) (hF : Stable F) (h : At Tryz.prog Q N w0 ntm F (s.tail ntm (.so (mkB (x ++ y))))) : At Tryz.prog Q N w0 ntm F s := by
 refine At.cat _ _ hq (by rw [mkB_size, mkB_size]; omega) hF ?_
 rw [mkB_app]
 exact h
end
theorem itoa_any (n : Int) (h : in64 n) (w : World) (htab : Lib.TabIs Tryz.prog w "internal/strconv.uint64pow10" .u64 Lib.pow10Tab) : Calls Tryz.prog 38 #[.int .i64 n] w fun e w' => e = .returned (.string (mkB (Lib.itoa n))) ∧ Below w.heap.size w w' :=
 (Tryz.strconv_Itoa n h.1 h.2 w htab).mono fun e w' h => by
  obtain ⟨rfl, k, os, rfl⟩ := h
  exact ⟨rfl, grown_under w k os⟩
theorem fmtM (mask : Int) (h : 0 ≤ mask ∧ mask < 4294967296) (w : World) (htab : Lib.TabIs Tryz.prog w "internal/strconv.uint64pow10" .u64 Lib.pow10Tab) : Calls Tryz.prog 71 #[.int .u64 (IntKind.u64.wrap mask), .int .i64 10] w fun e w' => e = .returned (.string (mkB (Lib.itoa mask))) ∧ Below w.heap.size w w' := by
 obtain ⟨u, rfl⟩ : ∃ u : Nat, mask = u := ⟨mask.toNat, by omega⟩
 rw [show IntKind.u64.wrap (u : Int) = (u : Int) from by rw [wrap_u64]; omega]
 exact fmtU_any u (by omega) w htab
noncomputable def B39 : Code := (Tryz.f39.body).getD .skip
set_option maxHeartbeats 8000000 in
set_option maxRecDepth 100000 in
theorem line_go (kd ik : Int) (key : List UInt8) (ti v src wk2 wks bit mask : Int) (hk : key.length ≤ 256) (i0 : in64 ti) (i1 : in64 v) (i2 : in64 src) (i3 : in64 wk2) (i4 : in64 wks) (i5 : in64 bit) (i6 : 0 ≤ mask ∧ mask < 4294967296) (w : World) (htp : Lib.TabIs Tryz.prog w "internal/strconv.uint64pow10" .u64 Lib.pow10Tab) :
  Calls Tryz.prog 39 #[.agg #[.int .i64 kd, .int .i64 ik, .string (mkB key), .int .i64 ti, .int .i64 v, .int .i64 src, .int .i64 wk2, .int .i64 wks, .int .i64 bit, .int .u32 mask]] w fun e w' => e = .returned (.string (mkB (lineS ⟨kd, ik, key, ti, v, src, wk2, wks, bit, mask⟩))) ∧ Below w.heap.size w w' := by
 have hq0 := quote_short hk
 have hl0 := itoa_short i0
 have hl1 := itoa_short i1
 have hl2 := itoa_short i2
 have hl3 := itoa_short i3
 have hl4 := itoa_short i4
 have hl5 := itoa_short i5
 have hl6 := itoa_short (show in64 mask from ⟨by omega, by omega⟩)
 refine enter (fn := Tryz.f39) (c := B39) [.agg [.io .i64 kd, .io .i64 ik, .so (mkB key), .io .i64 ti, .io .i64 v, .io .i64 src, .io .i64 wk2, .io .i64 wks, .io .i64 bit, .io .u32 mask]] Tryz.func39 rfl rfl ?_
 refine At.to (noF_stable) (noF_fewer) 20 300 [1, 4, 5] 1 ⟨.code (sub B39 [1, 0, 1, 4, 1]), [.block 0, .seq (sub B39 [1, 1])], [(1, .lp 0 0), (4, .io .i64 kd), (5, .bo (kd == 1))], [([.io .i64 kd, .io .i64 ik, .so (mkB key), .io .i64 ti, .io .i64 v, .io .i64 src, .io .i64 wk2, .io .i64 wks, .io .i64 bit, .io IntKind.u32 mask], 41)]⟩ (by kernel_rfl) (by kernel_rfl) ?_
 rcases Bool.eq_false_or_eq_true (kd == 1) with b0 | b0
 ·refine At.res 5 (kd == 1) true (by kernel_rfl) b0 ?_
  refine At.to (noF_stable) (noF_fewer) 20 300 [1, 9, 10] 1 ⟨.code (sub B39 [1, 0, 1, 4, 1, 2, 0, 1, 4, 1]), [.block 1, .seq (sub B39 pAM5), .block 0, .seq (sub B39 [1, 1])], [(1, .lp 0 0), (9, .io .i64 ik), (10, .bo (ik == 1))], [([.io .i64 kd, .io .i64 ik, .so (mkB key), .io .i64 ti, .io .i64 v, .io .i64 src, .io .i64 wk2, .io .i64 wks, .io .i64 bit, .io IntKind.u32 mask], 41)]⟩ (by kernel_rfl) (by kernel_rfl) ?_
  rcases Bool.eq_false_or_eq_true (ik == 1) with b1 | b1
  ·refine At.res 10 (ik == 1) true (by kernel_rfl) b1 ?_
   refine At.to (noF_stable) (noF_fewer) 20 300 [1, 14] 1 ⟨pqops B39 [1, 0, 1, 4, 1, 2, 0, 1, 4, 1, 2, 0] 3, [.seq (sub B39 pAM2), .block 1, .seq (sub B39 pAM5), .block 0, .seq (sub B39 [1, 1])], [(1, .lp 0 0), (14, .so (mkB key))], [([.io .i64 kd, .io .i64 ik, .so (mkB key), .io .i64 ti, .io .i64 v, .io .i64 src, .io .i64 wk2, .io .i64 wks, .io .i64 bit, .io IntKind.u32 mask], 41)]⟩ (by kernel_rfl) (by kernel_rfl) ?_
   refine At.call noF_stable 19 [.so (mkB key)] (.so (mkB (quoteB key))) (by kernel_rfl) (by kernel_rfl) (by kernel_rfl) (fun _ _ w1 _ _ => quote_any key (by omega) w1) ?_
   refine At.to (noF_stable) (noF_fewer) 20 300 [1, 15] 1 ⟨pqops B39 [1, 0, 1, 4, 1, 2, 0, 1, 4, 1, 2, 0] 4, [.seq (sub B39 pAM2), .block 1, .seq (sub B39 pAM5), .block 0, .seq (sub B39 [1, 1])], [(1, .lp 0 0), (15, .so (mkB (quoteB key)))], [([.io .i64 kd, .io .i64 ik, .so (mkB key), .io .i64 ti, .io .i64 v, .io .i64 src, .io .i64 wk2, .io .i64 wks, .io .i64 bit, .io IntKind.u32 mask], 41)]⟩ (by kernel_rfl) (by kernel_rfl) ?_
   refine catX ([101, 118, 101, 110, 116, 32] : List UInt8) (quoteB key) (by kernel_rfl) (by simp only [List.length_append, List.length_cons, List.length_nil]; omega) noF_stable ?_
   refine At.to (noF_stable) (noF_fewer) 20 300 [1, 16] 1 ⟨pqops B39 [1, 0, 1, 4, 1, 2, 0, 1, 4, 1, 2, 0] 5, [.seq (sub B39 pAM2), .block 1, .seq (sub B39 pAM5), .block 0, .seq (sub B39 [1, 1])], [(1, .lp 0 0), (16, .so (mkB ([101, 118, 101, 110, 116, 32] ++ quoteB key)))], [([.io .i64 kd, .io .i64 ik, .so (mkB key), .io .i64 ti, .io .i64 v, .io .i64 src, .io .i64 wk2, .io .i64 wks, .io .i64 bit, .io IntKind.u32 mask], 41)]⟩ (by kernel_rfl) (by kernel_rfl) ?_
   refine catX ([101, 118, 101, 110, 116, 32] ++ quoteB key) ([32] : List UInt8) (by kernel_rfl) (by simp only [List.length_append, List.length_cons, List.length_nil]; omega) noF_stable ?_
   refine At.to (noF_stable) (noF_fewer) 20 300 [1, 17, 20] 1 ⟨pqops B39 [1, 0, 1, 4, 1, 2, 0, 1, 4, 1, 2, 0] 9, [.seq (sub B39 pAM2), .block 1, .seq (sub B39 pAM5), .block 0, .seq (sub B39 [1, 1])], [(1, .lp 0 0), (17, .so (mkB ([101, 118, 101, 110, 116, 32] ++ quoteB key ++ [32]))), (20, .io .i64 ti)], [([.io .i64 kd, .io .i64 ik, .so (mkB key), .io .i64 ti, .io .i64 v, .io .i64 src, .io .i64 wk2, .io .i64 wks, .io .i64 bit, .io IntKind.u32 mask], 41)]⟩ (by kernel_rfl) (by kernel_rfl) ?_
   refine At.call noF_stable 59 [.io .i64 ti, .v (.int .i64 10)] (.so (mkB (Lib.itoa ti))) (by kernel_rfl) (by kernel_rfl) (by kernel_rfl) (fun _ _ w1 hi _ => fmt_any ti i0 w1 (tab_below htp hi.mem.below rfl)) ?_
   refine At.to (noF_stable) (noF_fewer) 20 300 [1, 17, 21] 1 ⟨pqops B39 [1, 0, 1, 4, 1, 2, 0, 1, 4, 1, 2, 0] 10, [.seq (sub B39 pAM2), .block 1, .seq (sub B39 pAM5), .block 0, .seq (sub B39 [1, 1])], [(1, .lp 0 0), (17, .so (mkB ([101, 118, 101, 110, 116, 32] ++ quoteB key ++ [32]))), (21, .so (mkB (Lib.itoa ti)))], [([.io .i64 kd, .io .i64 ik, .so (mkB key), .io .i64 ti, .io .i64 v, .io .i64 src, .io .i64 wk2, .io .i64 wks, .io .i64 bit, .io IntKind.u32 mask], 41)]⟩ (by kernel_rfl) (by kernel_rfl) ?_
   refine catX ([101, 118, 101, 110, 116, 32] ++ quoteB key ++ [32]) (Lib.itoa ti) (by kernel_rfl) (by simp only [List.length_append, List.length_cons, List.length_nil]; omega) noF_stable ?_
   refine At.to (noF_stable) (noF_fewer) 20 300 [1, 22] 1 ⟨pqops B39 [1, 0, 1, 4, 1, 2, 0, 1, 4, 1, 2, 0] 11, [.seq (sub B39 pAM2), .block 1, .seq (sub B39 pAM5), .block 0, .seq (sub B39 [1, 1])], [(1, .lp 0 0), (22, .so (mkB ([101, 118, 101, 110, 116, 32] ++ quoteB key ++ [32] ++ Lib.itoa ti)))], [([.io .i64 kd, .io .i64 ik, .so (mkB key), .io .i64 ti, .io .i64 v, .io .i64 src, .io .i64 wk2, .io .i64 wks, .io .i64 bit, .io IntKind.u32 mask], 41)]⟩ (by kernel_rfl) (by kernel_rfl) ?_
   refine catX ([101, 118, 101, 110, 116, 32] ++ quoteB key ++ [32] ++ Lib.itoa ti) ([32] : List UInt8) (by kernel_rfl) (by simp only [List.length_append, List.length_cons, List.length_nil]; omega) noF_stable ?_
   refine At.to (noF_stable) (noF_fewer) 20 300 [23, 26] 0 ⟨pqops B39 [1, 0, 1, 4, 1, 2, 0, 1, 4, 1, 2, 0] 15, [.seq (sub B39 pAM2), .block 1, .seq (sub B39 pAM5), .block 0, .seq (sub B39 [1, 1])], [(23, .so (mkB ([101, 118, 101, 110, 116, 32] ++ quoteB key ++ [32] ++ Lib.itoa ti ++ [32]))), (26, .io .i64 v)], []⟩ (by kernel_rfl) (by kernel_rfl) ?_
   refine At.call noF_stable 59 [.io .i64 v, .v (.int .i64 10)] (.so (mkB (Lib.itoa v))) (by kernel_rfl) (by kernel_rfl) (by kernel_rfl) (fun _ _ w1 hi _ => fmt_any v i1 w1 (tab_below htp hi.mem.below rfl)) ?_
   refine At.to (noF_stable) (noF_fewer) 20 300 [23, 27] 0 ⟨pqops B39 [1, 0, 1, 4, 1, 2, 0, 1, 4, 1, 2, 0] 16, [.seq (sub B39 pAM2), .block 1, .seq (sub B39 pAM5), .block 0, .seq (sub B39 [1, 1])], [(23, .so (mkB ([101, 118, 101, 110, 116, 32] ++ quoteB key ++ [32] ++ Lib.itoa ti ++ [32]))), (27, .so (mkB (Lib.itoa v)))], []⟩ (by kernel_rfl) (by kernel_rfl) ?_
   refine catX ([101, 118, 101, 110, 116, 32] ++ quoteB key ++ [32] ++ Lib.itoa ti ++ [32]) (Lib.itoa v) (by kernel_rfl) (by simp only [List.length_append, List.length_cons, List.length_nil]; omega) noF_stable ?_
   refine At.to (noF_stable) (noF_fewer) 20 300 [2] 0 ⟨.exit .ret, [], [(2, .so (mkB ([101, 118, 101, 110, 116, 32] ++ quoteB key ++ [32] ++ Lib.itoa ti ++ [32] ++ Lib.itoa v)))], []⟩ (by kernel_rfl) (by kernel_rfl) ?_
   refine At.ret (by kernel_rfl) (.so (mkB ([101, 118, 101, 110, 116, 32] ++ quoteB key ++ [32] ++ Lib.itoa ti ++ [32] ++ Lib.itoa v))) (by kernel_rfl) ?_
   intro ρ w9 hm' hf
   refine ⟨?_, hm'.below⟩
   have hq9 : lineS ⟨kd, ik, key, ti, v, src, wk2, wks, bit, mask⟩ = ([101, 118, 101, 110, 116, 32] ++ quoteB key ++ [32] ++ Lib.itoa ti ++ [32] ++ Lib.itoa v) := by
    unfold lineS
    simp only [beq_iff_eq, bne_iff_ne, ne_eq, beq_eq_false_iff_ne] at *
    simp [*]
   rw [hq9]
   rfl
  ·refine At.res 10 (ik == 1) false (by kernel_rfl) b1 ?_
   refine At.to (noF_stable) (noF_fewer) 20 300 [1, 29] 1 ⟨.code (sub B39 [1, 0, 1, 4, 1, 2, 0, 1, 4, 1, 3, 1]), [.block 1, .seq (sub B39 pAM5), .block 0, .seq (sub B39 [1, 1])], [(1, .lp 0 0), (29, .bo (ik == 2))], [([.io .i64 kd, .io .i64 ik, .so (mkB key), .io .i64 ti, .io .i64 v, .io .i64 src, .io .i64 wk2, .io .i64 wks, .io .i64 bit, .io IntKind.u32 mask], 41)]⟩ (by kernel_rfl) (by kernel_rfl) ?_
   rcases Bool.eq_false_or_eq_true (ik == 2) with b2 | b2
   ·refine At.res 29 (ik == 2) true (by kernel_rfl) b2 ?_
    refine At.to (noF_stable) (noF_fewer) 20 300 [1, 33] 1 ⟨pqops B39 [1, 0, 1, 4, 1, 2, 0, 1, 4, 1, 3, 1, 2, 0] 3, [.seq (sub B39 pAM2), .block 1, .seq (sub B39 pAM5), .block 0, .seq (sub B39 [1, 1])], [(1, .lp 0 0), (33, .io .i64 src)], [([.io .i64 kd, .io .i64 ik, .so (mkB key), .io .i64 ti, .io .i64 v, .io .i64 src, .io .i64 wk2, .io .i64 wks, .io .i64 bit, .io IntKind.u32 mask], 41)]⟩ (by kernel_rfl) (by kernel_rfl) ?_
    refine At.call noF_stable 38 [.io .i64 src] (.so (mkB (Lib.itoa src))) (by kernel_rfl) (by kernel_rfl) (by kernel_rfl) (fun _ _ w1 hi _ => itoa_any src i2 w1 (tab_below htp hi.mem.below rfl)) ?_
    refine At.to (noF_stable) (noF_fewer) 20 300 [1, 34] 1 ⟨pqops B39 [1, 0, 1, 4, 1, 2, 0, 1, 4, 1, 3, 1, 2, 0] 4, [.seq (sub B39 pAM2), .block 1, .seq (sub B39 pAM5), .block 0, .seq (sub B39 [1, 1])], [(1, .lp 0 0), (34, .so (mkB (Lib.itoa src)))], [([.io .i64 kd, .io .i64 ik, .so (mkB key), .io .i64 ti, .io .i64 v, .io .i64 src, .io .i64 wk2, .io .i64 wks, .io .i64 bit, .io IntKind.u32 mask], 41)]⟩ (by kernel_rfl) (by kernel_rfl) ?_
    refine catX ([109, 97, 114, 107, 32] : List UInt8) (Lib.itoa src) (by kernel_rfl) (by simp only [List.length_append, List.length_cons, List.length_nil]; omega) noF_stable ?_
    refine At.to (noF_stable) (noF_fewer) 20 300 [1, 35] 1 ⟨pqops B39 [1, 0, 1, 4, 1, 2, 0, 1, 4, 1, 3, 1, 2, 0] 5, [.seq (sub B39 pAM2), .block 1, .seq (sub B39 pAM5), .block 0, .seq (sub B39 [1, 1])], [(1, .lp 0 0), (35, .so (mkB ([109, 97, 114, 107, 32] ++ Lib.itoa src)))], [([.io .i64 kd, .io .i64 ik, .so (mkB key), .io .i64 ti, .io .i64 v, .io .i64 src, .io .i64 wk2, .io .i64 wks, .io .i64 bit, .io IntKind.u32 mask], 41)]⟩ (by kernel_rfl) (by kernel_rfl) ?_
    refine catX ([109, 97, 114, 107, 32] ++ Lib.itoa src) ([32] : List UInt8) (by kernel_rfl) (by simp only [List.length_append, List.length_cons, List.length_nil]; omega) noF_stable ?_
    refine At.to (noF_stable) (noF_fewer) 20 300 [36, 39] 0 ⟨pqops B39 [1, 0, 1, 4, 1, 2, 0, 1, 4, 1, 3, 1, 2, 0] 9, [.seq (sub B39 pAM2), .block 1, .seq (sub B39 pAM5), .block 0, .seq (sub B39 [1, 1])], [(36, .so (mkB ([109, 97, 114, 107, 32] ++ Lib.itoa src ++ [32]))), (39, .io .i64 ti)], []⟩ (by kernel_rfl) (by kernel_rfl) ?_
    refine At.call noF_stable 59 [.io .i64 ti, .v (.int .i64 10)] (.so (mkB (Lib.itoa ti))) (by kernel_rfl) (by kernel_rfl) (by kernel_rfl) (fun _ _ w1 hi _ => fmt_any ti i0 w1 (tab_below htp hi.mem.below rfl)) ?_
    refine At.to (noF_stable) (noF_fewer) 20 300 [36, 40] 0 ⟨pqops B39 [1, 0, 1, 4, 1, 2, 0, 1, 4, 1, 3, 1, 2, 0] 10, [.seq (sub B39 pAM2), .block 1, .seq (sub B39 pAM5), .block 0, .seq (sub B39 [1, 1])], [(36, .so (mkB ([109, 97, 114, 107, 32] ++ Lib.itoa src ++ [32]))), (40, .so (mkB (Lib.itoa ti)))], []⟩ (by kernel_rfl) (by kernel_rfl) ?_
    refine catX ([109, 97, 114, 107, 32] ++ Lib.itoa src ++ [32]) (Lib.itoa ti) (by kernel_rfl) (by simp only [List.length_append, List.length_cons, List.length_nil]; omega) noF_stable ?_
    refine At.to (noF_stable) (noF_fewer) 20 300 [2] 0 ⟨.exit .ret, [], [(2, .so (mkB ([109, 97, 114, 107, 32] ++ Lib.itoa src ++ [32] ++ Lib.itoa ti)))], []⟩ (by kernel_rfl) (by kernel_rfl) ?_
    refine At.ret (by kernel_rfl) (.so (mkB ([109, 97, 114, 107, 32] ++ Lib.itoa src ++ [32] ++ Lib.itoa ti))) (by kernel_rfl) ?_
    intro ρ w9 hm' hf
    refine ⟨?_, hm'.below⟩
    have hq9 : lineS ⟨kd, ik, key, ti, v, src, wk2, wks, bit, mask⟩ = ([109, 97, 114, 107, 32] ++ Lib.itoa src ++ [32] ++ Lib.itoa ti) := by
     unfold lineS
     simp only [beq_iff_eq, bne_iff_ne, ne_eq, beq_eq_false_iff_ne] at *
     simp [*]
    rw [hq9]
    rfl
   ·refine At.res 29 (ik == 2) false (by kernel_rfl) b2 ?_
    refine At.to (noF_stable) (noF_fewer) 20 300 [2] 0 ⟨.exit .ret, [], [(2, .v (.string (ByteArray.mk #[115, 97, 118, 101])))], []⟩ (by kernel_rfl) (by kernel_rfl) ?_
    refine At.ret (by kernel_rfl) (.v (.string (ByteArray.mk #[115, 97, 118, 101]))) (by kernel_rfl) ?_
    intro ρ w9 hm' hf
    refine ⟨?_, hm'.below⟩
    have hq9 : lineS ⟨kd, ik, key, ti, v, src, wk2, wks, bit, mask⟩ = [115, 97, 118, 101] := by
     unfold lineS
     simp only [beq_iff_eq, bne_iff_ne, ne_eq, beq_eq_false_iff_ne] at *
     simp [*]
    rw [hq9]
    rfl
 ·refine At.res 5 (kd == 1) false (by kernel_rfl) b0 ?_
  refine At.to (noF_stable) (noF_fewer) 20 300 [1, 4, 42] 1 ⟨.code (sub B39 [1, 0, 1, 4, 1, 3, 1]), [.block 0, .seq (sub B39 [1, 1])], [(1, .lp 0 0), (4, .io .i64 kd), (42, .bo (kd == 2))], [([.io .i64 kd, .io .i64 ik, .so (mkB key), .io .i64 ti, .io .i64 v, .io .i64 src, .io .i64 wk2, .io .i64 wks, .io .i64 bit, .io IntKind.u32 mask], 41)]⟩ (by kernel_rfl) (by kernel_rfl) ?_
  rcases Bool.eq_false_or_eq_true (kd == 2) with b3 | b3
  ·refine At.res 42 (kd == 2) true (by kernel_rfl) b3 ?_
   refine At.to (noF_stable) (noF_fewer) 20 300 [45] 0 ⟨pops B39 [1, 0, 1, 4, 1, 3, 1, 2, 0] 2, [.seq (sub B39 pAM2), .block 0, .seq (sub B39 [1, 1])], [(45, .io .i64 wk2)], []⟩ (by kernel_rfl) (by kernel_rfl) ?_
   refine At.call noF_stable 38 [.io .i64 wk2] (.so (mkB (Lib.itoa wk2))) (by kernel_rfl) (by kernel_rfl) (by kernel_rfl) (fun _ _ w1 hi _ => itoa_any wk2 i3 w1 (tab_below htp hi.mem.below rfl)) ?_
   refine At.to (noF_stable) (noF_fewer) 20 300 [46] 0 ⟨pops B39 [1, 0, 1, 4, 1, 3, 1, 2, 0] 3, [.seq (sub B39 pAM2), .block 0, .seq (sub B39 [1, 1])], [(46, .so (mkB (Lib.itoa wk2)))], []⟩ (by kernel_rfl) (by kernel_rfl) ?_
   refine catX ([112, 105, 99, 107, 32] : List UInt8) (Lib.itoa wk2) (by kernel_rfl) (by simp only [List.length_append, List.length_cons, List.length_nil]; omega) noF_stable ?_
   refine At.to (noF_stable) (noF_fewer) 20 300 [2] 0 ⟨.exit .ret, [], [(2, .so (mkB ([112, 105, 99, 107, 32] ++ Lib.itoa wk2)))], []⟩ (by kernel_rfl) (by kernel_rfl) ?_
   refine At.ret (by kernel_rfl) (.so (mkB ([112, 105, 99, 107, 32] ++ Lib.itoa wk2))) (by kernel_rfl) ?_
   intro ρ w9 hm' hf
   refine ⟨?_, hm'.below⟩
   have hq9 : lineS ⟨kd, ik, key, ti, v, src, wk2, wks, bit, mask⟩ = ([112, 105, 99, 107, 32] ++ Lib.itoa wk2) := by
    unfold lineS
    simp only [beq_iff_eq, bne_iff_ne, ne_eq, beq_eq_false_iff_ne] at *
    simp [*]
   rw [hq9]
   rfl
  ·refine At.res 42 (kd == 2) false (by kernel_rfl) b3 ?_
   refine At.to (noF_stable) (noF_fewer) 20 300 [1, 4, 48] 1 ⟨.code (sub B39 [1, 0, 1, 4, 1, 3, 1, 3, 1]), [.block 0, .seq (sub B39 [1, 1])], [(1, .lp 0 0), (4, .io .i64 kd), (48, .bo (kd == 4))], [([.io .i64 kd, .io .i64 ik, .so (mkB key), .io .i64 ti, .io .i64 v, .io .i64 src, .io .i64 wk2, .io .i64 wks, .io .i64 bit, .io IntKind.u32 mask], 41)]⟩ (by kernel_rfl) (by kernel_rfl) ?_
   rcases Bool.eq_false_or_eq_true (kd == 4) with b4 | b4
   ·refine At.res 48 (kd == 4) true (by kernel_rfl) b4 ?_
    refine At.to (noF_stable) (noF_fewer) 20 300 [51] 0 ⟨pops B39 [1, 0, 1, 4, 1, 3, 1, 3, 1, 2, 0] 2, [.seq (sub B39 pAM2), .block 0, .seq (sub B39 [1, 1])], [(51, .io .i64 wks)], []⟩ (by kernel_rfl) (by kernel_rfl) ?_
    refine At.call noF_stable 38 [.io .i64 wks] (.so (mkB (Lib.itoa wks))) (by kernel_rfl) (by kernel_rfl) (by kernel_rfl) (fun _ _ w1 hi _ => itoa_any wks i4 w1 (tab_below htp hi.mem.below rfl)) ?_
    refine At.to (noF_stable) (noF_fewer) 20 300 [52] 0 ⟨pops B39 [1, 0, 1, 4, 1, 3, 1, 3, 1, 2, 0] 3, [.seq (sub B39 pAM2), .block 0, .seq (sub B39 [1, 1])], [(52, .so (mkB (Lib.itoa wks)))], []⟩ (by kernel_rfl) (by kernel_rfl) ?_
    refine catX ([114, 101, 115, 116, 111, 114, 101, 32] : List UInt8) (Lib.itoa wks) (by kernel_rfl) (by simp only [List.length_append, List.length_cons, List.length_nil]; omega) noF_stable ?_
    refine At.to (noF_stable) (noF_fewer) 20 300 [2] 0 ⟨.exit .ret, [], [(2, .so (mkB ([114, 101, 115, 116, 111, 114, 101, 32] ++ Lib.itoa wks)))], []⟩ (by kernel_rfl) (by kernel_rfl) ?_
    refine At.ret (by kernel_rfl) (.so (mkB ([114, 101, 115, 116, 111, 114, 101, 32] ++ Lib.itoa wks))) (by kernel_rfl) ?_
    intro ρ w9 hm' hf
    refine ⟨?_, hm'.below⟩
    have hq9 : lineS ⟨kd, ik, key, ti, v, src, wk2, wks, bit, mask⟩ = ([114, 101, 115, 116, 111, 114, 101, 32] ++ Lib.itoa wks) := by
     unfold lineS
     simp only [beq_iff_eq, bne_iff_ne, ne_eq, beq_eq_false_iff_ne] at *
     simp [*]
    rw [hq9]
    rfl
   ·refine At.res 48 (kd == 4) false (by kernel_rfl) b4 ?_
    refine At.to (noF_stable) (noF_fewer) 20 300 [1, 54] 1 ⟨.code (sub B39 [1, 0, 1, 4, 1, 3, 1, 3, 1, 3, 1]), [.block 0, .seq (sub B39 [1, 1])], [(1, .lp 0 0), (54, .bo (kd == 5))], [([.io .i64 kd, .io .i64 ik, .so (mkB key), .io .i64 ti, .io .i64 v, .io .i64 src, .io .i64 wk2, .io .i64 wks, .io .i64 bit, .io IntKind.u32 mask], 41)]⟩ (by kernel_rfl) (by kernel_rfl) ?_
    rcases Bool.eq_false_or_eq_true (kd == 5) with b5 | b5
    ·refine At.res 54 (kd == 5) true (by kernel_rfl) b5 ?_
     refine At.to (noF_stable) (noF_fewer) 20 300 [1, 57] 1 ⟨pqops B39 [1, 0, 1, 4, 1, 3, 1, 3, 1, 3, 1, 2, 0] 2, [.seq (sub B39 pAM2), .block 0, .seq (sub B39 [1, 1])], [(1, .lp 0 0), (57, .io .i64 bit)], [([.io .i64 kd, .io .i64 ik, .so (mkB key), .io .i64 ti, .io .i64 v, .io .i64 src, .io .i64 wk2, .io .i64 wks, .io .i64 bit, .io IntKind.u32 mask], 41)]⟩ (by kernel_rfl) (by kernel_rfl) ?_
     refine At.call noF_stable 38 [.io .i64 bit] (.so (mkB (Lib.itoa bit))) (by kernel_rfl) (by kernel_rfl) (by kernel_rfl) (fun _ _ w1 hi _ => itoa_any bit i5 w1 (tab_below htp hi.mem.below rfl)) ?_
     refine At.to (noF_stable) (noF_fewer) 20 300 [1, 58] 1 ⟨pqops B39 [1, 0, 1, 4, 1, 3, 1, 3, 1, 3, 1, 2, 0] 3, [.seq (sub B39 pAM2), .block 0, .seq (sub B39 [1, 1])], [(1, .lp 0 0), (58, .so (mkB (Lib.itoa bit)))], [([.io .i64 kd, .io .i64 ik, .so (mkB key), .io .i64 ti, .io .i64 v, .io .i64 src, .io .i64 wk2, .io .i64 wks, .io .i64 bit, .io IntKind.u32 mask], 41)]⟩ (by kernel_rfl) (by kernel_rfl) ?_
     refine catX ([115, 112, 111, 105, 108, 32] : List UInt8) (Lib.itoa bit) (by kernel_rfl) (by simp only [List.length_append, List.length_cons, List.length_nil]; omega) noF_stable ?_
     refine At.to (noF_stable) (noF_fewer) 20 300 [1, 59] 1 ⟨pqops B39 [1, 0, 1, 4, 1, 3, 1, 3, 1, 3, 1, 2, 0] 4, [.seq (sub B39 pAM2), .block 0, .seq (sub B39 [1, 1])], [(1, .lp 0 0), (59, .so (mkB ([115, 112, 111, 105, 108, 32] ++ Lib.itoa bit)))], [([.io .i64 kd, .io .i64 ik, .so (mkB key), .io .i64 ti, .io .i64 v, .io .i64 src, .io .i64 wk2, .io .i64 wks, .io .i64 bit, .io IntKind.u32 mask], 41)]⟩ (by kernel_rfl) (by kernel_rfl) ?_
     refine catX ([115, 112, 111, 105, 108, 32] ++ Lib.itoa bit) ([32] : List UInt8) (by kernel_rfl) (by simp only [List.length_append, List.length_cons, List.length_nil]; omega) noF_stable ?_
     refine At.to (noF_stable) (noF_fewer) 20 300 [60, 63] 0 ⟨pqops B39 [1, 0, 1, 4, 1, 3, 1, 3, 1, 3, 1, 2, 0] 8, [.seq (sub B39 pAM2), .block 0, .seq (sub B39 [1, 1])], [(60, .so (mkB ([115, 112, 111, 105, 108, 32] ++ Lib.itoa bit ++ [32]))), (63, .io IntKind.u64 (IntKind.u64.wrap mask))], []⟩ (by kernel_rfl) (by kernel_rfl) ?_
     refine At.call noF_stable 71 [.io IntKind.u64 (IntKind.u64.wrap mask), .v (.int .i64 10)] (.so (mkB (Lib.itoa mask))) (by kernel_rfl) (by kernel_rfl) (by kernel_rfl) (fun _ _ w1 hi _ => fmtM mask i6 w1 (tab_below htp hi.mem.below rfl)) ?_
     refine At.to (noF_stable) (noF_fewer) 20 300 [60, 64] 0 ⟨pqops B39 [1, 0, 1, 4, 1, 3, 1, 3, 1, 3, 1, 2, 0] 9, [.seq (sub B39 pAM2), .block 0, .seq (sub B39 [1, 1])], [(60, .so (mkB ([115, 112, 111, 105, 108, 32] ++ Lib.itoa bit ++ [32]))), (64, .so (mkB (Lib.itoa mask)))], []⟩ (by kernel_rfl) (by kernel_rfl) ?_
     refine catX ([115, 112, 111, 105, 108, 32] ++ Lib.itoa bit ++ [32]) (Lib.itoa mask) (by kernel_rfl) (by simp only [List.length_append, List.length_cons, List.length_nil]; omega) noF_stable ?_
     refine At.to (noF_stable) (noF_fewer) 20 300 [2] 0 ⟨.exit .ret, [], [(2, .so (mkB ([115, 112, 111, 105, 108, 32] ++ Lib.itoa bit ++ [32] ++ Lib.itoa mask)))], []⟩ (by kernel_rfl) (by kernel_rfl) ?_
     refine At.ret (by kernel_rfl) (.so (mkB ([115, 112, 111, 105, 108, 32] ++ Lib.itoa bit ++ [32] ++ Lib.itoa mask))) (by kernel_rfl) ?_
     intro ρ w9 hm' hf
     refine ⟨?_, hm'.below⟩
     have hq9 : lineS ⟨kd, ik, key, ti, v, src, wk2, wks, bit, mask⟩ = ([115, 112, 111, 105, 108, 32] ++ Lib.itoa bit ++ [32] ++ Lib.itoa mask) := by
      unfold lineS
      simp only [beq_iff_eq, bne_iff_ne, ne_eq, beq_eq_false_iff_ne] at *
      simp [*]
     rw [hq9]
     rfl
    ·refine At.res 54 (kd == 5) false (by kernel_rfl) b5 ?_
     refine At.to (noF_stable) (noF_fewer) 20 300 [2] 0 ⟨.exit .ret, [], [(2, .v (.string (ByteArray.mk #[100, 114, 97, 105, 110])))], []⟩ (by kernel_rfl) (by kernel_rfl) ?_
     refine At.ret (by kernel_rfl) (.v (.string (ByteArray.mk #[100, 114, 97, 105, 110]))) (by kernel_rfl) ?_
     intro ρ w9 hm' hf
     refine ⟨?_, hm'.below⟩
     have hq9 : lineS ⟨kd, ik, key, ti, v, src, wk2, wks, bit, mask⟩ = [100, 114, 97, 105, 110] := by
      unfold lineS
      simp only [beq_iff_eq, bne_iff_ne, ne_eq, beq_eq_false_iff_ne] at *
      simp [*]
     rw [hq9]
     rfl
end Go.Proofs.YthfpekhpeiebjaaGreatDoor
end
section
/- A script handed in, taken apart. -/
set_option maxRecDepth 100000
namespace Go.Proofs.YthfpekhpeiebjaaGreatDoor
open Go.Joins Go.ChangeShapes Go.WideShapes Go.RowKit Go.Deep Go.Sx
section
variable {H : Type} {enc : TypeId × Value → H} {w : World} {base : Nat} {spare : Nat → Bool} {held : Bool}
theorem laid_out : laidOutB Tryz.prog = true := by kernel_rfl
theorem kc2 : Tryz.prog.cellsOf 2 = 1 := by kernel_rfl
theorem kc3 : Tryz.prog.cellsOf 3 = 1 := by kernel_rfl
theorem kc4 : Tryz.prog.cellsOf 4 = 1 := by kernel_rfl
theorem kc9 : Tryz.prog.cellsOf 9 = 1 := by kernel_rfl
theorem kc23 : Tryz.prog.cellsOf 23 = 1 := by kernel_rfl
theorem kc25 : Tryz.prog.cellsOf 25 = 10 := by kernel_rfl
theorem kc26 : Tryz.prog.cellsOf 26 = 1 := by kernel_rfl
theorem kc28 : Tryz.prog.cellsOf 28 = 12 := by kernel_rfl
theorem kc35 : Tryz.prog.cellsOf 35 = 1 := by kernel_rfl
theorem kc36 : Tryz.prog.cellsOf 36 = 1 := by kernel_rfl
theorem kc38 : Tryz.prog.cellsOf 38 = 5 := by kernel_rfl
theorem kc39 : Tryz.prog.cellsOf 39 = 1 := by kernel_rfl
theorem kc41 : Tryz.prog.cellsOf 41 = 10 := by kernel_rfl
instance : Inhabited St := ⟨⟨0, 0, [], 0, 0, 0, 0, 0, 0, 0⟩⟩
theorem wf_in {x : Int} (h : (Lit.int .i64 x).wf = true) : in64 x := by
 simp only [Lit.wf, Bool.and_eq_true, decide_eq_true_eq] at h
 exact ⟨h.1, h.2⟩
theorem wf_m {x : Int} (h : (Lit.int .u32 x).wf = true) : 0 ≤ x ∧ x < 4294967296 := by
 simp only [Lit.wf, Bool.and_eq_true, decide_eq_true_eq] at h
 exact ⟨h.1, Int.lt_of_le_of_lt h.2 (by decide)⟩
theorem cfg_of {fuel : Nat} {cs : List Value} {x : DataW H × List MemPlace} (h : DataW.trod enc Tryz.prog w base spare held fuel 25 cs = some x) : ∃ (g s k sz sl of gp lt ea : Int) (b : Bool), cs = [.int .i64 g, .int .i64 s, .int .i64 k, .int .i64 sz, .int .i64 sl, .int .i64 of, .int .i64 gp, .int .i64 lt, .int .i64 ea, .bool b] := by
 obtain ⟨xs, n, _, _, hl, hlen, hg⟩ := DataW.trod_struct Tryz.underlying25 h
 match cs, hl.trans kc25, xs, hlen with
 | [c0, c1, c2, c3, c4, c5, c6, c7, c8, c9], _, [y0, y1, y2, y3, y4, y5, y6, y7, y8, y9], _ =>
  have h0 : DataW.trod enc Tryz.prog w base spare held n 3 [c0] = some y0 := by simpa [kc3] using hg 0 _ rfl
  have h1 : DataW.trod enc Tryz.prog w base spare held n 3 [c1] = some y1 := by simpa [kc3] using hg 1 _ rfl
  have h2 : DataW.trod enc Tryz.prog w base spare held n 23 [c2] = some y2 := by simpa [kc23] using hg 2 _ rfl
  have h3 : DataW.trod enc Tryz.prog w base spare held n 2 [c3] = some y3 := by simpa [kc2] using hg 3 _ rfl
  have h4 : DataW.trod enc Tryz.prog w base spare held n 2 [c4] = some y4 := by simpa [kc2] using hg 4 _ rfl
  have h5 : DataW.trod enc Tryz.prog w base spare held n 2 [c5] = some y5 := by simpa [kc2] using hg 5 _ rfl
  have h6 : DataW.trod enc Tryz.prog w base spare held n 2 [c6] = some y6 := by simpa [kc2] using hg 6 _ rfl
  have h7 : DataW.trod enc Tryz.prog w base spare held n 2 [c7] = some y7 := by simpa [kc2] using hg 7 _ rfl
  have h8 : DataW.trod enc Tryz.prog w base spare held n 3 [c8] = some y8 := by simpa [kc3] using hg 8 _ rfl
  have h9 : DataW.trod enc Tryz.prog w base spare held n 4 [c9] = some y9 := by simpa [kc4] using hg 9 _ rfl
  obtain ⟨g, e0, _⟩ := DataW.trod_int Tryz.underlying3 h0
  obtain ⟨s, e1, _⟩ := DataW.trod_int Tryz.underlying3 h1
  obtain ⟨k, e2, _⟩ := DataW.trod_int Tryz.underlying23 h2
  obtain ⟨sz, e3, _⟩ := DataW.trod_int Tryz.underlying2 h3
  obtain ⟨sl, e4, _⟩ := DataW.trod_int Tryz.underlying2 h4
  obtain ⟨of, e5, _⟩ := DataW.trod_int Tryz.underlying2 h5
  obtain ⟨gp, e6, _⟩ := DataW.trod_int Tryz.underlying2 h6
  obtain ⟨lt, e7, _⟩ := DataW.trod_int Tryz.underlying2 h7
  obtain ⟨ea, e8, _⟩ := DataW.trod_int Tryz.underlying3 h8
  obtain ⟨b, e9, _⟩ := DataW.trod_bool Tryz.underlying4 h9
  simp only [List.cons.injEq, and_true] at e0 e1 e2 e3 e4 e5 e6 e7 e8 e9
  subst e0 e1 e2 e3 e4 e5 e6 e7 e8 e9
  exact ⟨g, s, k, sz, sl, of, gp, lt, ea, b, rfl⟩
theorem step_of {fuel : Nat} {cs : List Value} {x : DataW H × List MemPlace} (h : DataW.trod enc Tryz.prog w base spare held fuel 41 cs = some x) : ∃ y : St, cs = y.w ∧ y.ok := by
 obtain ⟨xs, n, _, _, hl, hlen, hg⟩ := DataW.trod_struct Tryz.underlying41 h
 match cs, hl.trans kc41, xs, hlen with
 | [c0, c1, c2, c3, c4, c5, c6, c7, c8, c9], _, [y0, y1, y2, y3, y4, y5], _ =>
  have h0 : DataW.trod enc Tryz.prog w base spare held n 35 [c0] = some y0 := by simpa [kc35] using hg 0 _ rfl
  have h1 : DataW.trod enc Tryz.prog w base spare held n 38 [c1, c2, c3, c4, c5] = some y1 := by simpa [kc38] using hg 1 _ rfl
  have h2 : DataW.trod enc Tryz.prog w base spare held n 3 [c6] = some y2 := by simpa [kc3] using hg 2 _ rfl
  have h3 : DataW.trod enc Tryz.prog w base spare held n 3 [c7] = some y3 := by simpa [kc3] using hg 3 _ rfl
  have h4 : DataW.trod enc Tryz.prog w base spare held n 3 [c8] = some y4 := by simpa [kc3] using hg 4 _ rfl
  have h5 : DataW.trod enc Tryz.prog w base spare held n 39 [c9] = some y5 := by simpa [kc39] using hg 5 _ rfl
  obtain ⟨xs1, n1, _, _, _, hlen1, hg1⟩ := DataW.trod_struct Tryz.underlying38 h1
  match xs1, hlen1 with
  | [z0, z1, z2, z3, z4], _ =>
   have k0 : DataW.trod enc Tryz.prog w base spare held n1 36 [c1] = some z0 := by simpa [kc36] using hg1 0 _ rfl
   have k1 : DataW.trod enc Tryz.prog w base spare held n1 9 [c2] = some z1 := by simpa [kc9] using hg1 1 _ rfl
   have k2 : DataW.trod enc Tryz.prog w base spare held n1 2 [c3] = some z2 := by simpa [kc2] using hg1 2 _ rfl
   have k3 : DataW.trod enc Tryz.prog w base spare held n1 2 [c4] = some z3 := by simpa [kc2] using hg1 3 _ rfl
   have k4 : DataW.trod enc Tryz.prog w base spare held n1 3 [c5] = some z4 := by simpa [kc3] using hg1 4 _ rfl
   obtain ⟨kd, e0, _, r0⟩ := DataW.trod_int Tryz.underlying35 h0
   obtain ⟨ik, e1, _, r1⟩ := DataW.trod_int Tryz.underlying36 k0
   obtain ⟨key, e2, _⟩ := DataW.trod_string Tryz.underlying9 k1
   obtain ⟨t, e3, _, r3⟩ := DataW.trod_int Tryz.underlying2 k2
   obtain ⟨v, e4, _, r4⟩ := DataW.trod_int Tryz.underlying2 k3
   obtain ⟨src, e5, _, r5⟩ := DataW.trod_int Tryz.underlying3 k4
   obtain ⟨wk, e6, _, r6⟩ := DataW.trod_int Tryz.underlying3 h2
   obtain ⟨wks, e7, _, r7⟩ := DataW.trod_int Tryz.underlying3 h3
   obtain ⟨bit, e8, _, r8⟩ := DataW.trod_int Tryz.underlying3 h4
   obtain ⟨mask, e9, _, r9⟩ := DataW.trod_int Tryz.underlying39 h5
   simp only [List.cons.injEq, and_true] at e0 e1 e2 e3 e4 e5 e6 e7 e8 e9
   subst e0 e1 e2 e3 e4 e5 e6 e7 e8 e9
   exact ⟨⟨kd, ik, key.data.toList, t, v, src, wk, wks, bit, mask⟩, rfl, ⟨wf_in r3, wf_in r4, wf_in r5, wf_in r6, wf_in r7, wf_in r8, wf_m r9⟩⟩
theorem stW_get {ls : List St} {i r : Nat} {x : St} {v : Value} (h : ls[i]? = some x) (hr : x.w[r]? = some v) : (stW ls)[i * 10 + r]? = some v := by
 induction ls generalizing i with
 | nil => cases h
 | cons y ls ih =>
  have hlt := (List.getElem?_eq_some_iff.1 hr).1
  rw [St.w_len] at hlt
  show (y.w ++ stW ls)[i * 10 + r]? = some v
  cases i with
  | zero =>
   cases h
   rw [List.getElem?_append_left (by rw [St.w_len]; omega)]
   simpa using hr
  | succ i =>
   rw [List.getElem?_append_right (by rw [St.w_len]; omega), St.w_len, show (i + 1) * 10 + r - 10 = i * 10 + r by omega]
   exact ih h
theorem stW_src {a : Addr} {ls : List St} (h : ∀ (i : Nat) (x : St), ls[i]? = some x → ∀ (r : Nat) (v : Value), x.w[r]? = some v → w.cell? ((a.add (i * 10)).add r) = some v) : Go.Sx.Src w a (stW ls) := fun j u hj => by
 have hlt := (List.getElem?_eq_some_iff.1 hj).1
 rw [stW_len] at hlt
 have hx : ls[j / 10]? = some ls[j / 10] := List.getElem?_eq_getElem (by omega)
 have hjj : j / 10 * 10 + j % 10 = j := by omega
 have hr : j % 10 < (ls[j / 10]).w.length := by rw [St.w_len]; omega
 have hg := stW_get hx (List.getElem?_eq_getElem hr)
 rw [hjj, hj] at hg
 have := h _ _ hx _ _ (List.getElem?_eq_getElem hr)
 rw [add_add, hjj] at this
 rw [this, hg]
theorem steps_of {fuel : Nat} {cs : List Value} {x : DataW H × List MemPlace} (h : DataW.trod enc Tryz.prog w base spare held fuel 26 cs = some x) :
  ∃ (A : Option Addr) (n c : Nat) (ls : List St), cs = [.slice A n c] ∧ SlS w A n ls ∧ (∀ p ∈ ls, p.ok) := by
 rcases open_slice Tryz.underlying26 h with ⟨hcs, hx⟩ | ⟨a, n, c, m, k, D, Pl, hcs, _, hl, _, hm, hx, hel⟩
 ·exact ⟨none, 0, 0, [], hcs, ⟨rfl, fun _ => rfl, fun a ha => (by cases ha)⟩, fun p hp => (by cases hp)⟩
 ·have hmn : n ≤ m := by rw [hm]; split <;> omega
  obtain ⟨f, hf⟩ := choose_lt (n := n) (p := fun i (y : St) => w.cells? base (a.add (i * 10)) 10 = some y.w ∧ y.ok) (fun i hi => by
   obtain ⟨cs', h1, h2⟩ := hel i (by omega)
   obtain ⟨y, rfl, hy⟩ := step_of h2
   rw [kc41] at h1
   exact ⟨y, h1, hy⟩)
  refine ⟨some a, n, c, (List.range n).map f, hcs, ⟨by simp, fun h => (by cases h), fun a' ha => ?_⟩, fun p hp => ?_⟩
  ·cases ha
   refine stW_src fun i y hy r v hv => ?_
   have hi : i < n := by
    have := (List.getElem?_eq_some_iff.1 hy).1
    simpa using this
   have he : y = f i := by
    rw [List.getElem?_map, List.getElem?_range hi] at hy
    simpa using hy.symm
   subst he
   have hr := (List.getElem?_eq_some_iff.1 hv).1
   rw [St.w_len] at hr
   rw [(World.cells?_some (hf i hi).1).2.2 r hr]
   exact hv
  ·obtain ⟨i, hi, rfl⟩ := List.mem_map.1 hp
   exact (hf i (List.mem_range.1 hi)).2
theorem open_script {r : Reach} {b0 : Nat} {v : Value} {d : DataW H} {p : List MemPlace} (hv : Value.okWide Tryz.prog w r b0 28 v) (h : DataW.Trod enc Tryz.prog w base spare held 28 v d p) :
  ∃ (g s k sz sl of gp lt ea : Int) (b : Bool) (wk : Int) (A : Option Addr) (n c : Nat) (xs : List St),
   v = .agg #[.int .i64 g, .int .i64 s, .int .i64 k, .int .i64 sz, .int .i64 sl, .int .i64 of, .int .i64 gp, .int .i64 lt, .int .i64 ea, .bool b, .int .i64 wk, .slice A n c] ∧ SlS w A n xs ∧ ∀ x ∈ xs, x.ok := by
 obtain ⟨cs, rfl, hsz⟩ := okWide_struct Tryz.underlying28 hv
 obtain ⟨l⟩ := cs
 obtain ⟨fuel, hf⟩ := h
 have hf' : DataW.trod enc Tryz.prog w base spare held fuel 28 l = some (d, p) := by simpa [Value.cells] using hf
 obtain ⟨xs, n, _, _, hl, hlen, hg⟩ := DataW.trod_struct Tryz.underlying28 hf'
 match l, hl.trans kc28, xs, hlen with
 | [c0, c1, c2, c3, c4, c5, c6, c7, c8, c9, c10, c11], _, [y0, y1, y2], _ =>
  have h0 : DataW.trod enc Tryz.prog w base spare held n 25 [c0, c1, c2, c3, c4, c5, c6, c7, c8, c9] = some y0 := by simpa [kc25] using hg 0 _ rfl
  have h1 : DataW.trod enc Tryz.prog w base spare held n 3 [c10] = some y1 := by simpa [kc3] using hg 1 _ rfl
  have h2 : DataW.trod enc Tryz.prog w base spare held n 26 [c11] = some y2 := by simpa [kc26] using hg 2 _ rfl
  obtain ⟨g, s, k, sz, sl, of, gp, lt, ea, b, e0⟩ := cfg_of h0
  obtain ⟨wk, e1, _⟩ := DataW.trod_int Tryz.underlying3 h1
  obtain ⟨A, m, c, ls, e2, hsl, hok⟩ := steps_of h2
  simp only [List.cons.injEq, and_true] at e0 e1 e2
  obtain ⟨rfl, rfl, rfl, rfl, rfl, rfl, rfl, rfl, rfl, rfl⟩ := e0
  subst e1 e2
  exact ⟨g, s, k, sz, sl, of, gp, lt, ea, b, wk, A, m, c, ls, rfl, hsl, hok⟩
end
end Go.Proofs.YthfpekhpeiebjaaGreatDoor
end
section
/- The lengths of steps handed in, by the reach. -/
set_option maxRecDepth 100000
namespace Go.Proofs.YthfpekhpeiebjaaGreatDoor
open Go.Joins Go.ChangeShapes Go.WideShapes Go.RowKit Go.Deep Go.Sx
section
variable {H : Type} {enc : TypeId × Value → H} {w : World} {base : Nat} {spare : Nat → Bool} {held : Bool}
theorem kb41 : Tryz.prog.bytesOf 41 = 88 := by kernel_rfl
theorem steps_sized {fuel n c : Nat} {A : Option Addr} {x : DataW H × List MemPlace} (h : DataW.trod enc Tryz.prog w base spare held fuel 26 [.slice A n c] = some x) (hsz : ∀ k ∈ x.1.weights Tryz.prog 26, k ≤ reachBytes) : n ≤ 1599289640354 := by
 rcases open_slice Tryz.underlying26 h with ⟨hcs, hx⟩ | ⟨a, len, cap, m, k, D, Pl, hcs, _, hl, _, hm, hx, hel⟩
 ·simp at hcs
  omega
 ·simp at hcs
  obtain ⟨rfl, rfl, rfl⟩ := hcs
  subst hx
  have := hsz (((List.range n).map D).length * 88 + ((List.range (m - n)).map fun j => D (n + j)).length * 88) (by
   simp only [DataW.weights, Tryz.underlying26, kb41, List.mem_cons, ← Nat.add_mul, true_or])
  simp only [List.length_map, List.length_range] at this
  have hr : reachBytes = 140737488351232 := rfl
  omega
theorem script_sized {g s k sz sl of gp lt ea : Int} {b : Bool} {wk : Int} {A : Option Addr} {n c : Nat} {d : DataW H} {p : List MemPlace} (h : DataW.Trod enc Tryz.prog w base spare held 28 (.agg #[.int .i64 g, .int .i64 s, .int .i64 k, .int .i64 sz, .int .i64 sl, .int .i64 of, .int .i64 gp, .int .i64 lt, .int .i64 ea, .bool b, .int .i64 wk, .slice A n c]) d p) (hsz : ∀ k ∈ d.weights Tryz.prog 28, k ≤ reachBytes) : n ≤ 1599289640354 := by
 obtain ⟨fuel, hf⟩ := h
 simp only [Value.cells] at hf
 obtain ⟨xs, f, _, hx, hl, hlen, hg⟩ := DataW.trod_struct Tryz.underlying28 hf
 match xs, hlen with
 | [y0, y1, y2], _ =>
  have h2 : DataW.trod enc Tryz.prog w base spare held f 26 [.slice A n c] = some y2 := by simpa [kc26] using hg 2 _ rfl
  refine steps_sized h2 fun q hq => hsz q ?_
  simp only [Prod.mk.injEq] at hx
  rw [hx.1]
  simp only [DataW.weights, Tryz.underlying28]
  exact DataW.weights_mem_each (j := 2) (by rfl) (by rfl) q hq
theorem open_steps {A : Option Addr} {n c : Nat} {d : DataW H} {p : List MemPlace} (h : DataW.Trod enc Tryz.prog w base spare held 26 (.slice A n c) d p) : ∃ ls : List St, SlS w A n ls ∧ ∀ x ∈ ls, x.ok := by
 obtain ⟨fuel, hf⟩ := h
 simp only [Value.cells] at hf
 obtain ⟨A', n', c', ls, hcs, h1, h2⟩ := steps_of hf
 simp at hcs
 obtain ⟨rfl, rfl, rfl⟩ := hcs
 exact ⟨ls, h1, h2⟩
theorem slice_sized {A : Option Addr} {n c : Nat} {d : DataW H} {p : List MemPlace} (h : DataW.Trod enc Tryz.prog w base spare held 26 (.slice A n c) d p) (hsz : ∀ k ∈ d.weights Tryz.prog 26, k ≤ reachBytes) : n ≤ 1599289640354 := by
 obtain ⟨fuel, hf⟩ := h
 simp only [Value.cells] at hf
 exact steps_sized (x := (d, p)) hf hsz
end
end Go.Proofs.YthfpekhpeiebjaaGreatDoor
end
section
namespace Go.Proofs.YthfpekhpeiebjaaGreatDoor
open Go.RowKit Go.Sx
section
variable {Q : Exit → Act → World → Prop} {N : Nat} {w0 : World} {ntm : Nat} [Md]
/-- A Builder behind the one local block. -/
def BldL (b r0 : Nat) (xs : List Value) (ρ : List Nat) (w : World) : Prop := BldV 85 5 b b xs ρ w ∧ (Tk [r0] ρ w ∧ r0 < b)
omit [Md] in
theorem BldL.stable {b r0 : Nat} {xs : List Value} : Stable (BldL b r0 xs) := fun ρ w ρ' w' hg hk ⟨h1, h2, h3⟩ => ⟨BldV.stable ρ w ρ' w' hg hk h1, Tk.stable ρ w ρ' w' hg hk h2, h3⟩
omit [Md] in
theorem BldL.fewer {b r0 : Nat} {xs : List Value} : FewerK 1 (BldL b r0 xs) := fun ρ w k hk ⟨h1, h2, h3⟩ => ⟨BldV.fewer ρ w k (Nat.zero_le _) h1, Tk.fewer (ρ1 := [r0]) ρ w k hk h2, h3⟩
theorem At.bldAlloc {s : S} (o : Oper) (ho : s.head? = some o) (hop : o.op = .alloc 85) (hd : s.dstOk ntm = true) (hp : s.plain = true) (hloc : s.loc.length = 1)
  (h : ∀ b r0, N ≤ b → At Tryz.prog Q N w0 ntm (BldL b r0 []) (s.tail ntm (.v (.pointer (some ⟨b, 0, none⟩))))) : At Tryz.prog Q N w0 ntm noF s := by
 refine At.opx o (fun x : Nat × Nat => .v (.pointer (some ⟨x.1, 0, none⟩))) (fun x ρ w => BldL x.1 x.2 [] ρ w ∧ N ≤ x.1) ho hd hp ?_ (fun x => At.pure fun hN => h x.1 x.2 hN)
 intro ρ a w hi _
 have hlen : ρ.length = 1 := by rw [hi.mem.len, hloc]
 obtain ⟨r0, rfl⟩ := List.length_eq_one_iff.1 hlen
 have hr0 := hi.mem.ge r0 (by simp)
 have hz : (Tryz.prog.info? 85).bind (·.zero) = some (.agg #[.pointer none, .slice none 0 0]) := by kernel_rfl
 obtain ⟨i, hi1, hi2⟩ := Option.bind_eq_some_iff.1 hz
 refine ⟨(w.heap.size, r0), w.alloc (.cells #[.pointer none, .slice none 0 0] 85), ?_, winv_alloc hi.mem _, ⟨⟨.pointer none, none, 0, 0, .inl rfl, ?_, Row.nil _ _ _ _ _, ?_, Nat.le_refl _⟩, rfl, hr0.2⟩, hi.mem.hN⟩
 ·obtain ⟨dst, op, ty, pos, after, guard⟩ := o
  simp only at hop
  subst hop
  simp only [execOp, Instr.alloc, zeroValue, typeInfo, run_program, hi1, hi2, newVar, newRow, SV.den, Sem.run_bind, Sem.run_pure, Result.andThen_ok, run_newObj, World.alloc]
  rfl
 ·rw [show (w.alloc (.cells #[.pointer none, .slice none 0 0] 85)).heap = w.heap.push (.cells #[.pointer none, .slice none 0 0] 85) from rfl]
  simp
 ·simp only [List.mem_singleton]
  omega
/-- A call that writes to the Builder, or reads it. -/
theorem At.factsL {s : S} {b r0 : Nat} {xs ys : List Value} (hN : N ≤ b) (g : FuncId) (vs : List SV) (r : SV) (hc : s.call? = some (g, vs)) (hb : bodied Tryz.prog g = true) (hd : s.dstOk ntm = true) (hp : s.plain = true) (hsc : scopedFr s.loc.length s.fr = true) (hloc : s.loc.length = 1)
  (hr : ∀ ρ w, WInv N w0 ρ s.loc w → BldV 85 5 b b xs [] w → b ≤ w.heap.size → Calls Tryz.prog g (SV.denL ρ vs).toArray w fun e' w' => e' = .returned (r.den ρ) ∧ BldV 85 5 b b ys [] w' ∧ Below b w w')
  (h : At Tryz.prog Q N w0 ntm (BldL b r0 ys) ((s.tail ntm r).withLoc s.loc)) : At Tryz.prog Q N w0 ntm (BldL b r0 xs) s := by
 refine At.callg (X := Unit) g vs (fun _ => r) (fun _ => s.loc) (fun _ => BldL b r0 ys) hc hb hd hp hsc ?_ (fun _ => h)
 intro ρ w hm ⟨hbv, htk, hlt⟩
 have hρ : ρ = [r0] := htk.eq (by rw [hm.len, hloc]; rfl)
 subst hρ
 have hbs : b ≤ w.heap.size := by
  obtain ⟨p, A, n, c, hp, hg⟩ := hbv
  have := hg.lt
  omega
 refine (hr [r0] w hm (BldV.fewer [r0] w 0 (Nat.zero_le _) hbv) hbs).mono ?_
 rintro e' w' ⟨rfl, hv, hbel⟩
 refine ⟨(), [r0], rfl, Grow.refl _ _, ⟨hm.below.trans (hbel.mono hN), Nat.le_trans hm.hN hbel.size, hm.len, hm.nodup, fun k hk => ⟨(hm.ge k hk).1, Nat.lt_of_lt_of_le (hm.ge k hk).2 hbel.size⟩, fun i c t hi => ?_⟩, ?_, htk, hlt⟩
 ·have hold := hm.cells i c t hi
  have hm1 : nth [r0] i ∈ [r0] := nth_mem (by rw [hm.len]; exact (List.getElem?_eq_some_iff.1 hi).1)
  rw [List.mem_singleton.1 hm1] at hold ⊢
  rw [hbel.block r0 hlt]
  exact hold
 ·obtain ⟨p, A, n, c, hp, hg1, hg2, hg3, hg4⟩ := hv
  refine ⟨p, A, n, c, hp, hg1, ⟨hg2.1, fun g hg hm2 => ?_⟩, ?_, hg4⟩
  ·have := (hg2.1.lt g hg).1
   rw [List.mem_singleton.1 hm2] at this
   omega
  ·simp only [List.mem_singleton]
   omega
/-- The last call on the Builder. -/
theorem At.factsN {s : S} {b r0 : Nat} {xs : List Value} (hN : N ≤ b) (g : FuncId) (vs : List SV) (r : SV) (hc : s.call? = some (g, vs)) (hb : bodied Tryz.prog g = true) (hd : s.dstOk ntm = true) (hp : s.plain = true) (hsc : scopedFr s.loc.length s.fr = true) (hloc : s.loc.length = 1)
  (hr : ∀ ρ w, WInv N w0 ρ s.loc w → BldV 85 5 b b xs [] w → b ≤ w.heap.size → Calls Tryz.prog g (SV.denL ρ vs).toArray w fun e' w' => e' = .returned (r.den ρ) ∧ Below b w w')
  (h : At Tryz.prog Q N w0 ntm noF ((s.tail ntm r).withLoc s.loc)) : At Tryz.prog Q N w0 ntm (BldL b r0 xs) s := by
 refine At.callg (X := Unit) g vs (fun _ => r) (fun _ => s.loc) (fun _ => noF) hc hb hd hp hsc ?_ (fun _ => h)
 intro ρ w hm ⟨hbv, htk, hlt⟩
 have hρ : ρ = [r0] := htk.eq (by rw [hm.len, hloc]; rfl)
 subst hρ
 have hbs : b ≤ w.heap.size := by
  obtain ⟨p, A, n, c, hp, hg⟩ := hbv
  have := hg.lt
  omega
 refine (hr [r0] w hm (BldV.fewer [r0] w 0 (Nat.zero_le _) hbv) hbs).mono ?_
 rintro e' w' ⟨rfl, hbel⟩
 refine ⟨(), [r0], rfl, Grow.refl _ _, ⟨hm.below.trans (hbel.mono hN), Nat.le_trans hm.hN hbel.size, hm.len, hm.nodup, fun k hk => ⟨(hm.ge k hk).1, Nat.lt_of_lt_of_le (hm.ge k hk).2 hbel.size⟩, fun i c t hi => ?_⟩, trivial⟩
 ·have hold := hm.cells i c t hi
  have hm1 : nth [r0] i ∈ [r0] := nth_mem (by rw [hm.len]; exact (List.getElem?_eq_some_iff.1 hi).1)
  rw [List.mem_singleton.1 hm1] at hold ⊢
  rw [hbel.block r0 hlt]
  exact hold
end
end Go.Proofs.YthfpekhpeiebjaaGreatDoor
end
section
namespace Go.Proofs.YthfpekhpeiebjaaGreatDoor
open Go.RowKit Go.Sx
noncomputable def B12 : Code := (Tryz.f12.body).getD .skip
/-- A script's text. -/
def scriptB (c : Cf) (wk : Int) (xs : List St) : List UInt8 := [106, 111, 98, 32] ++ c.text ++ [10, 119, 111, 114, 107, 101, 114, 115, 32] ++ Lib.itoa wk ++ [10] ++ xs.flatMap fun x => lineS x ++ [10]
def textP (c : Cf) (wk : Int) (xs : List St) : List UInt8 × Int := if (chkP c wk xs).2 = 0 then (scriptB c wk xs, 0) else ([], (chkP c wk xs).2)
theorem badI_none {c : Cf} : ∀ (xs : List St) (i : Nat), badI c xs i = none → ∀ x ∈ xs, mayB c x = true
 | [], _, _, x, hx => by simp at hx
 | y :: xs, i, h, x, hx => by
  simp only [badI] at h
  split at h
  ·rename_i hy
   rcases List.mem_cons.1 hx with rfl | hx
   ·exact hy
   ·exact badI_none xs (i + 1) h x hx
  ·cases h
theorem chk_ok {c : Cf} {wk : Int} {xs : List St} (h : (chkP c wk xs).2 = 0) : c.wr = 0 ∧ 1 ≤ wk ∧ wk ≤ c.g ∧ ∀ x ∈ xs, mayB c x = true := by
 unfold chkP at h
 split at h
 ·cases h
 ·rename_i h1
  split at h
  ·cases h
  ·rename_i h2
   refine ⟨Classical.not_not.1 h1, by omega, by omega, badI_none xs 0 ?_⟩
   cases hb : badI c xs 0 with
   | none => rfl
   | some i => rw [hb] at h; cases h
theorem mayB_key {c : Cf} {x : St} (h : mayB c x = true) : x.key.length ≤ 256 := by
 by_cases hk : x.kd = 1
 ·rw [mayB_1 hk] at h
  simp only [Bool.and_eq_true] at h
  have h5 := h.2.2.2.2
  unfold itB at h5
  split at h5
  ·simp only [Bool.and_eq_true, decide_eq_true_eq] at h5
   exact h5.1
  ·split at h5
   ·simp only [Bool.and_eq_true, decide_eq_true_eq] at h5
    rw [h5.2.2.2.1]
    simp
   ·split at h5
    ·simp only [Bool.and_eq_true, decide_eq_true_eq] at h5
     rw [h5.1]
     simp
    ·cases h5
 ·rw [mayB_n hk] at h
  simp only [Bool.and_eq_true, decide_eq_true_eq] at h
  rw [h.1.2.1]
  simp
theorem lineS_short {x : St} (hk : x.key.length ≤ 256) (ho : x.ok) : (lineS x).length ≤ 1100 := by
 obtain ⟨kd, ik, key, ti, v, src, wk, wks, bit, mask⟩ := x
 obtain ⟨i0, i1, i2, i3, i4, i5, i6⟩ := ho
 have hq0 := quote_short hk
 have hl0 := itoa_short i0
 have hl1 := itoa_short i1
 have hl2 := itoa_short i2
 have hl3 := itoa_short i3
 have hl4 := itoa_short i4
 have hl5 := itoa_short i5
 have hl6 := itoa_short (show in64 mask from ⟨by simp only at i6; omega, by simp only at i6; omega⟩)
 simp only at hq0 hl0 hl1 hl2 hl3 hl4 hl5 hl6
 unfold lineS
 simp only
 split
 ·split
  ·simp only [List.length_append, List.length_cons, List.length_nil]; omega
  ·split
   ·simp only [List.length_append, List.length_cons, List.length_nil]; omega
   ·simp
 ·split
  ·simp only [List.length_append, List.length_cons, List.length_nil]; omega
  ·split
   ·simp only [List.length_append, List.length_cons, List.length_nil]; omega
   ·split
    ·simp only [List.length_append, List.length_cons, List.length_nil]; omega
    ·simp
theorem ctext_ok {g s k sz sl of gp lt ea : Int} (h : wrongR g s k sz sl of gp lt ea = 0) (d : Bool) (w : World) (hw : Wd w) :
  Calls Tryz.prog 36 #[.agg #[.int .i64 g, .int .i64 s, .int .i64 k, .int .i64 sz, .int .i64 sl, .int .i64 of, .int .i64 gp, .int .i64 lt, .int .i64 ea, .bool d]] w fun e w' => e = .returned (.tuple #[.string (mkB (Cf.text ⟨g, s, k, sz, sl, of, gp, lt, ea, d⟩)), .int .i64 0]) ∧ Below w.heap.size w w' := by
 have hk := text_any g s k sz sl of gp lt ea d w hw.tab hw.tp
 rw [wrong_eq, h] at hk
 exact hk
theorem cells_head (X : List UInt8) : ([] : List Value) ++ Lib.strCells (mkB X) = Lib.byteCells X := by simp [Lib.byteCells, Lib.strCells, mkB]
theorem cells_two (a l : List UInt8) : Lib.byteCells a ++ Lib.strCells (mkB l) = Lib.byteCells (a ++ l) := by simp [Lib.byteCells, Lib.strCells, mkB]
theorem head_eq (c : Cf) (wk : Int) (xs : List St) : scriptB c wk (xs.take 0) = [106, 111, 98, 32] ++ c.text ++ [10, 119, 111, 114, 107, 101, 114, 115, 32] ++ Lib.itoa wk ++ [10] := by simp [scriptB]
theorem script_take {c : Cf} {wk : Int} {xs : List St} {i : Nat} {x : St} (h : xs[i]? = some x) : scriptB c wk (xs.take (i + 1)) = scriptB c wk (xs.take i) ++ (lineS x ++ [10]) := by
 rw [List.take_add_one, h]
 simp [scriptB]
theorem script_len {c : Cf} {wk : Int} {xs : List St} (h1 : c.text.length ≤ 1000) (h2 : (Lib.itoa wk).length ≤ 21) (h : ∀ x ∈ xs, (lineS x).length ≤ 1100) : (scriptB c wk xs).length ≤ 1100 + xs.length * 1101 := by
 have key : ∀ l : List St, (∀ x ∈ l, (lineS x).length ≤ 1100) → (l.flatMap fun x => lineS x ++ [10]).length ≤ l.length * 1101 := by
  intro l
  induction l with
  | nil => simp
  | cons x l ih =>
   intro hh
   have h3 := hh x (by simp)
   have h4 := ih (fun y hy => hh y (by simp [hy]))
   rw [List.flatMap_cons, List.length_append, List.length_append, List.length_cons (a := x)]
   simp only [List.length_cons, List.length_nil]
   omega
 have h5 := key xs h
 simp only [scriptB, List.length_append, List.length_cons, List.length_nil]
 omega
theorem bld_is {B b : Nat} {l : List UInt8} {w : World} (h : BldV 85 5 B b (Lib.byteCells l) [] w) : Lib.IsBuilder 85 5 B b (Lib.byteCells l) w := by
 obtain ⟨p, A, n, c, hp, hg⟩ := h
 have hn : (Lib.byteCells l).length = n * 1 := hg.2.1.1.1
 rw [Nat.mul_one] at hn
 have : Lib.BuilderAt 85 5 B b p (Lib.byteCells l) w := ⟨hg.2.2.2, .slice A n c, hg.1, by rw [hn]; exact hg.2.1.1, hg.own (by decide)⟩
 rcases hp with rfl | rfl
 ·exact .inl this
 ·exact .inr this
def frX (b : Nat) (A : Option Addr) (n cap : Nat) (i : Nat) : Fr := [(8, .v (.pointer (some ⟨b, 0, none⟩))), (35, .sl A n cap), (36, .io .i64 (n : Int)), (37, .io .i64 (i : Int))]
def GT (b r0 : Nat) (c : Cf) (wk : Int) (xs : List St) (i : Nat) (ρ : List Nat) (w : World) : Prop := BldL b r0 (Lib.byteCells (scriptB c wk (xs.take i))) ρ w ∧ i ≤ xs.length
set_option maxHeartbeats 8000000 in
set_option maxRecDepth 100000 in
theorem text_go (g s k sz sl of gp lt ea : Int) (d : Bool) (wk : Int) (A : Option Addr) (n cap : Nat) (xs : List St) (w : World) (hw : Wd w) (hS : SlS w A n xs) (hn : n ≤ 300) (hok : ∀ x ∈ xs, x.ok) :
  Calls Tryz.prog 12 #[.agg #[.int .i64 g, .int .i64 s, .int .i64 k, .int .i64 sz, .int .i64 sl, .int .i64 of, .int .i64 gp, .int .i64 lt, .int .i64 ea, .bool d, .int .i64 wk, .slice A n cap]] w fun e w' => e = .returned (.tuple #[.string (mkB (textP ⟨g, s, k, sz, sl, of, gp, lt, ea, d⟩ wk xs).1), .int .i64 (textP ⟨g, s, k, sz, sl, of, gp, lt, ea, d⟩ wk xs).2]) ∧ Below w.heap.size w w' := by
 have hl := hS.1
 refine enter (fn := Tryz.f12) (c := B12) [.agg (cwAM g s k sz sl of gp lt ea d wk A n cap)] Tryz.func12 rfl rfl ?_
 refine At.to (noF_stable) (noF_fewer) 0 300 [1, 12] 1 ⟨pops B12 [1, 0, 0] 1, [.seq (sub B12 [1, 0, 1]), .seq (sub B12 [1, 1])], [(1, .lp 0 0), (12, .agg (cwAM g s k sz sl of gp lt ea d wk A n cap))], [((cwAM g s k sz sl of gp lt ea d wk A n cap), 28)]⟩ (by kernel_rfl) (by kernel_rfl) ?_
 by_cases hc : (chkP ⟨g, s, k, sz, sl, of, gp, lt, ea, d⟩ wk xs).2 = 0
 ·refine At.call noF_stable 13 [.agg (cwAM g s k sz sl of gp lt ea d wk A n cap)] (.tup [.io .i64 (chkP ⟨g, s, k, sz, sl, of, gp, lt, ea, d⟩ wk xs).1, .v (.int .i64 0)]) (by kernel_rfl) (by kernel_rfl) (by kernel_rfl) (fun _ _ w1 hi _ => (check_kit ⟨g, s, k, sz, sl, of, gp, lt, ea, d⟩ wk A n cap xs w1 (hS.below hi.mem.below) (by omega)).mono fun e w2 h => ⟨h.1.trans (by rw [hc]; rfl), h.2⟩) ?_
  obtain ⟨hwr, hw1, hw2, hmay⟩ := chk_ok hc
  rw [show textP ⟨g, s, k, sz, sl, of, gp, lt, ea, d⟩ wk xs = (scriptB ⟨g, s, k, sz, sl, of, gp, lt, ea, d⟩ wk xs, 0) from if_pos hc]
  refine At.to (noF_stable) (noF_fewer) 0 300 [1, 21] 1 ⟨pops B12 [1, 1, 0] 2, [.seq (sub B12 [1, 1, 1])], [(1, .lp 0 0), (21, .agg (cfAM g s k sz sl of gp lt ea d))], [((cwAM g s k sz sl of gp lt ea d wk A n cap), 28)]⟩ (by kernel_rfl) (by kernel_rfl) ?_
  have hw0 : wrongR g s k sz sl of gp lt ea = 0 := hwr
  refine At.call noF_stable 36 [.agg (cfAM g s k sz sl of gp lt ea d)] (.tup [.so (mkB (Cf.text ⟨g, s, k, sz, sl, of, gp, lt, ea, d⟩)), .v (.int .i64 0)]) (by kernel_rfl) (by kernel_rfl) (by kernel_rfl) (fun _ _ w1 hi _ => ctext_ok hw0 d w1 (hw.below hi.mem.below)) ?_
  refine At.to (noF_stable) (noF_fewer) 0 9 [1, 6] 1 ⟨pops B12 [1, 1, 1, 0] 0, [.seq (sub B12 pAM9)], [(1, .lp 0 0), (6, .so (mkB (Cf.mk g s k sz sl of gp lt ea d).text))], [((cwAM g s k sz sl of gp lt ea d wk A n cap), 28)]⟩ (by kernel_rfl) (by kernel_rfl) ?_
  have htl : (Cf.text ⟨g, s, k, sz, sl, of, gp, lt, ea, d⟩).length ≤ 1000 := textW_short hw0 d
  have hg1 := (valid_of hw0).1
  have hi64 : in64 wk := by
   have := hw2
   simp only at this
   constructor <;> omega
  have hitl := itoa_short hi64
  refine At.bldAlloc (((opsOf (sub B12 [1, 1, 1, 0])).toList[0]?).getD default) (by kernel_rfl) (by kernel_rfl) (by kernel_rfl) (by kernel_rfl) rfl (fun b r0 hNb => ?_)
  refine At.toJ (BldL.stable) BldL.fewer 0 300 [1, 8, 25] 1 ⟨pops B12 pAM7 1, [.seq (sub B12 pAM8)], [(1, .lp 0 0), (8, .v (.pointer (some (Addr.mk b 0 none)))), (25, .so (mkB (Cf.mk g s k sz sl of gp lt ea d).text))], [((cwAM g s k sz sl of gp lt ea d wk A n cap), 28)]⟩ (by kernel_rfl) (by kernel_rfl) ?_
  refine catX ([106, 111, 98, 32] : List UInt8) (Cf.mk g s k sz sl of gp lt ea d).text (by kernel_rfl) (by simp only [List.length_append, List.length_cons, List.length_nil]; omega) BldL.stable ?_
  refine At.toJ (BldL.stable) BldL.fewer 0 300 [1, 8, 26] 1 ⟨pops B12 pAM7 2, [.seq (sub B12 pAM8)], [(1, .lp 0 0), (8, .v (.pointer (some (Addr.mk b 0 none)))), (26, .so (mkB ([106, 111, 98, 32] ++ (Cf.mk g s k sz sl of gp lt ea d).text)))], [((cwAM g s k sz sl of gp lt ea d wk A n cap), 28)]⟩ (by kernel_rfl) (by kernel_rfl) ?_
  refine catX ([106, 111, 98, 32] ++ (Cf.mk g s k sz sl of gp lt ea d).text) ([10, 119, 111, 114, 107, 101, 114, 115, 32] : List UInt8) (by kernel_rfl) (by simp only [List.length_append, List.length_cons, List.length_nil]; omega) BldL.stable ?_
  refine At.toJ (BldL.stable) BldL.fewer 0 300 [1, 8, 27, 29] 1 ⟨pops B12 pAM7 5, [.seq (sub B12 pAM8)], [(1, .lp 0 0), (8, .v (.pointer (some (Addr.mk b 0 none)))), (27, .so (mkB ([106, 111, 98, 32] ++ (Cf.mk g s k sz sl of gp lt ea d).text ++ [10, 119, 111, 114, 107, 101, 114, 115, 32]))), (29, .io .i64 wk)], [((cwAM g s k sz sl of gp lt ea d wk A n cap), 28)]⟩ (by kernel_rfl) (by kernel_rfl) ?_
  refine At.call BldL.stable 38 [.io .i64 wk] (.so (mkB (Lib.itoa wk))) (by kernel_rfl) (by kernel_rfl) (by kernel_rfl) (fun _ _ w1 hi _ => itoa_any wk hi64 w1 (tab_below hw.tp hi.mem.below rfl)) ?_
  refine At.toJ (BldL.stable) BldL.fewer 0 300 [1, 8, 27, 30] 1 ⟨pops B12 pAM7 6, [.seq (sub B12 pAM8)], [(1, .lp 0 0), (8, .v (.pointer (some (Addr.mk b 0 none)))), (27, .so (mkB ([106, 111, 98, 32] ++ (Cf.mk g s k sz sl of gp lt ea d).text ++ [10, 119, 111, 114, 107, 101, 114, 115, 32]))), (30, .so (mkB (Lib.itoa wk)))], [((cwAM g s k sz sl of gp lt ea d wk A n cap), 28)]⟩ (by kernel_rfl) (by kernel_rfl) ?_
  refine catX ([106, 111, 98, 32] ++ (Cf.mk g s k sz sl of gp lt ea d).text ++ [10, 119, 111, 114, 107, 101, 114, 115, 32]) (Lib.itoa wk) (by kernel_rfl) (by simp only [List.length_append, List.length_cons, List.length_nil]; omega) BldL.stable ?_
  refine At.toJ (BldL.stable) BldL.fewer 0 300 [1, 8, 31] 1 ⟨pops B12 pAM7 7, [.seq (sub B12 pAM8)], [(1, .lp 0 0), (8, .v (.pointer (some (Addr.mk b 0 none)))), (31, .so (mkB ([106, 111, 98, 32] ++ (Cf.mk g s k sz sl of gp lt ea d).text ++ [10, 119, 111, 114, 107, 101, 114, 115, 32] ++ Lib.itoa wk)))], [((cwAM g s k sz sl of gp lt ea d wk A n cap), 28)]⟩ (by kernel_rfl) (by kernel_rfl) ?_
  refine catX ([106, 111, 98, 32] ++ (Cf.mk g s k sz sl of gp lt ea d).text ++ [10, 119, 111, 114, 107, 101, 114, 115, 32] ++ Lib.itoa wk) ([10] : List UInt8) (by kernel_rfl) (by simp only [List.length_append, List.length_cons, List.length_nil]; omega) BldL.stable ?_
  refine At.toJ (BldL.stable) BldL.fewer 0 300 [1, 8, 32] 1 ⟨pops B12 pAM7 8, [.seq (sub B12 pAM8)], [(1, .lp 0 0), (8, .v (.pointer (some (Addr.mk b 0 none)))), (32, .so (mkB ([106, 111, 98, 32] ++ (Cf.mk g s k sz sl of gp lt ea d).text ++ [10, 119, 111, 114, 107, 101, 114, 115, 32] ++ Lib.itoa wk ++ [10])))], [((cwAM g s k sz sl of gp lt ea d wk A n cap), 28)]⟩ (by kernel_rfl) (by kernel_rfl) ?_
  refine At.factsL (ys := [] ++ Lib.strCells (mkB (([106, 111, 98, 32] ++ (Cf.mk g s k sz sl of gp lt ea d).text ++ [10, 119, 111, 114, 107, 101, 114, 115, 32] ++ Lib.itoa wk ++ [10])))) hNb 37 [.v (.pointer (some ⟨b, 0, none⟩)), .so (mkB (([106, 111, 98, 32] ++ (Cf.mk g s k sz sl of gp lt ea d).text ++ [10, 119, 111, 114, 107, 101, 114, 115, 32] ++ Lib.itoa wk ++ [10])))] (.tup [.io .i64 ((mkB (([106, 111, 98, 32] ++ (Cf.mk g s k sz sl of gp lt ea d).text ++ [10, 119, 111, 114, 107, 101, 114, 115, 32] ++ Lib.itoa wk ++ [10]))).size : Int), .v .nilIface]) (by kernel_rfl) (by kernel_rfl) (by kernel_rfl) (by kernel_rfl) (by kernel_rfl) rfl (fun ρ w1 hm hf hb => wstr_any (mkB (([106, 111, 98, 32] ++ (Cf.mk g s k sz sl of gp lt ea d).text ++ [10, 119, 111, 114, 107, 101, 114, 115, 32] ++ Lib.itoa wk ++ [10]))) w1 hf hb (by rw [mkB_size]; simp only [List.length_append, List.length_cons, List.length_nil]; omega)) ?_
  refine At.mono (F' := BldL b r0 (Lib.byteCells (scriptB ⟨g, s, k, sz, sl, of, gp, lt, ea, d⟩ wk (xs.take 0)))) (fun ρ w1 h => by rw [cells_head] at h; rw [head_eq]; exact h) ?_
  refine At.toJ (BldL.stable) BldL.fewer 0 300 [8, 35, 36, 37] 1 ⟨.code (sub B12 [1, 1, 1, 1, 1, 0, 1, 4]), [.block 0, .seq (sub B12 pAM6)], [(8, .v (.pointer (some (Addr.mk b 0 none)))), (35, .sl A n cap), (36, .io .i64 (↑n : Int)), (37, .v (.int .i64 0))], [((cwAM g s k sz sl of gp lt ea d wk A n cap), 28)]⟩ (by kernel_rfl) (by kernel_rfl) ?_
  refine At.canonT [37] _ rfl ?_
  refine At.loop (σ := Nat) (sub B12 [1, 1, 1, 1, 1, 0, 1, 4, 4]) (frX b A n cap) (locC ⟨g, s, k, sz, sl, of, gp, lt, ea, d⟩ wk A n cap) (GT b r0 ⟨g, s, k, sz, sl, of, gp, lt, ea, d⟩ wk xs) (fun i => n - i) 0 (by kernel_rfl) (by unfold subFr; kernel_rfl) (by kernel_rfl) (fun _ _ _ _ h => ⟨h, Nat.zero_le _⟩) ?_
  intro i
  refine At.pure fun h2 => ?_
  refine At.toJ (BldL.stable) BldL.fewer 0 300 [8, 35, 36, 37, 38] 1 ⟨.code (sub B12 [1, 1, 1, 1, 1, 0, 1, 4, 4, 1, 0]), [.seq (sub B12 [1, 1, 1, 1, 1, 0, 1, 4, 4, 1, 1]), .next (Sx.Next w.heap.size w Tryz.f12.ntmps (frX b A n cap) (locC (Cf.mk g s k sz sl of gp lt ea d) wk A n cap) (GT b r0 (Cf.mk g s k sz sl of gp lt ea d) wk xs) (fun i => n - i) i), .block 0, .seq (sub B12 pAM6)], [(8, .v (.pointer (some (Addr.mk b 0 none)))), (35, .sl A n cap), (36, .io .i64 (↑n : Int)), (37, .io .i64 (↑i : Int)), (38, .bo (decide ((↑i : Int) < (↑n : Int))))], [((cwAM g s k sz sl of gp lt ea d wk A n cap), 28)]⟩ (by kernel_rfl) (by kernel_rfl) ?_
  rcases Bool.eq_false_or_eq_true (decide ((↑i : Int) < (↑n : Int))) with b0 | b0
  ·refine At.res 38 (decide ((↑i : Int) < (↑n : Int))) true (by kernel_rfl) b0 ?_
   refine At.toJ (BldL.stable) BldL.fewer 0 300 [8, 35, 36, 37] 1 ⟨pops B12 [1, 1, 1, 1, 1, 0, 1, 4, 4, 1, 1, 0, 4, 0] 0, [.seq (sub B12 pAM1), .block 1, .seq (sub B12 pAM3), .next (Sx.Next w.heap.size w Tryz.f12.ntmps (frX b A n cap) (locC (Cf.mk g s k sz sl of gp lt ea d) wk A n cap) (GT b r0 (Cf.mk g s k sz sl of gp lt ea d) wk xs) (fun i => n - i) i), .block 0, .seq (sub B12 pAM6)], [(8, .v (.pointer (some (Addr.mk b 0 none)))), (35, .sl A n cap), (36, .io .i64 (↑n : Int)), (37, .io .i64 (↑i : Int))], [((cwAM g s k sz sl of gp lt ea d wk A n cap), 28)]⟩ (by kernel_rfl) (by kernel_rfl) ?_
   have hi : i < n := by have := of_decide_eq_true b0; omega
   clear b0
   obtain ⟨x, hx⟩ : ∃ x, xs[i]? = some x := ⟨_, List.getElem?_eq_getElem (by rw [← hS.1]; exact hi)⟩
   obtain ⟨a, rfl, hcell⟩ := hS.get hx
   have hxm := List.mem_of_getElem? hx
   have hxk := mayB_key (hmay x hxm)
   have hxo := hok x hxm
   have hxl := lineS_short hxk hxo
   have htake : scriptB ⟨g, s, k, sz, sl, of, gp, lt, ea, d⟩ wk (xs.take (i + 1)) = scriptB ⟨g, s, k, sz, sl, of, gp, lt, ea, d⟩ wk (xs.take i) ++ (lineS x ++ [10]) := script_take hx
   have hsl := script_len (c := ⟨g, s, k, sz, sl, of, gp, lt, ea, d⟩) (wk := wk) (xs := xs.take i) htl hitl (fun y hy => lineS_short (mayB_key (hmay y (List.mem_of_mem_take hy))) (hok y (List.mem_of_mem_take hy)))
   have htl2 : (xs.take i).length ≤ 300 := by rw [List.length_take]; omega
   obtain ⟨kd, ik, key, ti, v, src, wk2, wks, bit, mask⟩ := x
   refine At.idx a n 10 (i : Int) (by kernel_rfl) (by omega) (by omega) BldL.stable ?_
   refine At.lda (a.add ((i : Int).toNat * 10)) 10 [.io .i64 kd, .io .i64 ik, .so (mkB key), .io .i64 ti, .io .i64 v, .io .i64 src, .io .i64 wk2, .io .i64 wks, .io .i64 bit, .io .u32 mask] (by kernel_rfl) rfl BldL.stable (fun ρ w1 hm' hf j v2 hj => cell_below (hcell j v2 hj) hm'.below) ?_
   refine At.toJ (BldL.stable) BldL.fewer 0 300 [8, 35, 36, 37, 41] 1 ⟨pops B12 pAM1 1, [.block 1, .seq (sub B12 pAM3), .next (Sx.Next w.heap.size w Tryz.f12.ntmps (frX b (some a) n cap) (locC (Cf.mk g s k sz sl of gp lt ea d) wk (some a) n cap) (GT b r0 (Cf.mk g s k sz sl of gp lt ea d) wk xs) (fun i => n - i) i), .block 0, .seq (sub B12 pAM6)], [(8, .v (.pointer (some (Addr.mk b 0 none)))), (35, .sl (some a) n cap), (36, .io .i64 (↑n : Int)), (37, .io .i64 (↑i : Int)), (41, .agg [.io .i64 kd, .io .i64 ik, .so (mkB key), .io .i64 ti, .io .i64 v, .io .i64 src, .io .i64 wk2, .io .i64 wks, .io .i64 bit, .io IntKind.u32 mask])], [((cwAM g s k sz sl of gp lt ea d wk (some a) n cap), 28)]⟩ (by kernel_rfl) (by kernel_rfl) ?_
   refine At.call BldL.stable 39 [.agg [.io .i64 kd, .io .i64 ik, .so (mkB key), .io .i64 ti, .io .i64 v, .io .i64 src, .io .i64 wk2, .io .i64 wks, .io .i64 bit, .io .u32 mask]] (.so (mkB (lineS ⟨kd, ik, key, ti, v, src, wk2, wks, bit, mask⟩))) (by kernel_rfl) (by kernel_rfl) (by kernel_rfl) (fun _ _ w1 hi _ => line_go kd ik key ti v src wk2 wks bit mask hxk hxo.1 hxo.2.1 hxo.2.2.1 hxo.2.2.2.1 hxo.2.2.2.2.1 hxo.2.2.2.2.2.1 hxo.2.2.2.2.2.2 w1 (tab_below hw.tp hi.mem.below rfl)) ?_
   refine At.toJ (BldL.stable) BldL.fewer 0 300 [8, 35, 36, 37, 42] 1 ⟨pops B12 pAM1 2, [.block 1, .seq (sub B12 pAM3), .next (Sx.Next w.heap.size w Tryz.f12.ntmps (frX b (some a) n cap) (locC (Cf.mk g s k sz sl of gp lt ea d) wk (some a) n cap) (GT b r0 (Cf.mk g s k sz sl of gp lt ea d) wk xs) (fun i => n - i) i), .block 0, .seq (sub B12 pAM6)], [(8, .v (.pointer (some (Addr.mk b 0 none)))), (35, .sl (some a) n cap), (36, .io .i64 (↑n : Int)), (37, .io .i64 (↑i : Int)), (42, .so (mkB (lineS (St.mk kd ik key ti v src wk2 wks bit mask))))], [((cwAM g s k sz sl of gp lt ea d wk (some a) n cap), 28)]⟩ (by kernel_rfl) (by kernel_rfl) ?_
   refine catX (lineS ⟨kd, ik, key, ti, v, src, wk2, wks, bit, mask⟩) ([10] : List UInt8) (by kernel_rfl) (by simp only [List.length_cons, List.length_nil]; omega) BldL.stable ?_
   refine At.toJ (BldL.stable) BldL.fewer 0 300 [8, 35, 36, 37, 43] 1 ⟨pops B12 pAM1 3, [.block 1, .seq (sub B12 pAM3), .next (Sx.Next w.heap.size w Tryz.f12.ntmps (frX b (some a) n cap) (locC (Cf.mk g s k sz sl of gp lt ea d) wk (some a) n cap) (GT b r0 (Cf.mk g s k sz sl of gp lt ea d) wk xs) (fun i => n - i) i), .block 0, .seq (sub B12 pAM6)], [(8, .v (.pointer (some (Addr.mk b 0 none)))), (35, .sl (some a) n cap), (36, .io .i64 (↑n : Int)), (37, .io .i64 (↑i : Int)), (43, .so (mkB (lineS (St.mk kd ik key ti v src wk2 wks bit mask) ++ [10])))], [((cwAM g s k sz sl of gp lt ea d wk (some a) n cap), 28)]⟩ (by kernel_rfl) (by kernel_rfl) ?_
   refine At.factsL (ys := Lib.byteCells (scriptB ⟨g, s, k, sz, sl, of, gp, lt, ea, d⟩ wk (xs.take i)) ++ Lib.strCells (mkB (lineS ⟨kd, ik, key, ti, v, src, wk2, wks, bit, mask⟩ ++ [10]))) hNb 37 [.v (.pointer (some ⟨b, 0, none⟩)), .so (mkB (lineS ⟨kd, ik, key, ti, v, src, wk2, wks, bit, mask⟩ ++ [10]))] (.tup [.io .i64 ((mkB (lineS ⟨kd, ik, key, ti, v, src, wk2, wks, bit, mask⟩ ++ [10])).size : Int), .v .nilIface]) (by kernel_rfl) (by kernel_rfl) (by kernel_rfl) (by kernel_rfl) (by kernel_rfl) rfl (fun ρ w1 hm hf hb => wstr_any (mkB (lineS ⟨kd, ik, key, ti, v, src, wk2, wks, bit, mask⟩ ++ [10])) w1 hf hb (by rw [mkB_size, Lib.byteCells_length]; simp only [List.length_append, List.length_cons, List.length_nil]; omega)) ?_
   refine At.toJ (BldL.stable) BldL.fewer 0 300 [8, 35, 36, 37] 1 ⟨.exit .normal, [.next (Sx.Next w.heap.size w Tryz.f12.ntmps (frX b (some a) n cap) (locC (Cf.mk g s k sz sl of gp lt ea d) wk (some a) n cap) (GT b r0 (Cf.mk g s k sz sl of gp lt ea d) wk xs) (fun i => n - i) i), .block 0, .seq (sub B12 pAM6)], [(8, .v (.pointer (some (Addr.mk b 0 none)))), (35, .sl (some a) n cap), (36, .io .i64 (↑n : Int)), (37, .io .i64 (IntKind.i64.wrap ((↑i : Int) + 1)))], [((cwAM g s k sz sl of gp lt ea d wk (some a) n cap), 28)]⟩ (by kernel_rfl) (by kernel_rfl) ?_
   have hw3 : IntKind.i64.wrap ((i : Int) + 1) = ((i + 1 : Nat) : Int) := by
    rw [wrap63 (by omega) (by omega)]
    omega
   rw [hw3]
   refine At.next (σ := Nat) (i + 1) rfl rfl (by unfold subFr; kernel_rfl) (by kernel_rfl) ?_ ?_
   ·intro ρ a' w' hi' hf
    exact ⟨by rw [htake, ← cells_two]; exact hf, by omega⟩
   ·show n - (i + 1) < n - i
    omega
  ·refine At.res 38 (decide ((↑i : Int) < (↑n : Int))) false (by kernel_rfl) b0 ?_
   refine At.toJ (BldL.stable) BldL.fewer 0 300 [8] 1 ⟨pops B12 [1, 1, 1, 1, 1, 1, 0] 0, [.seq (sub B12 [1, 0, 1, 1, 2, 1])], [(8, .v (.pointer (some (Addr.mk b 0 none))))], [((cwAM g s k sz sl of gp lt ea d wk A n cap), 28)]⟩ (by kernel_rfl) (by kernel_rfl) ?_
   have hi : ¬ (i : Int) < (n : Int) := of_decide_eq_false b0
   rw [List.take_of_length_le (by rw [← hS.1]; omega)]
   refine At.factsN hNb 40 [.v (.pointer (some ⟨b, 0, none⟩))] (.so (mkB (scriptB ⟨g, s, k, sz, sl, of, gp, lt, ea, d⟩ wk xs))) (by kernel_rfl) (by kernel_rfl) (by kernel_rfl) (by kernel_rfl) (by kernel_rfl) rfl (fun ρ w1 hm hf hb => (Tryz.Builder_String_any b b (scriptB ⟨g, s, k, sz, sl, of, gp, lt, ea, d⟩ wk xs) w1 (bld_is hf) hb).mono fun e w2 h => ⟨h.1, h.2⟩) ?_
   refine At.to (noF_stable) (noF_fewer) 0 300 [2, 3] 0 ⟨.exit .ret, [], [(2, .so (mkB (scriptB (Cf.mk g s k sz sl of gp lt ea d) wk xs))), (3, .v (.int .i64 0))], []⟩ (by kernel_rfl) (by kernel_rfl) ?_
   refine At.ret (by kernel_rfl) (.tup [.so (mkB (scriptB (Cf.mk g s k sz sl of gp lt ea d) wk xs)), .v (.int .i64 0)]) (by kernel_rfl) ?_
   intro ρ w9 hm' hf
   exact ⟨rfl, hm'.below⟩
 ·refine At.call noF_stable 13 [.agg (cwAM g s k sz sl of gp lt ea d wk A n cap)] (.tup [.io .i64 (chkP ⟨g, s, k, sz, sl, of, gp, lt, ea, d⟩ wk xs).1, .io .i64 (chkP ⟨g, s, k, sz, sl, of, gp, lt, ea, d⟩ wk xs).2]) (by kernel_rfl) (by kernel_rfl) (by kernel_rfl) (fun _ _ w1 hi _ => check_kit ⟨g, s, k, sz, sl, of, gp, lt, ea, d⟩ wk A n cap xs w1 (hS.below hi.mem.below) (by omega)) ?_
  rw [show textP ⟨g, s, k, sz, sl, of, gp, lt, ea, d⟩ wk xs = ([], (chkP ⟨g, s, k, sz, sl, of, gp, lt, ea, d⟩ wk xs).2) from if_neg hc]
  refine At.to (noF_stable) (noF_fewer) 0 300 [1, 5, 17] 1 ⟨.code (sub B12 [1, 0, 1, 1]), [.seq (sub B12 [1, 1])], [(1, .lp 0 0), (5, .io .i64 (chkP (Cf.mk g s k sz sl of gp lt ea d) wk xs).snd), (17, .bo ((chkP (Cf.mk g s k sz sl of gp lt ea d) wk xs).snd != 0))], [((cwAM g s k sz sl of gp lt ea d wk A n cap), 28)]⟩ (by kernel_rfl) (by kernel_rfl) ?_
  refine At.res 17 ((chkP (Cf.mk g s k sz sl of gp lt ea d) wk xs).snd != 0) true (by kernel_rfl) (by first | assumption | (simp only [*]; done) | (simp [*]; done)) ?_
  refine At.to (noF_stable) (noF_fewer) 0 300 [2, 3] 0 ⟨.exit .ret, [], [(2, .v (.string (ByteArray.mk #[]))), (3, .io .i64 (chkP (Cf.mk g s k sz sl of gp lt ea d) wk xs).snd)], []⟩ (by kernel_rfl) (by kernel_rfl) ?_
  refine At.ret (by kernel_rfl) (.tup [.v (.string (ByteArray.mk #[])), .io .i64 (chkP (Cf.mk g s k sz sl of gp lt ea d) wk xs).snd]) (by kernel_rfl) ?_
  intro ρ w9 hm' hf
  exact ⟨rfl, hm'.below⟩
end Go.Proofs.YthfpekhpeiebjaaGreatDoor
end
section
/-! In a region that draws its order: an operation that looks at memory, taken ahead of those that leave what was there as it was. -/
namespace Go.Sx
open Go.RowKit
section
variable {P : Program} {Q : Exit → Act → World → Prop} {N : Nat} {w0 : World} {ntm : Nat} {F : List Nat → World → Prop}
theorem run_buildSlice_ok {t : TypeId} {len : Nat} {parts : Array (Nat × Value)} {v : Value} {w w' : World} (h : (Instr.buildSlice t len parts).run P w = .ok v w') : ∃ o, w' = w.alloc o := by
 unfold Instr.buildSlice at h
 cases hu : P.underlying t with
 | none => simp [underlying, hu, Result.andThen] at h
 | some d =>
  cases d
  case slice e =>
   cases hi : P.info? e with
   | none => simp [run_underlying hu, sizeOf, typeInfo, hi, Result.andThen] at h
   | some i =>
    simp only [Sem.run_bind, run_underlying hu, sizeOf, typeInfo, run_program, hi, Result.andThen_ok, Sem.run_pure] at h
    by_cases hbig : len * i.size > 2 ^ 24
    ·rw [if_pos hbig] at h
     simp [Result.andThen] at h
    ·rw [if_neg hbig] at h
     by_cases h0 : len * i.size = 0
     ·rw [if_pos h0] at h
      simp only [Sem.run_bind, Sem.run_pure, Result.andThen_ok] at h
      split at h
      ·simp [newRow, Result.andThen] at h
       exact ⟨_, h.2.symm⟩
      ·simp [Result.andThen] at h
     ·rw [if_neg h0] at h
      cases hz : i.zero with
      | none => simp [zeroValue, typeInfo, run_program, hi, hz, Result.andThen] at h
      | some z =>
       simp only [Sem.run_bind, zeroValue, typeInfo, run_program, hi, hz, Sem.run_pure, Result.andThen_ok] at h
       split at h
       ·simp [newRow, Result.andThen] at h
        exact ⟨_, h.2.symm⟩
       ·simp [Result.andThen] at h
  all_goals simp [run_underlying hu, Result.andThen] at h
/-- They hang on number i: each has an edge to it, or to another of them. -/
def hangs (all : Array Oper) (L : Array Bool) (i : Nat) (ds : List Nat) : Bool := ds.all fun k => !L.getD k true && (match all[k]? with
 | some o => o.after.toList.any fun e => Region.binds .any e && (Nat.beq e.on i || ds.contains e.on)
 | none => false)
def isBS (o : Oper) : Bool := match o.op with
 | .buildSlice .. => true
 | _ => false
theorem isBS_run {o : Oper} {a : Act} {w w' : World} {n : Go.Next} (h : isBS o = true) (hr : (execOp a.eval o).run P w = .ok n w') : ∃ v ob, n = .value v ∧ w' = w.alloc ob := by
 obtain ⟨dst, op, ty, pos, after, guard⟩ := o
 cases op <;> simp only [isBS] at h <;> try (cases h; done)
 rename_i t len parts
 simp only [execOp, Sem.run_bind] at hr
 generalize hq : (Instr.buildSlice t len (parts.map fun x => (x.1, a.eval x.2))).run P w = q at hr
 cases q with
 | halt x y => simp [Result.andThen] at hr
 | ok v y =>
  simp only [Result.andThen_ok, Sem.run_pure, Result.ok.injEq] at hr
  obtain ⟨rfl, rfl⟩ := hr
  obtain ⟨ob, rfl⟩ := run_buildSlice_ok hq
  exact ⟨v, ob, rfl, rfl⟩
/-- It leaves what was there as it was. -/
def benign (P : Program) (sub : Fr) (loc : Loc) (o : Oper) : Bool := isBS o || (pureOp P loc sub o.op).isSome
theorem WInv.later {ρ : List Nat} {loc : Loc} {w w' : World} (h : WInv N w0 ρ loc w) (hb : Below w.heap.size w w') : WInv N w0 ρ loc w' :=
 ⟨h.below.trans ⟨hb.os, hb.tape, hb.output, hb.size, fun k hk => hb.block k (Nat.lt_of_lt_of_le hk h.hN)⟩, Nat.le_trans h.hN hb.size, h.len, h.nodup, fun b hm => ⟨(h.ge b hm).1, Nat.lt_of_lt_of_le (h.ge b hm).2 hb.size⟩, fun i c t hi => by
  have := h.cells i c t hi
  rw [hb.block _ (Array.getElem?_eq_some_iff.1 this).1]
  exact this⟩
/-- The slots that what is still to come does not write. -/
def restFr (s : S) : Fr := match s.pc with
 | .any all _ dn => drops ((unl all (listedOf all.size dn)).filterMap (·.dst)) s.fr
 | _ => []
end
end Go.Sx
end
section
namespace Go.Proofs.YthfpekhpeiebjaaGreatDoor
open Go.RowKit Go.Sx
noncomputable def B15 : Code := (Tryz.f15.body).getD .skip
theorem stW_one (xs : List St) : ∀ u ∈ stW xs, u.oneCell' = true := by
 intro u hu
 obtain ⟨x, _, hx⟩ := List.mem_flatMap.1 hu
 obtain ⟨kd, ik, key, t, v, src, wk, wks, bit, mask⟩ := x
 simp only [St.w, List.mem_cons, List.not_mem_nil, or_false] at hx
 rcases hx with rfl | rfl | rfl | rfl | rfl | rfl | rfl | rfl | rfl | rfl <;> rfl
theorem row_sls {base n c : Nat} {A : Option Addr} {xs : List St} {ρ : List Nat} {w : World} (h : Row base 41 10 A n c (stW xs) ρ w) (hn : n = xs.length) : SlS w A n xs := by
 refine ⟨hn, fun ha => ?_, fun a ha j u hj => ?_⟩
 ·subst ha
  rcases h.1.2 with ⟨h2, h3⟩ | ⟨g, cap, cur, hv, _⟩
  ·injection h2 with _ h4 _
   exact List.eq_nil_of_length_eq_zero (by omega)
  ·cases hv
 ·subst ha
  have hj' := (List.getElem?_eq_some_iff.1 hj).1
  have hlen := h.len
  obtain ⟨g, hg, hc⟩ := h.cell (j := j) (by omega)
  injection hg with hg
  subst hg
  rw [add_ok, Nat.zero_add, hc, hj]
/-- What Put answers. -/
def putE (w : World) (c : Cf) (wk : Int) (xs : List St) (e : Ending) (w' : World) : Prop :=
 if (chkP c wk xs).2 = 0 then ∃ A' c', e = .returned (.tuple #[.agg (c.w ++ [Value.int .i64 wk, Value.slice A' xs.length c']).toArray, .int .i64 0]) ∧ RowF w (fun _ => False) [] w.heap.size 41 10 A' xs.length c' (stW xs) [] w'
 else e = .returned (.tuple #[zscr, .int .i64 (chkP c wk xs).2]) ∧ Below w.heap.size w w'
set_option maxHeartbeats 8000000 in
set_option maxRecDepth 100000 in
theorem put_go (g s k sz sl of gp lt ea : Int) (d : Bool) (wk : Int) (A : Option Addr) (n cap : Nat) (xs : List St) (w : World) (hS : SlS w A n xs) (hn : n ≤ 10000) :
  Calls Tryz.prog 15 #[.agg #[.int .i64 g, .int .i64 s, .int .i64 k, .int .i64 sz, .int .i64 sl, .int .i64 of, .int .i64 gp, .int .i64 lt, .int .i64 ea, .bool d], .int .i64 wk, .slice A n cap] w (putE w ⟨g, s, k, sz, sl, of, gp, lt, ea, d⟩ wk xs) := by
 have hl := hS.1
 refine enterF (N := w.heap.size) (F := RowF w (fun _ => False) [] w.heap.size 41 10 none 0 0 []) (fn := Tryz.f15) (c := B15) [.agg (cfAM g s k sz sl of gp lt ea d), .io .i64 wk, .sl A n cap] Tryz.func15 rfl rfl (Nat.le_refl _) ⟨⟨⟨World.ownsRow_nil _ _ _ _, by simp [Value.ownBlock]⟩, Nat.le_refl _⟩, FrameR.start _ [] (by simp), by simp [Value.ownBlock]⟩ ?_
 refine At.toJ (RowF.stable) RowF.fewer 20 300 [1, 2, 3, 6] 2 ⟨.any (opsOf (sub B15 [1, 0])) 7 [], [.seq (sub B15 [1, 1])], [(1, .io .i64 wk), (2, .sl A n cap), (3, .lp 0 0), (6, .lp 1 0)], [((cfAM g s k sz sl of gp lt ea d), 25), (zAM0, 28)]⟩ (by kernel_rfl) (by kernel_rfl) ?_
 refine At.cutN (σ := Option Addr × Nat) (fun x => [(6, .lp 1 0), (8, .lp 2 0)]) (fun x => [((cfAM g s k sz sl of gp lt ea d), 25), (zAM0, 28), ([.io .i64 g, .io .i64 s, .io .i64 k, .io .i64 sz, .io .i64 sl, .io .i64 of, .io .i64 gp, .io .i64 lt, .io .i64 ea, .bo d, .io .i64 wk, .sl x.1 n x.2], 28)]) (fun x => RowF w (fun _ => False) [] w.heap.size 41 10  x.1 n x.2 (stW xs)) rfl ?_ (fun x => ?_)
 ·refine At.purify0 (fun e a w h => h.1) 20 ?_
  refine At.toJ (RowF.stable) RowF.fewer 20 300 [3, 6, 12, 13] 2 ⟨.any (opsOf (sub B15 [1, 0])) 5 [2, 1], [], [(3, .lp 0 0), (6, .lp 1 0), (12, .io .i64 wk), (13, .sl A n cap)], [((cfAM g s k sz sl of gp lt ea d), 25), (zAM0, 28)]⟩ (by kernel_rfl) (by kernel_rfl) ?_
  refine At.fork [0, 3, 5] rfl (by kernel_rfl) rfl (allOf.cons ?_ (allOf.cons ?_ (allOf.cons ?_ allOf.nil)))
  ·refine At.toJ (RowF.stable) RowF.fewer 20 300 [6, 11, 12, 13] 2 ⟨.any (opsOf (sub B15 [1, 0])) 4 [0, 2, 1], [], [(6, .lp 1 0), (11, .agg (cfAM g s k sz sl of gp lt ea d)), (12, .io .i64 wk), (13, .sl A n cap)], [((cfAM g s k sz sl of gp lt ea d), 25), (zAM0, 28)]⟩ (by kernel_rfl) (by kernel_rfl) ?_
   refine At.fork [3, 5] rfl (by kernel_rfl) rfl (allOf.cons ?_ (allOf.cons ?_ allOf.nil))
   ·refine At.toJ (RowF.stable) RowF.fewer 20 300 [6, 11, 12, 13] 2 ⟨.ops (opsOf (sub B15 [1, 0])) (((opsOf (sub B15 [1, 0])).toList.drop 3).take 1), [.any (opsOf (sub B15 [1, 0])) 3 [3, 0, 2, 1]], [(6, .lp 1 0), (11, .agg (cfAM g s k sz sl of gp lt ea d)), (12, .io .i64 wk), (13, .sl A n cap)], [((cfAM g s k sz sl of gp lt ea d), 25), (zAM0, 28)]⟩ (by kernel_rfl) (by kernel_rfl) ?_
    refine At.appAny 41 10 88 none 0 0 A n cap (fun _ => False) [] w.heap.size [] (stW xs) (by kernel_rfl) (by rw [stW_len, hl]) (stW_one xs) (fun e => by rw [hl, hS.2.1 e]; rfl) (fun b hb ρ w1 hm j u hj => cell_below (hS.2.2 b hb j u hj) hm.below) (by omega) (by simp only [maxLen]; omega) (Nat.le_refl _) (fun A' c' => ?_)
    rw [Nat.zero_add, List.nil_append]
    refine At.toJ (RowF.stable) RowF.fewer 20 300 [6, 11, 12, 14] 2 ⟨.any (opsOf (sub B15 [1, 0])) 3 [3, 0, 2, 1], [], [(6, .lp 1 0), (11, .agg (cfAM g s k sz sl of gp lt ea d)), (12, .io .i64 wk), (14, .sl A' n c')], [((cfAM g s k sz sl of gp lt ea d), 25), (zAM0, 28)]⟩ (by kernel_rfl) (by kernel_rfl) ?_
    refine At.fork [4, 5] rfl (by kernel_rfl) rfl (allOf.cons ?_ (allOf.cons ?_ allOf.nil))
    ·refine At.toJ (RowF.stable) RowF.fewer 20 300 [6, 8] 3 ⟨.exit .normal, [], [(6, .lp 1 0), (8, .lp 2 0)], [((cfAM g s k sz sl of gp lt ea d), 25), (zAM0, 28), ((cwAM g s k sz sl of gp lt ea d wk A' n c'), 28)]⟩ (by kernel_rfl) (by kernel_rfl) ?_
     exact At.fin (A', c') rfl rfl (by unfold subFr; kernel_rfl) rfl (fun _ _ _ _ h => h)
    ·refine At.toJ (RowF.stable) RowF.fewer 20 300 [6, 8] 3 ⟨.exit .normal, [], [(6, .lp 1 0), (8, .lp 2 0)], [((cfAM g s k sz sl of gp lt ea d), 25), (zAM0, 28), ((cwAM g s k sz sl of gp lt ea d wk A' n c'), 28)]⟩ (by kernel_rfl) (by kernel_rfl) ?_
     exact At.fin (A', c') rfl rfl (by unfold subFr; kernel_rfl) rfl (fun _ _ _ _ h => h)
   ·refine At.toJ (RowF.stable) RowF.fewer 20 300 [6, 8, 11, 12, 13] 3 ⟨.ops (opsOf (sub B15 [1, 0])) (((opsOf (sub B15 [1, 0])).toList.drop 3).take 1), [.any (opsOf (sub B15 [1, 0])) 2 [3, 5, 0, 2, 1]], [(6, .lp 1 0), (8, .lp 2 0), (11, .agg (cfAM g s k sz sl of gp lt ea d)), (12, .io .i64 wk), (13, .sl A n cap)], [((cfAM g s k sz sl of gp lt ea d), 25), (zAM0, 28), (zAM0, 28)]⟩ (by kernel_rfl) (by kernel_rfl) ?_
    refine At.appAny 41 10 88 none 0 0 A n cap (fun _ => False) [] w.heap.size [] (stW xs) (by kernel_rfl) (by rw [stW_len, hl]) (stW_one xs) (fun e => by rw [hl, hS.2.1 e]; rfl) (fun b hb ρ w1 hm j u hj => cell_below (hS.2.2 b hb j u hj) hm.below) (by omega) (by simp only [maxLen]; omega) (Nat.le_refl _) (fun A' c' => ?_)
    rw [Nat.zero_add, List.nil_append]
    refine At.toJ (RowF.stable) RowF.fewer 20 300 [6, 8] 3 ⟨.exit .normal, [], [(6, .lp 1 0), (8, .lp 2 0)], [((cfAM g s k sz sl of gp lt ea d), 25), (zAM0, 28), ((cwAM g s k sz sl of gp lt ea d wk A' n c'), 28)]⟩ (by kernel_rfl) (by kernel_rfl) ?_
    exact At.fin (A', c') rfl rfl (by unfold subFr; kernel_rfl) rfl (fun _ _ _ _ h => h)
  ·refine At.toJ (RowF.stable) RowF.fewer 20 300 [3, 6, 12, 13] 2 ⟨.ops (opsOf (sub B15 [1, 0])) (((opsOf (sub B15 [1, 0])).toList.drop 3).take 1), [.any (opsOf (sub B15 [1, 0])) 4 [3, 2, 1]], [(3, .lp 0 0), (6, .lp 1 0), (12, .io .i64 wk), (13, .sl A n cap)], [((cfAM g s k sz sl of gp lt ea d), 25), (zAM0, 28)]⟩ (by kernel_rfl) (by kernel_rfl) ?_
   refine At.appAny 41 10 88 none 0 0 A n cap (fun _ => False) [] w.heap.size [] (stW xs) (by kernel_rfl) (by rw [stW_len, hl]) (stW_one xs) (fun e => by rw [hl, hS.2.1 e]; rfl) (fun b hb ρ w1 hm j u hj => cell_below (hS.2.2 b hb j u hj) hm.below) (by omega) (by simp only [maxLen]; omega) (Nat.le_refl _) (fun A' c' => ?_)
   rw [Nat.zero_add, List.nil_append]
   refine At.toJ (RowF.stable) RowF.fewer 20 300 [3, 6, 12, 14] 2 ⟨.any (opsOf (sub B15 [1, 0])) 4 [3, 2, 1], [], [(3, .lp 0 0), (6, .lp 1 0), (12, .io .i64 wk), (14, .sl A' n c')], [((cfAM g s k sz sl of gp lt ea d), 25), (zAM0, 28)]⟩ (by kernel_rfl) (by kernel_rfl) ?_
   refine At.fork [0, 5] rfl (by kernel_rfl) rfl (allOf.cons ?_ (allOf.cons ?_ allOf.nil))
   ·refine At.toJ (RowF.stable) RowF.fewer 20 300 [6, 11, 12, 14] 2 ⟨.any (opsOf (sub B15 [1, 0])) 3 [0, 3, 2, 1], [], [(6, .lp 1 0), (11, .agg (cfAM g s k sz sl of gp lt ea d)), (12, .io .i64 wk), (14, .sl A' n c')], [((cfAM g s k sz sl of gp lt ea d), 25), (zAM0, 28)]⟩ (by kernel_rfl) (by kernel_rfl) ?_
    refine At.fork [4, 5] rfl (by kernel_rfl) rfl (allOf.cons ?_ (allOf.cons ?_ allOf.nil))
    ·refine At.toJ (RowF.stable) RowF.fewer 20 300 [6, 8] 3 ⟨.exit .normal, [], [(6, .lp 1 0), (8, .lp 2 0)], [((cfAM g s k sz sl of gp lt ea d), 25), (zAM0, 28), ((cwAM g s k sz sl of gp lt ea d wk A' n c'), 28)]⟩ (by kernel_rfl) (by kernel_rfl) ?_
     exact At.fin (A', c') rfl rfl (by unfold subFr; kernel_rfl) rfl (fun _ _ _ _ h => h)
    ·refine At.toJ (RowF.stable) RowF.fewer 20 300 [6, 8] 3 ⟨.exit .normal, [], [(6, .lp 1 0), (8, .lp 2 0)], [((cfAM g s k sz sl of gp lt ea d), 25), (zAM0, 28), ((cwAM g s k sz sl of gp lt ea d wk A' n c'), 28)]⟩ (by kernel_rfl) (by kernel_rfl) ?_
     exact At.fin (A', c') rfl rfl (by unfold subFr; kernel_rfl) rfl (fun _ _ _ _ h => h)
   ·refine At.toJ (RowF.stable) RowF.fewer 20 300 [6, 8] 3 ⟨.exit .normal, [], [(6, .lp 1 0), (8, .lp 2 0)], [((cfAM g s k sz sl of gp lt ea d), 25), (zAM0, 28), ((cwAM g s k sz sl of gp lt ea d wk A' n c'), 28)]⟩ (by kernel_rfl) (by kernel_rfl) ?_
    exact At.fin (A', c') rfl rfl (by unfold subFr; kernel_rfl) rfl (fun _ _ _ _ h => h)
  ·refine At.toJ (RowF.stable) RowF.fewer 20 300 [3, 6, 8, 12, 13] 3 ⟨.any (opsOf (sub B15 [1, 0])) 4 [5, 2, 1], [], [(3, .lp 0 0), (6, .lp 1 0), (8, .lp 2 0), (12, .io .i64 wk), (13, .sl A n cap)], [((cfAM g s k sz sl of gp lt ea d), 25), (zAM0, 28), (zAM0, 28)]⟩ (by kernel_rfl) (by kernel_rfl) ?_
   refine At.fork [0, 3] rfl (by kernel_rfl) rfl (allOf.cons ?_ (allOf.cons ?_ allOf.nil))
   ·refine At.toJ (RowF.stable) RowF.fewer 20 300 [6, 8, 11, 12, 13] 3 ⟨.ops (opsOf (sub B15 [1, 0])) (((opsOf (sub B15 [1, 0])).toList.drop 3).take 1), [.any (opsOf (sub B15 [1, 0])) 2 [3, 0, 5, 2, 1]], [(6, .lp 1 0), (8, .lp 2 0), (11, .agg (cfAM g s k sz sl of gp lt ea d)), (12, .io .i64 wk), (13, .sl A n cap)], [((cfAM g s k sz sl of gp lt ea d), 25), (zAM0, 28), (zAM0, 28)]⟩ (by kernel_rfl) (by kernel_rfl) ?_
    refine At.appAny 41 10 88 none 0 0 A n cap (fun _ => False) [] w.heap.size [] (stW xs) (by kernel_rfl) (by rw [stW_len, hl]) (stW_one xs) (fun e => by rw [hl, hS.2.1 e]; rfl) (fun b hb ρ w1 hm j u hj => cell_below (hS.2.2 b hb j u hj) hm.below) (by omega) (by simp only [maxLen]; omega) (Nat.le_refl _) (fun A' c' => ?_)
    rw [Nat.zero_add, List.nil_append]
    refine At.toJ (RowF.stable) RowF.fewer 20 300 [6, 8] 3 ⟨.exit .normal, [], [(6, .lp 1 0), (8, .lp 2 0)], [((cfAM g s k sz sl of gp lt ea d), 25), (zAM0, 28), ((cwAM g s k sz sl of gp lt ea d wk A' n c'), 28)]⟩ (by kernel_rfl) (by kernel_rfl) ?_
    exact At.fin (A', c') rfl rfl (by unfold subFr; kernel_rfl) rfl (fun _ _ _ _ h => h)
   ·refine At.toJ (RowF.stable) RowF.fewer 20 300 [3, 6, 8, 12, 13] 3 ⟨.ops (opsOf (sub B15 [1, 0])) (((opsOf (sub B15 [1, 0])).toList.drop 3).take 1), [.any (opsOf (sub B15 [1, 0])) 3 [3, 5, 2, 1]], [(3, .lp 0 0), (6, .lp 1 0), (8, .lp 2 0), (12, .io .i64 wk), (13, .sl A n cap)], [((cfAM g s k sz sl of gp lt ea d), 25), (zAM0, 28), (zAM0, 28)]⟩ (by kernel_rfl) (by kernel_rfl) ?_
    refine At.appAny 41 10 88 none 0 0 A n cap (fun _ => False) [] w.heap.size [] (stW xs) (by kernel_rfl) (by rw [stW_len, hl]) (stW_one xs) (fun e => by rw [hl, hS.2.1 e]; rfl) (fun b hb ρ w1 hm j u hj => cell_below (hS.2.2 b hb j u hj) hm.below) (by omega) (by simp only [maxLen]; omega) (Nat.le_refl _) (fun A' c' => ?_)
    rw [Nat.zero_add, List.nil_append]
    refine At.toJ (RowF.stable) RowF.fewer 20 300 [6, 8] 3 ⟨.exit .normal, [], [(6, .lp 1 0), (8, .lp 2 0)], [((cfAM g s k sz sl of gp lt ea d), 25), (zAM0, 28), ((cwAM g s k sz sl of gp lt ea d wk A' n c'), 28)]⟩ (by kernel_rfl) (by kernel_rfl) ?_
    exact At.fin (A', c') rfl rfl (by unfold subFr; kernel_rfl) rfl (fun _ _ _ _ h => h)
 ·obtain ⟨A1, c1⟩ := x
  refine At.toJ (RowF.stable) RowF.fewer 20 300 [6, 8, 17] 3 ⟨pops B15 [1, 1, 0, 0] 1, [.seq (sub B15 [1, 1, 0, 1]), .seq (sub B15 [1, 1, 1])], [(6, .lp 1 0), (8, .lp 2 0), (17, .agg (cwAM g s k sz sl of gp lt ea d wk A1 n c1))], [((cfAM g s k sz sl of gp lt ea d), 25), (zAM0, 28), ((cwAM g s k sz sl of gp lt ea d wk A1 n c1), 28)]⟩ (by kernel_rfl) (by kernel_rfl) ?_
  by_cases hc : (chkP ⟨g, s, k, sz, sl, of, gp, lt, ea, d⟩ wk xs).2 = 0
  ·refine At.call RowF.stable 13 [.agg (cwAM g s k sz sl of gp lt ea d wk A1 n c1)] (.tup [.io .i64 (chkP ⟨g, s, k, sz, sl, of, gp, lt, ea, d⟩ wk xs).1, .v (.int .i64 0)]) (by kernel_rfl) (by kernel_rfl) (by kernel_rfl) (fun _ _ w1 hi hf => (check_kit ⟨g, s, k, sz, sl, of, gp, lt, ea, d⟩ wk A1 n c1 xs w1 (row_sls hf.1.1 hl) (by omega)).mono fun e w2 h => ⟨h.1.trans (by rw [hc]; rfl), h.2⟩) ?_
   refine At.toJ (RowF.stable) RowF.fewer 20 300 [6, 7] 2 ⟨.exit .ret, [], [(6, .lp 1 0), (7, .v (.int .i64 0))], [((cfAM g s k sz sl of gp lt ea d), 25), ((cwAM g s k sz sl of gp lt ea d wk A1 n c1), 28)]⟩ (by kernel_rfl) (by kernel_rfl) ?_
   refine At.ret (by kernel_rfl) (.tup [.agg (cwAM g s k sz sl of gp lt ea d wk A1 n c1), .v (.int .i64 0)]) (by kernel_rfl) ?_
   intro ρ w9 hm' hf
   unfold putE
   rw [if_pos hc]
   refine ⟨A1, c1, ?_, hl ▸ RowF.fewer _ _ 0 (Nat.zero_le _) hf⟩
   rw [← hl]
   rfl
  ·refine At.call RowF.stable 13 [.agg (cwAM g s k sz sl of gp lt ea d wk A1 n c1)] (.tup [.io .i64 (chkP ⟨g, s, k, sz, sl, of, gp, lt, ea, d⟩ wk xs).1, .io .i64 (chkP ⟨g, s, k, sz, sl, of, gp, lt, ea, d⟩ wk xs).2]) (by kernel_rfl) (by kernel_rfl) (by kernel_rfl) (fun _ _ w1 hi hf => check_kit ⟨g, s, k, sz, sl, of, gp, lt, ea, d⟩ wk A1 n c1 xs w1 (row_sls hf.1.1 hl) (by omega)) ?_
   refine At.toJ (RowF.stable) RowF.fewer 20 300 [6, 8, 10, 22] 3 ⟨.code (sub B15 [1, 1, 0, 1, 1]), [.seq (sub B15 [1, 1, 1])], [(6, .lp 1 0), (8, .lp 2 0), (10, .io .i64 (chkP (Cf.mk g s k sz sl of gp lt ea d) wk xs).snd), (22, .bo ((chkP (Cf.mk g s k sz sl of gp lt ea d) wk xs).snd != 0))], [((cfAM g s k sz sl of gp lt ea d), 25), (zAM0, 28), ((cwAM g s k sz sl of gp lt ea d wk A1 n c1), 28)]⟩ (by kernel_rfl) (by kernel_rfl) ?_
   refine At.res 22 ((chkP (Cf.mk g s k sz sl of gp lt ea d) wk xs).snd != 0) true (by kernel_rfl) (by first | assumption | (simp only [*]; done) | (simp [*]; done)) ?_
   refine At.toJ (RowF.stable) RowF.fewer 20 300 [6, 7] 2 ⟨.exit .ret, [], [(6, .lp 1 0), (7, .io .i64 (chkP (Cf.mk g s k sz sl of gp lt ea d) wk xs).snd)], [((cfAM g s k sz sl of gp lt ea d), 25), (zAM0, 28)]⟩ (by kernel_rfl) (by kernel_rfl) ?_
   refine At.ret (by kernel_rfl) (.tup [.agg zAM0, .io .i64 (chkP (Cf.mk g s k sz sl of gp lt ea d) wk xs).snd]) (by kernel_rfl) ?_
   intro ρ w9 hm' hf
   unfold putE
   rw [if_neg hc]
   exact ⟨rfl, hm'.below⟩
end Go.Proofs.YthfpekhpeiebjaaGreatDoor
end
