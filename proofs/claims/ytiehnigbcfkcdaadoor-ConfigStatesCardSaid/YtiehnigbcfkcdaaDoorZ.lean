import Derived.Test.YtiehnigbcfkcdaaDoorX
import Derived.Test.YtiehnigbcfkcdaaDoorA
set_option linter.unusedSimpArgs false
set_option linter.unusedVariables false
namespace Go.Proofs.YtiehnigbcfkcdaaDoor
open Go.RowKit Go.Sx

def cntB (x : Int) : Bool := decide (0 ≤ x) && decide (x ≤ 9007199254740992)
/-- May a window be, seen alone? -/
def winB (x : Wn) : Bool := cntB x.co && (cntB x.si && (cntB x.pa && (!decide (x.st ≥ x.en) && (!decide (x.st < -4611687117939015680) && !decide (x.en > 4611687117939015680)))))
/-- May a window follow another one? -/
def ordK (k : Int) (l x : Wn) : Bool := !decide (l.st > x.st) && (!((l.st == x.st) && decide (l.en ≥ x.en)) && !((k == 3) && decide (l.en > x.st)))
def preB (k : Int) : Option Wn → Wn → Bool
  | none, _ => true
  | some l, x => ordK k l x
def keyGo (k : Int) : Option Wn → List Wn → Bool
  | _, [] => true
  | p, x :: r => winB x && (preB k p x && keyGo k (some x) r)
def prevAt (ws : List Wn) (i : Nat) : Option Wn := if i = 0 then none else ws[i - 1]?
theorem drop_w {α : Type} : ∀ {l : List α} {j : Nat} {b : α}, l[j]? = some b → l.drop j = b :: l.drop (j + 1)
  | [], j, b, h => by simp at h
  | x :: l, 0, b, h => by
    simp only [List.getElem?_cons_zero, Option.some.injEq] at h
    subst h
    rfl
  | x :: l, j + 1, b, h => by
    simp only [List.getElem?_cons_succ] at h
    simpa using drop_w h
theorem prev_pos {ws : List Wn} {i : Nat} {y : Wn} (hi : 0 < i) (hy : ws[i - 1]? = some y) : prevAt ws i = some y := by
  unfold prevAt
  rw [if_neg (by omega), hy]
def keyE (W k : Int) (key : ByteArray) (dr : Int) (ws : List Wn) : Int := bif jobE W != 0 then jobE W else bif decide ((key.size : Int) > 256) then 6 else bif !(cntB dr) then 6 else bif keyGo k none ws then 0 else 6


def frKy (A : Option Addr) (n c : Nat) (i : Nat) : Fr := [(2, .lp 0 0), (3, .lp 1 0), (26, .sl A n c), (27, .io .i64 n), (28, .io .i64 (i : Int))]
def locKy (g s k sz sl of gp lt ea : Int) (d : Bool) (key : ByteArray) (dr : Int) (A : Option Addr) (n c : Nat) (_ : Nat) : Go.Sx.Loc := [(cfgL g s k sz sl of gp lt ea d, 24), ([.so key, .io .i64 dr, .sl A n c], 50)]
def GKy (k : Int) (n : Nat) (ws : List Wn) (R : Bool) (i : Nat) (ρ : List Nat) (w : World) : Prop := noF ρ w ∧ (i ≤ n ∧ keyGo k (prevAt ws i) (ws.drop i) = R)
def muKy (n i : Nat) : Nat := n - i

noncomputable def B21 : Code := (Tryd.f21.body).getD .skip
set_option maxHeartbeats 4000000 in
set_option maxRecDepth 100000 in
theorem key_any (g s k sz sl of gp lt ea : Int) (d : Bool) (key : ByteArray) (dr : Int) (A : Option Addr) (n c : Nat) (ws : List Wn) (hn : n ≤ 140737488355320) (w : World) (hw : SlW w A n ws) :
    Calls Tryd.prog 21 #[.agg #[.int .i64 g, .int .i64 s, .int .i64 k, .int .i64 sz, .int .i64 sl, .int .i64 of, .int .i64 gp, .int .i64 lt, .int .i64 ea, .bool d], .agg #[.string key, .int .i64 dr, .slice A n c]] w fun e w' => e = .returned (.int .i64 (keyE (wrongF g s k sz sl of gp lt ea) k key dr ws)) ∧ Below w.heap.size w w' := by
  refine enter (fn := Tryd.f21) (c := B21) [.agg (cfgL g s k sz sl of gp lt ea d), .agg [.so key, .io .i64 dr, .sl A n c]] Tryd.func21 rfl rfl ?_
  refine At.to (noF_stable) (noF_fewer) 0 200 [2, 3, 10] 2 ⟨pops B21 [1, 0, 0] 1, [.seq (sub B21 [1, 0, 1]), .seq (sub B21 [1, 1])], [(2, .lp 0 0), (3, .lp 1 0), (10, .agg (cfgL g s k sz sl of gp lt ea d))], [((cfgL g s k sz sl of gp lt ea d), 24), ([.so key, .io .i64 dr, .sl A n c], 50)]⟩ (by kernel_rfl) (by kernel_rfl) ?_
  refine At.call (noF_stable) 12 [.agg (cfgL g s k sz sl of gp lt ea d)] (.io .i64 (jobE (wrongF g s k sz sl of gp lt ea))) (by kernel_rfl) (by kernel_rfl) (by kernel_rfl) (fun _ _ w _ _ => check_any (g) (s) (k) (sz) (sl) (of) (gp) (lt) (ea) (d) w) ?_
  refine At.to (noF_stable) (noF_fewer) 0 200 [2, 3, 5, 13] 2 ⟨.code (sub B21 [1, 0, 1, 1]), [.seq (sub B21 [1, 1])], [(2, .lp 0 0), (3, .lp 1 0), (5, .io .i64 (jobE (wrongF g s k sz sl of gp lt ea))), (13, .bo (jobE (wrongF g s k sz sl of gp lt ea) != 0))], [((cfgL g s k sz sl of gp lt ea d), 24), ([.so key, .io .i64 dr, .sl A n c], 50)]⟩ (by kernel_rfl) (by kernel_rfl) ?_
  rcases Bool.eq_false_or_eq_true (jobE (wrongF g s k sz sl of gp lt ea) != 0) with b0 | b0
  · refine At.res 13 (jobE (wrongF g s k sz sl of gp lt ea) != 0) true (by kernel_rfl) b0 ?_
    refine At.to (noF_stable) (noF_fewer) 0 200 [4] 0 ⟨.exit .ret, [], [(4, .io .i64 (jobE (wrongF g s k sz sl of gp lt ea)))], []⟩ (by kernel_rfl) (by kernel_rfl) ?_
    refine At.ret (by kernel_rfl) (.io .i64 (jobE (wrongF g s k sz sl of gp lt ea))) (by kernel_rfl) ?_
    intro ρ w9 hm _
    exact ⟨by simp only [keyE, b0, cond_true]; rfl, hm.below⟩
  · refine At.res 13 (jobE (wrongF g s k sz sl of gp lt ea) != 0) false (by kernel_rfl) b0 ?_
    refine At.to (noF_stable) (noF_fewer) 0 200 [2, 3, 19] 2 ⟨pops B21 [1, 1, 0, 0] 5, [.seq (sub B21 [1, 1, 0, 1]), .seq (sub B21 [1, 1, 1])], [(2, .lp 0 0), (3, .lp 1 0), (19, .bo (decide ((↑key.size : Int) > 256)))], [((cfgL g s k sz sl of gp lt ea d), 24), ([.so key, .io .i64 dr, .sl A n c], 50)]⟩ (by kernel_rfl) (by kernel_rfl) ?_
    rcases Bool.eq_false_or_eq_true (decide ((↑key.size : Int) > 256)) with b1 | b1
    · refine At.res 19 (decide ((↑key.size : Int) > 256)) true (by kernel_rfl) b1 ?_
      refine At.to (noF_stable) (noF_fewer) 0 200 [4] 0 ⟨.exit .ret, [], [(4, .v (.int .i64 6))], []⟩ (by kernel_rfl) (by kernel_rfl) ?_
      refine At.ret (by kernel_rfl) (.v (.int .i64 6)) (by kernel_rfl) ?_
      intro ρ w9 hm _
      exact ⟨by simp only [keyE, b0, b1, cond_true, cond_false]; rfl, hm.below⟩
    · refine At.res 19 (decide ((↑key.size : Int) > 256)) false (by kernel_rfl) b1 ?_
      refine At.to (noF_stable) (noF_fewer) 0 200 [2, 3, 19, 21] 2 ⟨pops B21 [1, 1, 0, 0] 7, [.seq (sub B21 [1, 1, 0, 1]), .seq (sub B21 [1, 1, 1])], [(2, .lp 0 0), (3, .lp 1 0), (19, .v (.bool false)), (21, .io .i64 dr)], [((cfgL g s k sz sl of gp lt ea d), 24), ([.so key, .io .i64 dr, .sl A n c], 50)]⟩ (by kernel_rfl) (by kernel_rfl) ?_
      refine At.call (noF_stable) 28 [.io .i64 dr, .v (.int .i64 0), .v (.int .i64 9007199254740992)] (.bo (decide (0 ≤ dr) && decide (dr ≤ 9007199254740992))) (by kernel_rfl) (by kernel_rfl) (by kernel_rfl) (fun _ _ w _ _ => within_any (dr) (0) (9007199254740992) w) ?_
      refine At.to (noF_stable) (noF_fewer) 0 200 [2, 3, 24] 2 ⟨.code (sub B21 [1, 1, 0, 1]), [.seq (sub B21 [1, 1, 1])], [(2, .lp 0 0), (3, .lp 1 0), (24, .bo !(decide (0 ≤ dr) && decide (dr ≤ 9007199254740992)))], [((cfgL g s k sz sl of gp lt ea d), 24), ([.so key, .io .i64 dr, .sl A n c], 50)]⟩ (by kernel_rfl) (by kernel_rfl) ?_
      rcases Bool.eq_false_or_eq_true (!(decide (0 ≤ dr) && decide (dr ≤ 9007199254740992))) with b2 | b2
      · refine At.res 24 (!(decide (0 ≤ dr) && decide (dr ≤ 9007199254740992))) true (by kernel_rfl) b2 ?_
        refine At.to (noF_stable) (noF_fewer) 0 200 [4] 0 ⟨.exit .ret, [], [(4, .v (.int .i64 6))], []⟩ (by kernel_rfl) (by kernel_rfl) ?_
        refine At.ret (by kernel_rfl) (.v (.int .i64 6)) (by kernel_rfl) ?_
        intro ρ w9 hm _
        exact ⟨by simp only [keyE, cntB, b0, b1, b2, cond_true, cond_false]; rfl, hm.below⟩
      · refine At.res 24 (!(decide (0 ≤ dr) && decide (dr ≤ 9007199254740992))) false (by kernel_rfl) b2 ?_
        refine At.to (noF_stable) (noF_fewer) 0 200 [2, 3, 26, 27, 28] 2 ⟨.code (sub B21 [1, 1, 1, 0, 1, 4]), [.block 0, .seq (sub B21 [1, 1, 1, 1])], [(2, .lp 0 0), (3, .lp 1 0), (26, .sl A n c), (27, .io .i64 (↑n : Int)), (28, .v (.int .i64 0))], [((cfgL g s k sz sl of gp lt ea d), 24), ([.so key, .io .i64 dr, .sl A n c], 50)]⟩ (by kernel_rfl) (by kernel_rfl) ?_
        have hE : keyE (wrongF g s k sz sl of gp lt ea) k key dr ws = (bif keyGo k none ws then 0 else 6) := by simp only [keyE, cntB, b0, b1, b2, cond_false]
        rw [hE]
        clear hE b0 b1 b2
        generalize hR : keyGo k none ws = R
        refine At.canon _ rfl ?_
        refine At.loop (σ := Nat) (sub B21 [1, 1, 1, 0, 1, 4, 4]) (frKy A n c) (locKy g s k sz sl of gp lt ea d key dr A n c) (GKy k n ws R) (muKy n) 0 (by kernel_rfl) (by unfold subFr; kernel_rfl) (by kernel_rfl) (fun _ _ _ _ h => ⟨h, Nat.zero_le _, hR⟩) ?_
        clear hR
        intro i
        refine At.pure fun ⟨h1, h2⟩ => ?_
        have hl := hw.1
        refine At.to (noF_stable) (noF_fewer) 0 200 [2, 3, 26, 27, 28, 29] 2 ⟨.code (sub B21 [1, 1, 1, 0, 1, 4, 4, 1, 0]), [.seq (sub B21 [1, 1, 1, 0, 1, 4, 4, 1, 1]), .next (Sx.Next w.heap.size w Tryd.f21.ntmps (frKy A n c) (locKy g s k sz sl of gp lt ea d key dr A n c) (GKy k n ws R) (muKy n) i), .block 0, .seq (sub B21 [1, 1, 1, 1])], [(2, .lp 0 0), (3, .lp 1 0), (26, .sl A n c), (27, .io .i64 (↑n : Int)), (28, .io .i64 (↑i : Int)), (29, .bo (decide ((↑i : Int) < (↑n : Int))))], [((cfgL g s k sz sl of gp lt ea d), 24), ([.so key, .io .i64 dr, .sl A n c], 50)]⟩ (by kernel_rfl) (by kernel_rfl) ?_
        rcases Bool.eq_false_or_eq_true (decide ((↑i : Int) < (↑n : Int))) with b0 | b0
        · refine At.res 29 (decide ((↑i : Int) < (↑n : Int))) true (by kernel_rfl) b0 ?_
          refine At.to (noF_stable) (noF_fewer) 0 200 [2, 3, 26, 27, 28, 30] 2 ⟨pops B21 [1, 1, 1, 0, 1, 4, 4, 1, 1, 0, 4, 0] 1, [.seq (sub B21 [1, 1, 1, 0, 1, 4, 4, 1, 1, 0, 4, 1]), .block 1, .seq (sub B21 [1, 1, 1, 0, 1, 4, 4, 1, 1, 1]), .next (Sx.Next w.heap.size w Tryd.f21.ntmps (frKy A n c) (locKy g s k sz sl of gp lt ea d key dr A n c) (GKy k n ws R) (muKy n) i), .block 0, .seq (sub B21 [1, 1, 1, 1])], [(2, .lp 0 0), (3, .lp 1 0), (26, .sl A n c), (27, .io .i64 (↑n : Int)), (28, .io .i64 (↑i : Int)), (30, .io .i64 (↑i : Int))], [((cfgL g s k sz sl of gp lt ea d), 24), ([.so key, .io .i64 dr, .sl A n c], 50)]⟩ (by kernel_rfl) (by kernel_rfl) ?_
          have hi : i < n := by have := of_decide_eq_true b0; omega
          clear b0
          obtain ⟨a, rfl⟩ : ∃ a, A = some a := by
            cases A with
            | none => have := hw.2.1 rfl; subst this; simp at hl; omega
            | some a => exact ⟨a, rfl⟩
          obtain ⟨⟨st, en, ho, co, su, mi, ma, si, pa⟩, hx⟩ : ∃ x, ws[i]? = some x := ⟨_, List.getElem?_eq_getElem (by omega)⟩
          rw [drop_w hx] at h2
          refine At.idx a n 9 (i : Int) (by kernel_rfl) (by omega) (by omega) noF_stable ?_
          refine At.lda (a.add ((i : Int).toNat * 9)) 9 (wL ⟨st, en, ho, co, su, mi, ma, si, pa⟩) (by kernel_rfl) rfl noF_stable (fun ρ w1 hm hf => by rw [Int.toNat_natCast]; exact (hw.below hm.below).cell hx) ?_
          refine At.to (noF_stable) (noF_fewer) 0 200 [2, 3, 6, 7, 26, 27, 28, 35] 3 ⟨pops B21 [1, 1, 1, 0, 1, 4, 4, 1, 1, 0, 4, 1, 0] 3, [.seq (sub B21 [1, 1, 1, 0, 1, 4, 4, 1, 1, 0, 4, 1, 1]), .block 1, .seq (sub B21 [1, 1, 1, 0, 1, 4, 4, 1, 1, 1]), .next (Sx.Next w.heap.size w Tryd.f21.ntmps (frKy (some a) n c) (locKy g s k sz sl of gp lt ea d key dr (some a) n c) (GKy k n ws R) (muKy n) i), .block 0, .seq (sub B21 [1, 1, 1, 1])], [(2, .lp 0 0), (3, .lp 1 0), (6, .io .i64 (↑i : Int)), (7, .lp 2 0), (26, .sl (some a) n c), (27, .io .i64 (↑n : Int)), (28, .io .i64 (↑i : Int)), (35, .io .i64 co)], [((cfgL g s k sz sl of gp lt ea d), 24), ([.so key, .io .i64 dr, .sl (some a) n c], 50), ([.io .i64 st, .io .i64 en, .io .i64 ho, .io .i64 co, .io .i64 su, .io .i64 mi, .io .i64 ma, .io .i64 si, .io .i64 pa], 89)]⟩ (by kernel_rfl) (by kernel_rfl) ?_
          refine At.call (noF_stable) 28 [.io .i64 co, .v (.int .i64 0), .v (.int .i64 9007199254740992)] (.bo (decide (0 ≤ co) && decide (co ≤ 9007199254740992))) (by kernel_rfl) (by kernel_rfl) (by kernel_rfl) (fun _ _ w _ _ => within_any (co) (0) (9007199254740992) w) ?_
          refine At.to (noF_stable) (noF_fewer) 0 200 [2, 3, 6, 7, 26, 27, 28, 37] 3 ⟨pops B21 [1, 1, 1, 0, 1, 4, 4, 1, 1, 0, 4, 1, 0] 5, [.seq (sub B21 [1, 1, 1, 0, 1, 4, 4, 1, 1, 0, 4, 1, 1]), .block 1, .seq (sub B21 [1, 1, 1, 0, 1, 4, 4, 1, 1, 1]), .next (Sx.Next w.heap.size w Tryd.f21.ntmps (frKy (some a) n c) (locKy g s k sz sl of gp lt ea d key dr (some a) n c) (GKy k n ws R) (muKy n) i), .block 0, .seq (sub B21 [1, 1, 1, 1])], [(2, .lp 0 0), (3, .lp 1 0), (6, .io .i64 (↑i : Int)), (7, .lp 2 0), (26, .sl (some a) n c), (27, .io .i64 (↑n : Int)), (28, .io .i64 (↑i : Int)), (37, .bo (decide (0 ≤ co) && decide (co ≤ 9007199254740992)))], [((cfgL g s k sz sl of gp lt ea d), 24), ([.so key, .io .i64 dr, .sl (some a) n c], 50), ([.io .i64 st, .io .i64 en, .io .i64 ho, .io .i64 co, .io .i64 su, .io .i64 mi, .io .i64 ma, .io .i64 si, .io .i64 pa], 89)]⟩ (by kernel_rfl) (by kernel_rfl) ?_
          rcases Bool.eq_false_or_eq_true (decide (0 ≤ co) && decide (co ≤ 9007199254740992)) with b0 | b0
          · refine At.res 37 (decide (0 ≤ co) && decide (co ≤ 9007199254740992)) true (by kernel_rfl) b0 ?_
            refine At.to (noF_stable) (noF_fewer) 0 200 [2, 3, 6, 7, 26, 27, 28, 37, 39] 3 ⟨pops B21 [1, 1, 1, 0, 1, 4, 4, 1, 1, 0, 4, 1, 0] 7, [.seq (sub B21 [1, 1, 1, 0, 1, 4, 4, 1, 1, 0, 4, 1, 1]), .block 1, .seq (sub B21 [1, 1, 1, 0, 1, 4, 4, 1, 1, 1]), .next (Sx.Next w.heap.size w Tryd.f21.ntmps (frKy (some a) n c) (locKy g s k sz sl of gp lt ea d key dr (some a) n c) (GKy k n ws R) (muKy n) i), .block 0, .seq (sub B21 [1, 1, 1, 1])], [(2, .lp 0 0), (3, .lp 1 0), (6, .io .i64 (↑i : Int)), (7, .lp 2 0), (26, .sl (some a) n c), (27, .io .i64 (↑n : Int)), (28, .io .i64 (↑i : Int)), (37, .v (.bool true)), (39, .io .i64 si)], [((cfgL g s k sz sl of gp lt ea d), 24), ([.so key, .io .i64 dr, .sl (some a) n c], 50), ([.io .i64 st, .io .i64 en, .io .i64 ho, .io .i64 co, .io .i64 su, .io .i64 mi, .io .i64 ma, .io .i64 si, .io .i64 pa], 89)]⟩ (by kernel_rfl) (by kernel_rfl) ?_
            refine At.call (noF_stable) 28 [.io .i64 si, .v (.int .i64 0), .v (.int .i64 9007199254740992)] (.bo (decide (0 ≤ si) && decide (si ≤ 9007199254740992))) (by kernel_rfl) (by kernel_rfl) (by kernel_rfl) (fun _ _ w _ _ => within_any (si) (0) (9007199254740992) w) ?_
            refine At.to (noF_stable) (noF_fewer) 0 200 [2, 3, 6, 7, 26, 27, 28, 42] 3 ⟨pops B21 [1, 1, 1, 0, 1, 4, 4, 1, 1, 0, 4, 1, 0] 10, [.seq (sub B21 [1, 1, 1, 0, 1, 4, 4, 1, 1, 0, 4, 1, 1]), .block 1, .seq (sub B21 [1, 1, 1, 0, 1, 4, 4, 1, 1, 1]), .next (Sx.Next w.heap.size w Tryd.f21.ntmps (frKy (some a) n c) (locKy g s k sz sl of gp lt ea d key dr (some a) n c) (GKy k n ws R) (muKy n) i), .block 0, .seq (sub B21 [1, 1, 1, 1])], [(2, .lp 0 0), (3, .lp 1 0), (6, .io .i64 (↑i : Int)), (7, .lp 2 0), (26, .sl (some a) n c), (27, .io .i64 (↑n : Int)), (28, .io .i64 (↑i : Int)), (42, .bo (decide (0 ≤ si) && decide (si ≤ 9007199254740992)))], [((cfgL g s k sz sl of gp lt ea d), 24), ([.so key, .io .i64 dr, .sl (some a) n c], 50), ([.io .i64 st, .io .i64 en, .io .i64 ho, .io .i64 co, .io .i64 su, .io .i64 mi, .io .i64 ma, .io .i64 si, .io .i64 pa], 89)]⟩ (by kernel_rfl) (by kernel_rfl) ?_
            rcases Bool.eq_false_or_eq_true (decide (0 ≤ si) && decide (si ≤ 9007199254740992)) with b1 | b1
            · refine At.res 42 (decide (0 ≤ si) && decide (si ≤ 9007199254740992)) true (by kernel_rfl) b1 ?_
              refine At.to (noF_stable) (noF_fewer) 0 200 [2, 3, 6, 7, 26, 27, 28, 42, 44] 3 ⟨pops B21 [1, 1, 1, 0, 1, 4, 4, 1, 1, 0, 4, 1, 0] 12, [.seq (sub B21 [1, 1, 1, 0, 1, 4, 4, 1, 1, 0, 4, 1, 1]), .block 1, .seq (sub B21 [1, 1, 1, 0, 1, 4, 4, 1, 1, 1]), .next (Sx.Next w.heap.size w Tryd.f21.ntmps (frKy (some a) n c) (locKy g s k sz sl of gp lt ea d key dr (some a) n c) (GKy k n ws R) (muKy n) i), .block 0, .seq (sub B21 [1, 1, 1, 1])], [(2, .lp 0 0), (3, .lp 1 0), (6, .io .i64 (↑i : Int)), (7, .lp 2 0), (26, .sl (some a) n c), (27, .io .i64 (↑n : Int)), (28, .io .i64 (↑i : Int)), (42, .v (.bool true)), (44, .io .i64 pa)], [((cfgL g s k sz sl of gp lt ea d), 24), ([.so key, .io .i64 dr, .sl (some a) n c], 50), ([.io .i64 st, .io .i64 en, .io .i64 ho, .io .i64 co, .io .i64 su, .io .i64 mi, .io .i64 ma, .io .i64 si, .io .i64 pa], 89)]⟩ (by kernel_rfl) (by kernel_rfl) ?_
              refine At.call (noF_stable) 28 [.io .i64 pa, .v (.int .i64 0), .v (.int .i64 9007199254740992)] (.bo (decide (0 ≤ pa) && decide (pa ≤ 9007199254740992))) (by kernel_rfl) (by kernel_rfl) (by kernel_rfl) (fun _ _ w _ _ => within_any (pa) (0) (9007199254740992) w) ?_
              refine At.to (noF_stable) (noF_fewer) 0 200 [2, 3, 6, 7, 26, 27, 28, 49] 3 ⟨pops B21 [1, 1, 1, 0, 1, 4, 4, 1, 1, 0, 4, 1, 1, 0, 0] 3, [.seq (sub B21 [1, 1, 1, 0, 1, 4, 4, 1, 1, 0, 4, 1, 1, 0, 1]), .seq (sub B21 [1, 1, 1, 0, 1, 4, 4, 1, 1, 0, 4, 1, 1, 1]), .block 1, .seq (sub B21 [1, 1, 1, 0, 1, 4, 4, 1, 1, 1]), .next (Sx.Next w.heap.size w Tryd.f21.ntmps (frKy (some a) n c) (locKy g s k sz sl of gp lt ea d key dr (some a) n c) (GKy k n ws R) (muKy n) i), .block 0, .seq (sub B21 [1, 1, 1, 1])], [(2, .lp 0 0), (3, .lp 1 0), (6, .io .i64 (↑i : Int)), (7, .lp 2 0), (26, .sl (some a) n c), (27, .io .i64 (↑n : Int)), (28, .io .i64 (↑i : Int)), (49, .bo !(decide (0 ≤ pa) && decide (pa ≤ 9007199254740992)))], [((cfgL g s k sz sl of gp lt ea d), 24), ([.so key, .io .i64 dr, .sl (some a) n c], 50), ([.io .i64 st, .io .i64 en, .io .i64 ho, .io .i64 co, .io .i64 su, .io .i64 mi, .io .i64 ma, .io .i64 si, .io .i64 pa], 89)]⟩ (by kernel_rfl) (by kernel_rfl) ?_
              rcases Bool.eq_false_or_eq_true (!(decide (0 ≤ pa) && decide (pa ≤ 9007199254740992))) with b2 | b2
              · refine At.res 49 (!(decide (0 ≤ pa) && decide (pa ≤ 9007199254740992))) true (by kernel_rfl) b2 ?_
                refine At.to (noF_stable) (noF_fewer) 0 200 [4] 0 ⟨.exit .ret, [], [(4, .v (.int .i64 6))], []⟩ (by kernel_rfl) (by kernel_rfl) ?_
                refine At.ret (by kernel_rfl) (.v (.int .i64 6)) (by kernel_rfl) ?_
                try simp only [Bool.not_eq_true', Bool.not_eq_false'] at *
                simp only [keyGo, preB, ordK, winB, cntB, *, Bool.not_true, Bool.not_false, Bool.true_and, Bool.and_true, Bool.false_and, Bool.and_false] at h2
                intro ρ w9 hm _
                exact ⟨by rw [← h2]; rfl, hm.below⟩
              · refine At.res 49 (!(decide (0 ≤ pa) && decide (pa ≤ 9007199254740992))) false (by kernel_rfl) b2 ?_
                refine At.to (noF_stable) (noF_fewer) 0 200 [2, 3, 6, 7, 26, 27, 28, 58] 3 ⟨pops B21 [1, 1, 1, 0, 1, 4, 4, 1, 1, 0, 4, 1, 1, 0, 0] 12, [.seq (sub B21 [1, 1, 1, 0, 1, 4, 4, 1, 1, 0, 4, 1, 1, 0, 1]), .seq (sub B21 [1, 1, 1, 0, 1, 4, 4, 1, 1, 0, 4, 1, 1, 1]), .block 1, .seq (sub B21 [1, 1, 1, 0, 1, 4, 4, 1, 1, 1]), .next (Sx.Next w.heap.size w Tryd.f21.ntmps (frKy (some a) n c) (locKy g s k sz sl of gp lt ea d key dr (some a) n c) (GKy k n ws R) (muKy n) i), .block 0, .seq (sub B21 [1, 1, 1, 1])], [(2, .lp 0 0), (3, .lp 1 0), (6, .io .i64 (↑i : Int)), (7, .lp 2 0), (26, .sl (some a) n c), (27, .io .i64 (↑n : Int)), (28, .io .i64 (↑i : Int)), (58, .bo (decide (st ≥ en)))], [((cfgL g s k sz sl of gp lt ea d), 24), ([.so key, .io .i64 dr, .sl (some a) n c], 50), ([.io .i64 st, .io .i64 en, .io .i64 ho, .io .i64 co, .io .i64 su, .io .i64 mi, .io .i64 ma, .io .i64 si, .io .i64 pa], 89)]⟩ (by kernel_rfl) (by kernel_rfl) ?_
                rcases Bool.eq_false_or_eq_true (decide (st ≥ en)) with b3 | b3
                · refine At.res 58 (decide (st ≥ en)) true (by kernel_rfl) b3 ?_
                  refine At.to (noF_stable) (noF_fewer) 0 200 [4] 0 ⟨.exit .ret, [], [(4, .v (.int .i64 6))], []⟩ (by kernel_rfl) (by kernel_rfl) ?_
                  refine At.ret (by kernel_rfl) (.v (.int .i64 6)) (by kernel_rfl) ?_
                  try simp only [Bool.not_eq_true', Bool.not_eq_false'] at *
                  simp only [keyGo, preB, ordK, winB, cntB, *, Bool.not_true, Bool.not_false, Bool.true_and, Bool.and_true, Bool.false_and, Bool.and_false] at h2
                  intro ρ w9 hm _
                  exact ⟨by rw [← h2]; rfl, hm.below⟩
                · refine At.res 58 (decide (st ≥ en)) false (by kernel_rfl) b3 ?_
                  refine At.to (noF_stable) (noF_fewer) 0 200 [2, 3, 6, 7, 26, 27, 28, 64] 3 ⟨pops B21 [1, 1, 1, 0, 1, 4, 4, 1, 1, 0, 4, 1, 1, 0, 0] 18, [.seq (sub B21 [1, 1, 1, 0, 1, 4, 4, 1, 1, 0, 4, 1, 1, 0, 1]), .seq (sub B21 [1, 1, 1, 0, 1, 4, 4, 1, 1, 0, 4, 1, 1, 1]), .block 1, .seq (sub B21 [1, 1, 1, 0, 1, 4, 4, 1, 1, 1]), .next (Sx.Next w.heap.size w Tryd.f21.ntmps (frKy (some a) n c) (locKy g s k sz sl of gp lt ea d key dr (some a) n c) (GKy k n ws R) (muKy n) i), .block 0, .seq (sub B21 [1, 1, 1, 1])], [(2, .lp 0 0), (3, .lp 1 0), (6, .io .i64 (↑i : Int)), (7, .lp 2 0), (26, .sl (some a) n c), (27, .io .i64 (↑n : Int)), (28, .io .i64 (↑i : Int)), (64, .bo (decide (st < -4611687117939015680)))], [((cfgL g s k sz sl of gp lt ea d), 24), ([.so key, .io .i64 dr, .sl (some a) n c], 50), ([.io .i64 st, .io .i64 en, .io .i64 ho, .io .i64 co, .io .i64 su, .io .i64 mi, .io .i64 ma, .io .i64 si, .io .i64 pa], 89)]⟩ (by kernel_rfl) (by kernel_rfl) ?_
                  rcases Bool.eq_false_or_eq_true (decide (st < -4611687117939015680)) with b4 | b4
                  · refine At.res 64 (decide (st < -4611687117939015680)) true (by kernel_rfl) b4 ?_
                    refine At.to (noF_stable) (noF_fewer) 0 200 [4] 0 ⟨.exit .ret, [], [(4, .v (.int .i64 6))], []⟩ (by kernel_rfl) (by kernel_rfl) ?_
                    refine At.ret (by kernel_rfl) (.v (.int .i64 6)) (by kernel_rfl) ?_
                    try simp only [Bool.not_eq_true', Bool.not_eq_false'] at *
                    simp only [keyGo, preB, ordK, winB, cntB, *, Bool.not_true, Bool.not_false, Bool.true_and, Bool.and_true, Bool.false_and, Bool.and_false] at h2
                    intro ρ w9 hm _
                    exact ⟨by rw [← h2]; rfl, hm.below⟩
                  · refine At.res 64 (decide (st < -4611687117939015680)) false (by kernel_rfl) b4 ?_
                    refine At.to (noF_stable) (noF_fewer) 0 200 [2, 3, 6, 7, 26, 27, 28, 69] 3 ⟨.code (sub B21 [1, 1, 1, 0, 1, 4, 4, 1, 1, 0, 4, 1, 1, 0, 1]), [.seq (sub B21 [1, 1, 1, 0, 1, 4, 4, 1, 1, 0, 4, 1, 1, 1]), .block 1, .seq (sub B21 [1, 1, 1, 0, 1, 4, 4, 1, 1, 1]), .next (Sx.Next w.heap.size w Tryd.f21.ntmps (frKy (some a) n c) (locKy g s k sz sl of gp lt ea d key dr (some a) n c) (GKy k n ws R) (muKy n) i), .block 0, .seq (sub B21 [1, 1, 1, 1])], [(2, .lp 0 0), (3, .lp 1 0), (6, .io .i64 (↑i : Int)), (7, .lp 2 0), (26, .sl (some a) n c), (27, .io .i64 (↑n : Int)), (28, .io .i64 (↑i : Int)), (69, .bo (decide (en > 4611687117939015680)))], [((cfgL g s k sz sl of gp lt ea d), 24), ([.so key, .io .i64 dr, .sl (some a) n c], 50), ([.io .i64 st, .io .i64 en, .io .i64 ho, .io .i64 co, .io .i64 su, .io .i64 mi, .io .i64 ma, .io .i64 si, .io .i64 pa], 89)]⟩ (by kernel_rfl) (by kernel_rfl) ?_
                    rcases Bool.eq_false_or_eq_true (decide (en > 4611687117939015680)) with b5 | b5
                    · refine At.res 69 (decide (en > 4611687117939015680)) true (by kernel_rfl) b5 ?_
                      refine At.to (noF_stable) (noF_fewer) 0 200 [4] 0 ⟨.exit .ret, [], [(4, .v (.int .i64 6))], []⟩ (by kernel_rfl) (by kernel_rfl) ?_
                      refine At.ret (by kernel_rfl) (.v (.int .i64 6)) (by kernel_rfl) ?_
                      try simp only [Bool.not_eq_true', Bool.not_eq_false'] at *
                      simp only [keyGo, preB, ordK, winB, cntB, *, Bool.not_true, Bool.not_false, Bool.true_and, Bool.and_true, Bool.false_and, Bool.and_false] at h2
                      intro ρ w9 hm _
                      exact ⟨by rw [← h2]; rfl, hm.below⟩
                    · refine At.res 69 (decide (en > 4611687117939015680)) false (by kernel_rfl) b5 ?_
                      refine At.to (noF_stable) (noF_fewer) 0 200 [2, 3, 6, 7, 26, 27, 28, 71] 3 ⟨.code (sub B21 [1, 1, 1, 0, 1, 4, 4, 1, 1, 0, 4, 1, 1, 1, 0, 1]), [.seq (sub B21 [1, 1, 1, 0, 1, 4, 4, 1, 1, 0, 4, 1, 1, 1, 1]), .block 1, .seq (sub B21 [1, 1, 1, 0, 1, 4, 4, 1, 1, 1]), .next (Sx.Next w.heap.size w Tryd.f21.ntmps (frKy (some a) n c) (locKy g s k sz sl of gp lt ea d key dr (some a) n c) (GKy k n ws R) (muKy n) i), .block 0, .seq (sub B21 [1, 1, 1, 1])], [(2, .lp 0 0), (3, .lp 1 0), (6, .io .i64 (↑i : Int)), (7, .lp 2 0), (26, .sl (some a) n c), (27, .io .i64 (↑n : Int)), (28, .io .i64 (↑i : Int)), (71, .bo ((↑i : Int) == 0))], [((cfgL g s k sz sl of gp lt ea d), 24), ([.so key, .io .i64 dr, .sl (some a) n c], 50), ([.io .i64 st, .io .i64 en, .io .i64 ho, .io .i64 co, .io .i64 su, .io .i64 mi, .io .i64 ma, .io .i64 si, .io .i64 pa], 89)]⟩ (by kernel_rfl) (by kernel_rfl) ?_
                      rcases Bool.eq_false_or_eq_true ((↑i : Int) == 0) with b6 | b6
                      · refine At.res 71 ((↑i : Int) == 0) true (by kernel_rfl) b6 ?_
                        refine At.to (noF_stable) (noF_fewer) 0 200 [2, 3, 26, 27, 28] 2 ⟨.exit .normal, [.next (Sx.Next w.heap.size w Tryd.f21.ntmps (frKy (some a) n c) (locKy g s k sz sl of gp lt ea d key dr (some a) n c) (GKy k n ws R) (muKy n) i), .block 0, .seq (sub B21 [1, 1, 1, 1])], [(2, .lp 0 0), (3, .lp 1 0), (26, .sl (some a) n c), (27, .io .i64 (↑n : Int)), (28, .io .i64 (IntKind.i64.wrap ((↑i : Int) + 1)))], [((cfgL g s k sz sl of gp lt ea d), 24), ([.so key, .io .i64 dr, .sl (some a) n c], 50)]⟩ (by kernel_rfl) (by kernel_rfl) ?_
                        have hi0 : i = 0 := by
                          have h := beq_iff_eq.1 ‹((i : Int) == 0) = true›
                          omega
                        have hp : prevAt ws i = none := by rw [hi0]; rfl
                        rw [hp] at h2
                        clear hp hi0

                        have hw2 : IntKind.i64.wrap ((i : Int) + 1) = ((i + 1 : Nat) : Int) := by
                          rw [wrap63 (by omega) (by omega)]
                          omega
                        rw [hw2]
                        clear hw2
                        refine At.next (σ := Nat) (i + 1) rfl rfl (by unfold subFr; kernel_rfl) (by kernel_rfl) ?_ ?_
                        · intro ρ a w hi' hf
                          try simp only [Bool.not_eq_true', Bool.not_eq_false'] at *
                          simp only [keyGo, preB, ordK, winB, cntB, *, Bool.not_true, Bool.not_false, Bool.true_and, Bool.and_true, Bool.false_and, Bool.and_false] at h2
                          exact ⟨hf, by omega, by rw [prev_pos (Nat.succ_pos i) hx]; exact h2⟩
                        · unfold muKy
                          omega
                      · refine At.res 71 ((↑i : Int) == 0) false (by kernel_rfl) b6 ?_
                        refine At.to (noF_stable) (noF_fewer) 0 200 [2, 3, 7, 26, 27, 28, 73, 75] 3 ⟨pops B21 [1, 1, 1, 0, 1, 4, 4, 1, 1, 0, 4, 1, 1, 1, 1, 0] 4, [.seq (sub B21 [1, 1, 1, 0, 1, 4, 4, 1, 1, 0, 4, 1, 1, 1, 1, 1]), .block 1, .seq (sub B21 [1, 1, 1, 0, 1, 4, 4, 1, 1, 1]), .next (Sx.Next w.heap.size w Tryd.f21.ntmps (frKy (some a) n c) (locKy g s k sz sl of gp lt ea d key dr (some a) n c) (GKy k n ws R) (muKy n) i), .block 0, .seq (sub B21 [1, 1, 1, 1])], [(2, .lp 0 0), (3, .lp 1 0), (7, .lp 2 0), (26, .sl (some a) n c), (27, .io .i64 (↑n : Int)), (28, .io .i64 (↑i : Int)), (73, .sl (some a) n c), (75, .io .i64 (IntKind.i64.wrap ((↑i : Int) - 1)))], [((cfgL g s k sz sl of gp lt ea d), 24), ([.so key, .io .i64 dr, .sl (some a) n c], 50), ([.io .i64 st, .io .i64 en, .io .i64 ho, .io .i64 co, .io .i64 su, .io .i64 mi, .io .i64 ma, .io .i64 si, .io .i64 pa], 89)]⟩ (by kernel_rfl) (by kernel_rfl) ?_
                        have hi0 : 0 < i := by
                          have h := beq_eq_false_iff_ne.1 ‹((i : Int) == 0) = false›
                          omega
                        have hw1 : IntKind.i64.wrap ((i : Int) - 1) = ((i - 1 : Nat) : Int) := by
                          rw [wrap63 (by omega) (by omega)]
                          omega
                        rw [hw1]
                        obtain ⟨⟨st1, en1, ho1, co1, su1, mi1, ma1, si1, pa1⟩, hy⟩ : ∃ y, ws[i - 1]? = some y := ⟨_, List.getElem?_eq_getElem (by omega)⟩
                        rw [prev_pos hi0 hy] at h2
                        refine At.idx a n 9 ((i - 1 : Nat) : Int) (by kernel_rfl) (by omega) (by omega) noF_stable ?_
                        refine At.lda (a.add (((i - 1 : Nat) : Int).toNat * 9)) 9 (wL ⟨st1, en1, ho1, co1, su1, mi1, ma1, si1, pa1⟩) (by kernel_rfl) rfl noF_stable (fun ρ w1 hm hf => by rw [Int.toNat_natCast]; exact (hw.below hm.below).cell hy) ?_
                        refine At.to (noF_stable) (noF_fewer) 0 200 [2, 3, 7, 9, 26, 27, 28, 85] 4 ⟨pops B21 [1, 1, 1, 0, 1, 4, 4, 1, 1, 0, 4, 1, 1, 1, 1, 1, 0] 8, [.seq (sub B21 [1, 1, 1, 0, 1, 4, 4, 1, 1, 0, 4, 1, 1, 1, 1, 1, 1]), .block 1, .seq (sub B21 [1, 1, 1, 0, 1, 4, 4, 1, 1, 1]), .next (Sx.Next w.heap.size w Tryd.f21.ntmps (frKy (some a) n c) (locKy g s k sz sl of gp lt ea d key dr (some a) n c) (GKy k n ws R) (muKy n) i), .block 0, .seq (sub B21 [1, 1, 1, 1])], [(2, .lp 0 0), (3, .lp 1 0), (7, .lp 2 0), (9, .lp 3 0), (26, .sl (some a) n c), (27, .io .i64 (↑n : Int)), (28, .io .i64 (↑i : Int)), (85, .bo (decide ((Wn.mk st1 en1 ho1 co1 su1 mi1 ma1 si1 pa1).st > st)))], [((cfgL g s k sz sl of gp lt ea d), 24), ([.so key, .io .i64 dr, .sl (some a) n c], 50), ([.io .i64 st, .io .i64 en, .io .i64 ho, .io .i64 co, .io .i64 su, .io .i64 mi, .io .i64 ma, .io .i64 si, .io .i64 pa], 89), ([.io .i64 st1, .io .i64 en1, .io .i64 ho1, .io .i64 co1, .io .i64 su1, .io .i64 mi1, .io .i64 ma1, .io .i64 si1, .io .i64 pa1], 89)]⟩ (by kernel_rfl) (by kernel_rfl) ?_
                        rcases Bool.eq_false_or_eq_true (decide ((Wn.mk st1 en1 ho1 co1 su1 mi1 ma1 si1 pa1).st > st)) with b0 | b0
                        · refine At.res 85 (decide ((Wn.mk st1 en1 ho1 co1 su1 mi1 ma1 si1 pa1).st > st)) true (by kernel_rfl) b0 ?_
                          refine At.to (noF_stable) (noF_fewer) 0 200 [4] 0 ⟨.exit .ret, [], [(4, .v (.int .i64 6))], []⟩ (by kernel_rfl) (by kernel_rfl) ?_
                          refine At.ret (by kernel_rfl) (.v (.int .i64 6)) (by kernel_rfl) ?_
                          try simp only [Bool.not_eq_true', Bool.not_eq_false'] at *
                          simp only [keyGo, preB, ordK, winB, cntB, *, Bool.not_true, Bool.not_false, Bool.true_and, Bool.and_true, Bool.false_and, Bool.and_false] at h2
                          intro ρ w9 hm _
                          exact ⟨by rw [← h2]; rfl, hm.below⟩
                        · refine At.res 85 (decide ((Wn.mk st1 en1 ho1 co1 su1 mi1 ma1 si1 pa1).st > st)) false (by kernel_rfl) b0 ?_
                          refine At.to (noF_stable) (noF_fewer) 0 200 [2, 3, 7, 9, 26, 27, 28, 85, 93] 4 ⟨pops B21 [1, 1, 1, 0, 1, 4, 4, 1, 1, 0, 4, 1, 1, 1, 1, 1, 0] 16, [.seq (sub B21 [1, 1, 1, 0, 1, 4, 4, 1, 1, 0, 4, 1, 1, 1, 1, 1, 1]), .block 1, .seq (sub B21 [1, 1, 1, 0, 1, 4, 4, 1, 1, 1]), .next (Sx.Next w.heap.size w Tryd.f21.ntmps (frKy (some a) n c) (locKy g s k sz sl of gp lt ea d key dr (some a) n c) (GKy k n ws R) (muKy n) i), .block 0, .seq (sub B21 [1, 1, 1, 1])], [(2, .lp 0 0), (3, .lp 1 0), (7, .lp 2 0), (9, .lp 3 0), (26, .sl (some a) n c), (27, .io .i64 (↑n : Int)), (28, .io .i64 (↑i : Int)), (85, .v (.bool false)), (93, .bo (st1 == st))], [((cfgL g s k sz sl of gp lt ea d), 24), ([.so key, .io .i64 dr, .sl (some a) n c], 50), ([.io .i64 st, .io .i64 en, .io .i64 ho, .io .i64 co, .io .i64 su, .io .i64 mi, .io .i64 ma, .io .i64 si, .io .i64 pa], 89), ([.io .i64 st1, .io .i64 en1, .io .i64 ho1, .io .i64 co1, .io .i64 su1, .io .i64 mi1, .io .i64 ma1, .io .i64 si1, .io .i64 pa1], 89)]⟩ (by kernel_rfl) (by kernel_rfl) ?_
                          rcases Bool.eq_false_or_eq_true (st1 == st) with b1 | b1
                          · refine At.res 93 (st1 == st) true (by kernel_rfl) b1 ?_
                            refine At.to (noF_stable) (noF_fewer) 0 200 [2, 3, 7, 9, 26, 27, 28, 103] 4 ⟨pops B21 [1, 1, 1, 0, 1, 4, 4, 1, 1, 0, 4, 1, 1, 1, 1, 1, 0] 26, [.seq (sub B21 [1, 1, 1, 0, 1, 4, 4, 1, 1, 0, 4, 1, 1, 1, 1, 1, 1]), .block 1, .seq (sub B21 [1, 1, 1, 0, 1, 4, 4, 1, 1, 1]), .next (Sx.Next w.heap.size w Tryd.f21.ntmps (frKy (some a) n c) (locKy g s k sz sl of gp lt ea d key dr (some a) n c) (GKy k n ws R) (muKy n) i), .block 0, .seq (sub B21 [1, 1, 1, 1])], [(2, .lp 0 0), (3, .lp 1 0), (7, .lp 2 0), (9, .lp 3 0), (26, .sl (some a) n c), (27, .io .i64 (↑n : Int)), (28, .io .i64 (↑i : Int)), (103, .bo (decide (en1 ≥ en)))], [((cfgL g s k sz sl of gp lt ea d), 24), ([.so key, .io .i64 dr, .sl (some a) n c], 50), ([.io .i64 st, .io .i64 en, .io .i64 ho, .io .i64 co, .io .i64 su, .io .i64 mi, .io .i64 ma, .io .i64 si, .io .i64 pa], 89), ([.io .i64 st1, .io .i64 en1, .io .i64 ho1, .io .i64 co1, .io .i64 su1, .io .i64 mi1, .io .i64 ma1, .io .i64 si1, .io .i64 pa1], 89)]⟩ (by kernel_rfl) (by kernel_rfl) ?_
                            rcases Bool.eq_false_or_eq_true (decide (en1 ≥ en)) with b2 | b2
                            · refine At.res 103 (decide (en1 ≥ en)) true (by kernel_rfl) b2 ?_
                              refine At.to (noF_stable) (noF_fewer) 0 200 [4] 0 ⟨.exit .ret, [], [(4, .v (.int .i64 6))], []⟩ (by kernel_rfl) (by kernel_rfl) ?_
                              refine At.ret (by kernel_rfl) (.v (.int .i64 6)) (by kernel_rfl) ?_
                              try simp only [Bool.not_eq_true', Bool.not_eq_false'] at *
                              simp only [keyGo, preB, ordK, winB, cntB, *, Bool.not_true, Bool.not_false, Bool.true_and, Bool.and_true, Bool.false_and, Bool.and_false] at h2
                              intro ρ w9 hm _
                              exact ⟨by rw [← h2]; rfl, hm.below⟩
                            · refine At.res 103 (decide (en1 ≥ en)) false (by kernel_rfl) b2 ?_
                              refine At.to (noF_stable) (noF_fewer) 0 200 [2, 3, 7, 9, 26, 27, 28, 103, 107] 4 ⟨pops B21 [1, 1, 1, 0, 1, 4, 4, 1, 1, 0, 4, 1, 1, 1, 1, 1, 0] 30, [.seq (sub B21 [1, 1, 1, 0, 1, 4, 4, 1, 1, 0, 4, 1, 1, 1, 1, 1, 1]), .block 1, .seq (sub B21 [1, 1, 1, 0, 1, 4, 4, 1, 1, 1]), .next (Sx.Next w.heap.size w Tryd.f21.ntmps (frKy (some a) n c) (locKy g s k sz sl of gp lt ea d key dr (some a) n c) (GKy k n ws R) (muKy n) i), .block 0, .seq (sub B21 [1, 1, 1, 1])], [(2, .lp 0 0), (3, .lp 1 0), (7, .lp 2 0), (9, .lp 3 0), (26, .sl (some a) n c), (27, .io .i64 (↑n : Int)), (28, .io .i64 (↑i : Int)), (103, .v (.bool false)), (107, .bo (k == 3))], [((cfgL g s k sz sl of gp lt ea d), 24), ([.so key, .io .i64 dr, .sl (some a) n c], 50), ([.io .i64 st, .io .i64 en, .io .i64 ho, .io .i64 co, .io .i64 su, .io .i64 mi, .io .i64 ma, .io .i64 si, .io .i64 pa], 89), ([.io .i64 st1, .io .i64 en1, .io .i64 ho1, .io .i64 co1, .io .i64 su1, .io .i64 mi1, .io .i64 ma1, .io .i64 si1, .io .i64 pa1], 89)]⟩ (by kernel_rfl) (by kernel_rfl) ?_
                              rcases Bool.eq_false_or_eq_true (k == 3) with b3 | b3
                              · refine At.res 107 (k == 3) true (by kernel_rfl) b3 ?_
                                refine At.to (noF_stable) (noF_fewer) 0 200 [2, 3, 26, 27, 28, 116] 2 ⟨.code (sub B21 [1, 1, 1, 0, 1, 4, 4, 1, 1, 0, 4, 1, 1, 1, 1, 1, 1]), [.block 1, .seq (sub B21 [1, 1, 1, 0, 1, 4, 4, 1, 1, 1]), .next (Sx.Next w.heap.size w Tryd.f21.ntmps (frKy (some a) n c) (locKy g s k sz sl of gp lt ea d key dr (some a) n c) (GKy k n ws R) (muKy n) i), .block 0, .seq (sub B21 [1, 1, 1, 1])], [(2, .lp 0 0), (3, .lp 1 0), (26, .sl (some a) n c), (27, .io .i64 (↑n : Int)), (28, .io .i64 (↑i : Int)), (116, .bo (decide (en1 > st)))], [((cfgL g s k sz sl of gp lt ea d), 24), ([.so key, .io .i64 dr, .sl (some a) n c], 50)]⟩ (by kernel_rfl) (by kernel_rfl) ?_
                                rcases Bool.eq_false_or_eq_true (decide (en1 > st)) with b4 | b4
                                · refine At.res 116 (decide (en1 > st)) true (by kernel_rfl) b4 ?_
                                  refine At.to (noF_stable) (noF_fewer) 0 200 [4] 0 ⟨.exit .ret, [], [(4, .v (.int .i64 6))], []⟩ (by kernel_rfl) (by kernel_rfl) ?_
                                  refine At.ret (by kernel_rfl) (.v (.int .i64 6)) (by kernel_rfl) ?_
                                  try simp only [Bool.not_eq_true', Bool.not_eq_false'] at *
                                  simp only [keyGo, preB, ordK, winB, cntB, *, Bool.not_true, Bool.not_false, Bool.true_and, Bool.and_true, Bool.false_and, Bool.and_false] at h2
                                  intro ρ w9 hm _
                                  exact ⟨by rw [← h2]; rfl, hm.below⟩
                                · refine At.res 116 (decide (en1 > st)) false (by kernel_rfl) b4 ?_
                                  refine At.to (noF_stable) (noF_fewer) 0 200 [2, 3, 26, 27, 28] 2 ⟨.exit .normal, [.next (Sx.Next w.heap.size w Tryd.f21.ntmps (frKy (some a) n c) (locKy g s k sz sl of gp lt ea d key dr (some a) n c) (GKy k n ws R) (muKy n) i), .block 0, .seq (sub B21 [1, 1, 1, 1])], [(2, .lp 0 0), (3, .lp 1 0), (26, .sl (some a) n c), (27, .io .i64 (↑n : Int)), (28, .io .i64 (IntKind.i64.wrap ((↑i : Int) + 1)))], [((cfgL g s k sz sl of gp lt ea d), 24), ([.so key, .io .i64 dr, .sl (some a) n c], 50)]⟩ (by kernel_rfl) (by kernel_rfl) ?_
                                  have hw2 : IntKind.i64.wrap ((i : Int) + 1) = ((i + 1 : Nat) : Int) := by
                                    rw [wrap63 (by omega) (by omega)]
                                    omega
                                  rw [hw2]
                                  clear hw2
                                  refine At.next (σ := Nat) (i + 1) rfl rfl (by unfold subFr; kernel_rfl) (by kernel_rfl) ?_ ?_
                                  · intro ρ a w hi' hf
                                    try simp only [Bool.not_eq_true', Bool.not_eq_false'] at *
                                    simp only [keyGo, preB, ordK, winB, cntB, *, Bool.not_true, Bool.not_false, Bool.true_and, Bool.and_true, Bool.false_and, Bool.and_false] at h2
                                    exact ⟨hf, by omega, by rw [prev_pos (Nat.succ_pos i) hx]; exact h2⟩
                                  · unfold muKy
                                    omega
                              · refine At.res 107 (k == 3) false (by kernel_rfl) b3 ?_
                                refine At.to (noF_stable) (noF_fewer) 0 200 [2, 3, 26, 27, 28] 2 ⟨.exit .normal, [.next (Sx.Next w.heap.size w Tryd.f21.ntmps (frKy (some a) n c) (locKy g s k sz sl of gp lt ea d key dr (some a) n c) (GKy k n ws R) (muKy n) i), .block 0, .seq (sub B21 [1, 1, 1, 1])], [(2, .lp 0 0), (3, .lp 1 0), (26, .sl (some a) n c), (27, .io .i64 (↑n : Int)), (28, .io .i64 (IntKind.i64.wrap ((↑i : Int) + 1)))], [((cfgL g s k sz sl of gp lt ea d), 24), ([.so key, .io .i64 dr, .sl (some a) n c], 50)]⟩ (by kernel_rfl) (by kernel_rfl) ?_
                                have hw2 : IntKind.i64.wrap ((i : Int) + 1) = ((i + 1 : Nat) : Int) := by
                                  rw [wrap63 (by omega) (by omega)]
                                  omega
                                rw [hw2]
                                clear hw2
                                refine At.next (σ := Nat) (i + 1) rfl rfl (by unfold subFr; kernel_rfl) (by kernel_rfl) ?_ ?_
                                · intro ρ a w hi' hf
                                  try simp only [Bool.not_eq_true', Bool.not_eq_false'] at *
                                  simp only [keyGo, preB, ordK, winB, cntB, *, Bool.not_true, Bool.not_false, Bool.true_and, Bool.and_true, Bool.false_and, Bool.and_false] at h2
                                  exact ⟨hf, by omega, by rw [prev_pos (Nat.succ_pos i) hx]; exact h2⟩
                                · unfold muKy
                                  omega
                          · refine At.res 93 (st1 == st) false (by kernel_rfl) b1 ?_
                            refine At.to (noF_stable) (noF_fewer) 0 200 [2, 3, 7, 9, 26, 27, 28, 103, 107] 4 ⟨pops B21 [1, 1, 1, 0, 1, 4, 4, 1, 1, 0, 4, 1, 1, 1, 1, 1, 0] 30, [.seq (sub B21 [1, 1, 1, 0, 1, 4, 4, 1, 1, 0, 4, 1, 1, 1, 1, 1, 1]), .block 1, .seq (sub B21 [1, 1, 1, 0, 1, 4, 4, 1, 1, 1]), .next (Sx.Next w.heap.size w Tryd.f21.ntmps (frKy (some a) n c) (locKy g s k sz sl of gp lt ea d key dr (some a) n c) (GKy k n ws R) (muKy n) i), .block 0, .seq (sub B21 [1, 1, 1, 1])], [(2, .lp 0 0), (3, .lp 1 0), (7, .lp 2 0), (9, .lp 3 0), (26, .sl (some a) n c), (27, .io .i64 (↑n : Int)), (28, .io .i64 (↑i : Int)), (103, .v (.bool false)), (107, .bo (k == 3))], [((cfgL g s k sz sl of gp lt ea d), 24), ([.so key, .io .i64 dr, .sl (some a) n c], 50), ([.io .i64 st, .io .i64 en, .io .i64 ho, .io .i64 co, .io .i64 su, .io .i64 mi, .io .i64 ma, .io .i64 si, .io .i64 pa], 89), ([.io .i64 st1, .io .i64 en1, .io .i64 ho1, .io .i64 co1, .io .i64 su1, .io .i64 mi1, .io .i64 ma1, .io .i64 si1, .io .i64 pa1], 89)]⟩ (by kernel_rfl) (by kernel_rfl) ?_
                            rcases Bool.eq_false_or_eq_true (k == 3) with b5 | b5
                            · refine At.res 107 (k == 3) true (by kernel_rfl) b5 ?_
                              refine At.to (noF_stable) (noF_fewer) 0 200 [2, 3, 26, 27, 28, 116] 2 ⟨.code (sub B21 [1, 1, 1, 0, 1, 4, 4, 1, 1, 0, 4, 1, 1, 1, 1, 1, 1]), [.block 1, .seq (sub B21 [1, 1, 1, 0, 1, 4, 4, 1, 1, 1]), .next (Sx.Next w.heap.size w Tryd.f21.ntmps (frKy (some a) n c) (locKy g s k sz sl of gp lt ea d key dr (some a) n c) (GKy k n ws R) (muKy n) i), .block 0, .seq (sub B21 [1, 1, 1, 1])], [(2, .lp 0 0), (3, .lp 1 0), (26, .sl (some a) n c), (27, .io .i64 (↑n : Int)), (28, .io .i64 (↑i : Int)), (116, .bo (decide (en1 > st)))], [((cfgL g s k sz sl of gp lt ea d), 24), ([.so key, .io .i64 dr, .sl (some a) n c], 50)]⟩ (by kernel_rfl) (by kernel_rfl) ?_
                              rcases Bool.eq_false_or_eq_true (decide (en1 > st)) with b6 | b6
                              · refine At.res 116 (decide (en1 > st)) true (by kernel_rfl) b6 ?_
                                refine At.to (noF_stable) (noF_fewer) 0 200 [4] 0 ⟨.exit .ret, [], [(4, .v (.int .i64 6))], []⟩ (by kernel_rfl) (by kernel_rfl) ?_
                                refine At.ret (by kernel_rfl) (.v (.int .i64 6)) (by kernel_rfl) ?_
                                try simp only [Bool.not_eq_true', Bool.not_eq_false'] at *
                                simp only [keyGo, preB, ordK, winB, cntB, *, Bool.not_true, Bool.not_false, Bool.true_and, Bool.and_true, Bool.false_and, Bool.and_false] at h2
                                intro ρ w9 hm _
                                exact ⟨by rw [← h2]; rfl, hm.below⟩
                              · refine At.res 116 (decide (en1 > st)) false (by kernel_rfl) b6 ?_
                                refine At.to (noF_stable) (noF_fewer) 0 200 [2, 3, 26, 27, 28] 2 ⟨.exit .normal, [.next (Sx.Next w.heap.size w Tryd.f21.ntmps (frKy (some a) n c) (locKy g s k sz sl of gp lt ea d key dr (some a) n c) (GKy k n ws R) (muKy n) i), .block 0, .seq (sub B21 [1, 1, 1, 1])], [(2, .lp 0 0), (3, .lp 1 0), (26, .sl (some a) n c), (27, .io .i64 (↑n : Int)), (28, .io .i64 (IntKind.i64.wrap ((↑i : Int) + 1)))], [((cfgL g s k sz sl of gp lt ea d), 24), ([.so key, .io .i64 dr, .sl (some a) n c], 50)]⟩ (by kernel_rfl) (by kernel_rfl) ?_
                                have hw2 : IntKind.i64.wrap ((i : Int) + 1) = ((i + 1 : Nat) : Int) := by
                                  rw [wrap63 (by omega) (by omega)]
                                  omega
                                rw [hw2]
                                clear hw2
                                refine At.next (σ := Nat) (i + 1) rfl rfl (by unfold subFr; kernel_rfl) (by kernel_rfl) ?_ ?_
                                · intro ρ a w hi' hf
                                  try simp only [Bool.not_eq_true', Bool.not_eq_false'] at *
                                  simp only [keyGo, preB, ordK, winB, cntB, *, Bool.not_true, Bool.not_false, Bool.true_and, Bool.and_true, Bool.false_and, Bool.and_false] at h2
                                  exact ⟨hf, by omega, by rw [prev_pos (Nat.succ_pos i) hx]; exact h2⟩
                                · unfold muKy
                                  omega
                            · refine At.res 107 (k == 3) false (by kernel_rfl) b5 ?_
                              refine At.to (noF_stable) (noF_fewer) 0 200 [2, 3, 26, 27, 28] 2 ⟨.exit .normal, [.next (Sx.Next w.heap.size w Tryd.f21.ntmps (frKy (some a) n c) (locKy g s k sz sl of gp lt ea d key dr (some a) n c) (GKy k n ws R) (muKy n) i), .block 0, .seq (sub B21 [1, 1, 1, 1])], [(2, .lp 0 0), (3, .lp 1 0), (26, .sl (some a) n c), (27, .io .i64 (↑n : Int)), (28, .io .i64 (IntKind.i64.wrap ((↑i : Int) + 1)))], [((cfgL g s k sz sl of gp lt ea d), 24), ([.so key, .io .i64 dr, .sl (some a) n c], 50)]⟩ (by kernel_rfl) (by kernel_rfl) ?_
                              have hw2 : IntKind.i64.wrap ((i : Int) + 1) = ((i + 1 : Nat) : Int) := by
                                rw [wrap63 (by omega) (by omega)]
                                omega
                              rw [hw2]
                              clear hw2
                              refine At.next (σ := Nat) (i + 1) rfl rfl (by unfold subFr; kernel_rfl) (by kernel_rfl) ?_ ?_
                              · intro ρ a w hi' hf
                                try simp only [Bool.not_eq_true', Bool.not_eq_false'] at *
                                simp only [keyGo, preB, ordK, winB, cntB, *, Bool.not_true, Bool.not_false, Bool.true_and, Bool.and_true, Bool.false_and, Bool.and_false] at h2
                                exact ⟨hf, by omega, by rw [prev_pos (Nat.succ_pos i) hx]; exact h2⟩
                              · unfold muKy
                                omega
            · refine At.res 42 (decide (0 ≤ si) && decide (si ≤ 9007199254740992)) false (by kernel_rfl) b1 ?_
              refine At.to (noF_stable) (noF_fewer) 0 200 [4] 0 ⟨.exit .ret, [], [(4, .v (.int .i64 6))], []⟩ (by kernel_rfl) (by kernel_rfl) ?_
              refine At.ret (by kernel_rfl) (.v (.int .i64 6)) (by kernel_rfl) ?_
              try simp only [Bool.not_eq_true', Bool.not_eq_false'] at *
              simp only [keyGo, preB, ordK, winB, cntB, *, Bool.not_true, Bool.not_false, Bool.true_and, Bool.and_true, Bool.false_and, Bool.and_false] at h2
              intro ρ w9 hm _
              exact ⟨by rw [← h2]; rfl, hm.below⟩
          · refine At.res 37 (decide (0 ≤ co) && decide (co ≤ 9007199254740992)) false (by kernel_rfl) b0 ?_
            refine At.to (noF_stable) (noF_fewer) 0 200 [4] 0 ⟨.exit .ret, [], [(4, .v (.int .i64 6))], []⟩ (by kernel_rfl) (by kernel_rfl) ?_
            refine At.ret (by kernel_rfl) (.v (.int .i64 6)) (by kernel_rfl) ?_
            try simp only [Bool.not_eq_true', Bool.not_eq_false'] at *
            simp only [keyGo, preB, ordK, winB, cntB, *, Bool.not_true, Bool.not_false, Bool.true_and, Bool.and_true, Bool.false_and, Bool.and_false] at h2
            intro ρ w9 hm _
            exact ⟨by rw [← h2]; rfl, hm.below⟩
        · refine At.res 29 (decide ((↑i : Int) < (↑n : Int))) false (by kernel_rfl) b0 ?_
          refine At.to (noF_stable) (noF_fewer) 0 200 [4] 0 ⟨.exit .ret, [], [(4, .v (.int .i64 0))], []⟩ (by kernel_rfl) (by kernel_rfl) ?_
          refine At.ret (by kernel_rfl) (.v (.int .i64 0)) (by kernel_rfl) ?_
          have hi : ¬ (i : Int) < n := of_decide_eq_false b0
          have hd : ws.drop i = [] := List.drop_eq_nil_of_le (by omega)
          rw [hd] at h2
          intro ρ w9 hm _
          exact ⟨by rw [← h2]; rfl, hm.below⟩

end Go.Proofs.YtiehnigbcfkcdaaDoor
