import Derived.Test.YtiehnigbcfkcdaaDoorZ
set_option linter.unusedSimpArgs false
set_option linter.unusedVariables false
namespace Go.Proofs.YtiehnigbcfkcdaaDoor
open Go.RowKit Go.Sx

theorem take_w {α : Type} : ∀ {l : List α} {j : Nat} {b : α}, l[j]? = some b → l.take (j + 1) = l.take j ++ [b] := fun {l j b} h => by
  rw [List.take_add_one, h]
  rfl
/-- The reference's order. -/
def ordR (l x : Wn) : Bool := decide (l.st < x.st) || ((l.st == x.st) && decide (l.en < x.en))
def lapB (l x : Wn) : Bool := decide (l.st < x.en) && decide (x.st < l.en)
def ordP : Option Wn → Wn → Bool
  | none, _ => true
  | some l, x => ordR l x
def rkeyGo (k : Int) : Option Wn → List Wn → List Wn → Bool
  | _, _, [] => true
  | p, pre, x :: r => winB x && (ordP p x && ((bif k == 3 then pre.all (fun y => !lapB y x) else true) && rkeyGo k (some x) (pre ++ [x]) r))
def rkeyB (k : Int) (key : ByteArray) (dr : Int) (ws : List Wn) : Bool := bif decide ((key.size : Int) > 256) then false else bif !(cntB dr) then false else rkeyGo k none [] ws

noncomputable def B46 : Code := (Tryd.f46.body).getD .skip
set_option maxHeartbeats 4000000 in
set_option maxRecDepth 100000 in
theorem ordered_any (st1 en1 ho1 co1 su1 mi1 ma1 si1 pa1 st2 en2 ho2 co2 su2 mi2 ma2 si2 pa2 : Int) (w : World) : Calls Tryd.prog 46 #[.agg #[.int .i64 st1, .int .i64 en1, .int .i64 ho1, .int .i64 co1, .int .i64 su1, .int .i64 mi1, .int .i64 ma1, .int .i64 si1, .int .i64 pa1], .agg #[.int .i64 st2, .int .i64 en2, .int .i64 ho2, .int .i64 co2, .int .i64 su2, .int .i64 mi2, .int .i64 ma2, .int .i64 si2, .int .i64 pa2]] w fun e w' => e = .returned (.bool (ordR ⟨st1, en1, ho1, co1, su1, mi1, ma1, si1, pa1⟩ ⟨st2, en2, ho2, co2, su2, mi2, ma2, si2, pa2⟩)) ∧ Below w.heap.size w w' := by
  refine enter (fn := Tryd.f46) (c := B46) [.agg [.io .i64 st1, .io .i64 en1, .io .i64 ho1, .io .i64 co1, .io .i64 su1, .io .i64 mi1, .io .i64 ma1, .io .i64 si1, .io .i64 pa1], .agg [.io .i64 st2, .io .i64 en2, .io .i64 ho2, .io .i64 co2, .io .i64 su2, .io .i64 mi2, .io .i64 ma2, .io .i64 si2, .io .i64 pa2]] Tryd.func46 rfl rfl ?_
  refine At.to noF_stable noF_fewer 20 400 [2, 3, 12] 2 ⟨pops B46 [1, 0] 8, [.seq (sub B46 [1, 1])], [(2, .lp 0 0), (3, .lp 1 0), (12, .bo (decide (st1 < st2)))], [([.io .i64 st1, .io .i64 en1, .io .i64 ho1, .io .i64 co1, .io .i64 su1, .io .i64 mi1, .io .i64 ma1, .io .i64 si1, .io .i64 pa1], 89), ([.io .i64 st2, .io .i64 en2, .io .i64 ho2, .io .i64 co2, .io .i64 su2, .io .i64 mi2, .io .i64 ma2, .io .i64 si2, .io .i64 pa2], 89)]⟩ (by kernel_rfl) (by kernel_rfl) ?_
  rcases Bool.eq_false_or_eq_true (decide (st1 < st2)) with b0 | b0
  · refine At.res 12 (decide (st1 < st2)) true (by kernel_rfl) b0 ?_
    refine At.to noF_stable noF_fewer 20 400 [4] 0 ⟨.exit .ret, [], [(4, .v (.bool true))], []⟩ (by kernel_rfl) (by kernel_rfl) ?_
    refine At.ret (by kernel_rfl) (.v (.bool true)) (by kernel_rfl) ?_
    intro ρ w9 hw9 _
    exact ⟨by simp only [ordR, *, Bool.true_or, Bool.false_or, Bool.true_and, Bool.false_and] <;> rfl, hw9.below⟩
  · refine At.res 12 (decide (st1 < st2)) false (by kernel_rfl) b0 ?_
    refine At.to noF_stable noF_fewer 20 400 [2, 3, 12, 20] 2 ⟨pops B46 [1, 0] 16, [.seq (sub B46 [1, 1])], [(2, .lp 0 0), (3, .lp 1 0), (12, .v (.bool false)), (20, .bo (st1 == st2))], [([.io .i64 st1, .io .i64 en1, .io .i64 ho1, .io .i64 co1, .io .i64 su1, .io .i64 mi1, .io .i64 ma1, .io .i64 si1, .io .i64 pa1], 89), ([.io .i64 st2, .io .i64 en2, .io .i64 ho2, .io .i64 co2, .io .i64 su2, .io .i64 mi2, .io .i64 ma2, .io .i64 si2, .io .i64 pa2], 89)]⟩ (by kernel_rfl) (by kernel_rfl) ?_
    rcases Bool.eq_false_or_eq_true (st1 == st2) with b1 | b1
    · refine At.res 20 (st1 == st2) true (by kernel_rfl) b1 ?_
      refine At.to noF_stable noF_fewer 20 400 [4] 0 ⟨.exit .ret, [], [(4, .bo (decide (en1 < en2)))], []⟩ (by kernel_rfl) (by kernel_rfl) ?_
      refine At.ret (by kernel_rfl) (.bo (decide (en1 < en2))) (by kernel_rfl) ?_
      intro ρ w9 hw9 _
      exact ⟨by simp only [ordR, *, Bool.true_or, Bool.false_or, Bool.true_and, Bool.false_and] <;> rfl, hw9.below⟩
    · refine At.res 20 (st1 == st2) false (by kernel_rfl) b1 ?_
      refine At.to noF_stable noF_fewer 20 400 [4] 0 ⟨.exit .ret, [], [(4, .v (.bool false))], []⟩ (by kernel_rfl) (by kernel_rfl) ?_
      refine At.ret (by kernel_rfl) (.v (.bool false)) (by kernel_rfl) ?_
      intro ρ w9 hw9 _
      exact ⟨by simp only [ordR, *, Bool.true_or, Bool.false_or, Bool.true_and, Bool.false_and] <;> rfl, hw9.below⟩


def frRk (i : Nat) : Fr := [(2, .lp 0 0), (3, .lp 1 0), (5, .io .i64 (i : Int))]
def GRk (k : Int) (n : Nat) (ws : List Wn) (R : Bool) (i : Nat) (ρ : List Nat) (w : World) : Prop := noF ρ w ∧ (i ≤ n ∧ rkeyGo k (prevAt ws i) (ws.take i) (ws.drop i) = R)
def frRk2 (i j : Nat) : Fr := [(2, .lp 0 0), (3, .lp 1 0), (5, .io .i64 (i : Int)), (6, .lp 2 0), (7, .io .i64 (j : Int))]
def locRk2 (g s k sz sl of gp lt ea : Int) (d : Bool) (key : ByteArray) (dr : Int) (A : Option Addr) (n c : Nat) (x : Wn) (_ : Nat) : Go.Sx.Loc := [(cfgL g s k sz sl of gp lt ea d, 24), ([.so key, .io .i64 dr, .sl A n c], 50), (wL x, 89)]
def GRk2 (k : Int) (ws : List Wn) (x : Wn) (i : Nat) (R' R : Bool) (j : Nat) (ρ : List Nat) (w : World) : Prop := noF ρ w ∧ (j ≤ i ∧ ((bif k == 3 then ((ws.take i).drop j).all (fun y => !lapB y x) else true) && R') = R)

noncomputable def B22 : Code := (Tryd.f22.body).getD .skip
set_option maxHeartbeats 4000000 in
set_option maxRecDepth 100000 in
theorem rkey_any (g s k sz sl of gp lt ea : Int) (d : Bool) (key : ByteArray) (dr : Int) (A : Option Addr) (n c : Nat) (ws : List Wn) (hn : n ≤ 140737488355320) (w : World) (hw : SlW w A n ws) :
    Calls Tryd.prog 22 #[.agg #[.int .i64 g, .int .i64 s, .int .i64 k, .int .i64 sz, .int .i64 sl, .int .i64 of, .int .i64 gp, .int .i64 lt, .int .i64 ea, .bool d], .agg #[.string key, .int .i64 dr, .slice A n c]] w fun e w' => e = .returned (.bool (rkeyB k key dr ws)) ∧ Below w.heap.size w w' := by
  refine enter (fn := Tryd.f22) (c := B22) [.agg (cfgL g s k sz sl of gp lt ea d), .agg [.so key, .io .i64 dr, .sl A n c]] Tryd.func22 rfl rfl ?_
  refine At.to (noF_stable) (noF_fewer) 0 200 [2, 3, 12] 2 ⟨pops B22 [1, 0, 0] 5, [.seq (sub B22 [1, 0, 1]), .seq (sub B22 [1, 1])], [(2, .lp 0 0), (3, .lp 1 0), (12, .bo (decide ((↑key.size : Int) > 256)))], [((cfgL g s k sz sl of gp lt ea d), 24), ([.so key, .io .i64 dr, .sl A n c], 50)]⟩ (by kernel_rfl) (by kernel_rfl) ?_
  rcases Bool.eq_false_or_eq_true (decide ((↑key.size : Int) > 256)) with b0 | b0
  · refine At.res 12 (decide ((↑key.size : Int) > 256)) true (by kernel_rfl) b0 ?_
    refine At.to (noF_stable) (noF_fewer) 0 200 [4] 0 ⟨.exit .ret, [], [(4, .v (.bool false))], []⟩ (by kernel_rfl) (by kernel_rfl) ?_
    refine At.ret (by kernel_rfl) (.v (.bool false)) (by kernel_rfl) ?_
    intro ρ w9 hm _
    exact ⟨by simp only [rkeyB, b0, cond_true] <;> rfl, hm.below⟩
  · refine At.res 12 (decide ((↑key.size : Int) > 256)) false (by kernel_rfl) b0 ?_
    refine At.to (noF_stable) (noF_fewer) 0 200 [2, 3, 12, 14] 2 ⟨pops B22 [1, 0, 0] 7, [.seq (sub B22 [1, 0, 1]), .seq (sub B22 [1, 1])], [(2, .lp 0 0), (3, .lp 1 0), (12, .v (.bool false)), (14, .io .i64 dr)], [((cfgL g s k sz sl of gp lt ea d), 24), ([.so key, .io .i64 dr, .sl A n c], 50)]⟩ (by kernel_rfl) (by kernel_rfl) ?_
    refine At.call (noF_stable) 45 [.io .i64 dr, .v (.int .i64 0), .v (.int .i64 9007199254740992)] (.bo (decide (0 ≤ dr) && decide (dr ≤ 9007199254740992))) (by kernel_rfl) (by kernel_rfl) (by kernel_rfl) (fun _ _ w _ _ => rwithin_any (dr) (0) (9007199254740992) w) ?_
    refine At.to (noF_stable) (noF_fewer) 0 200 [2, 3, 17] 2 ⟨.code (sub B22 [1, 0, 1]), [.seq (sub B22 [1, 1])], [(2, .lp 0 0), (3, .lp 1 0), (17, .bo !(decide (0 ≤ dr) && decide (dr ≤ 9007199254740992)))], [((cfgL g s k sz sl of gp lt ea d), 24), ([.so key, .io .i64 dr, .sl A n c], 50)]⟩ (by kernel_rfl) (by kernel_rfl) ?_
    rcases Bool.eq_false_or_eq_true (!(decide (0 ≤ dr) && decide (dr ≤ 9007199254740992))) with b1 | b1
    · refine At.res 17 (!(decide (0 ≤ dr) && decide (dr ≤ 9007199254740992))) true (by kernel_rfl) b1 ?_
      refine At.to (noF_stable) (noF_fewer) 0 200 [4] 0 ⟨.exit .ret, [], [(4, .v (.bool false))], []⟩ (by kernel_rfl) (by kernel_rfl) ?_
      refine At.ret (by kernel_rfl) (.v (.bool false)) (by kernel_rfl) ?_
      intro ρ w9 hm _
      exact ⟨by simp only [rkeyB, cntB, b0, b1, cond_true, cond_false] <;> rfl, hm.below⟩
    · refine At.res 17 (!(decide (0 ≤ dr) && decide (dr ≤ 9007199254740992))) false (by kernel_rfl) b1 ?_
      refine At.to (noF_stable) (noF_fewer) 0 200 [2, 3, 5] 2 ⟨.code (sub B22 [1, 1, 0, 1, 4]), [.block 0, .seq (sub B22 [1, 1, 1])], [(2, .lp 0 0), (3, .lp 1 0), (5, .v (.int .i64 0))], [((cfgL g s k sz sl of gp lt ea d), 24), ([.so key, .io .i64 dr, .sl A n c], 50)]⟩ (by kernel_rfl) (by kernel_rfl) ?_
      have hE : rkeyB k key dr ws = rkeyGo k none [] ws := by simp only [rkeyB, cntB, b0, b1, cond_false]
      rw [hE]
      clear hE b0 b1
      generalize hR : rkeyGo k none [] ws = R
      refine At.canon _ rfl ?_
      refine At.loop (σ := Nat) (sub B22 [1, 1, 0, 1, 4, 4]) frRk (locKy g s k sz sl of gp lt ea d key dr A n c) (GRk k n ws R) (muKy n) 0 (by kernel_rfl) (by unfold subFr; kernel_rfl) (by kernel_rfl) (fun _ _ _ _ h => ⟨h, Nat.zero_le _, hR⟩) ?_
      clear hR
      intro i
      refine At.pure fun ⟨h1, h2⟩ => ?_
      have hl := hw.1
      refine At.to (noF_stable) (noF_fewer) 0 200 [2, 3, 5, 22] 2 ⟨.code (sub B22 [1, 1, 0, 1, 4, 4, 0, 1]), [.seq (sub B22 [1, 1, 0, 1, 4, 4, 1]), .next (Sx.Next w.heap.size w Tryd.f22.ntmps frRk (locKy g s k sz sl of gp lt ea d key dr A n c) (GRk k n ws R) (muKy n) i), .block 0, .seq (sub B22 [1, 1, 1])], [(2, .lp 0 0), (3, .lp 1 0), (5, .io .i64 (↑i : Int)), (22, .bo (decide ((↑i : Int) < (↑n : Int))))], [((cfgL g s k sz sl of gp lt ea d), 24), ([.so key, .io .i64 dr, .sl A n c], 50)]⟩ (by kernel_rfl) (by kernel_rfl) ?_
      rcases Bool.eq_false_or_eq_true (decide ((↑i : Int) < (↑n : Int))) with b0 | b0
      · refine At.res 22 (decide ((↑i : Int) < (↑n : Int))) true (by kernel_rfl) b0 ?_
        refine At.to (noF_stable) (noF_fewer) 0 200 [2, 3, 5, 26, 27] 2 ⟨pops B22 [1, 1, 0, 1, 4, 4, 1, 0, 4, 0] 3, [.seq (sub B22 [1, 1, 0, 1, 4, 4, 1, 0, 4, 1]), .block 1, .seq (sub B22 [1, 1, 0, 1, 4, 4, 1, 1]), .next (Sx.Next w.heap.size w Tryd.f22.ntmps frRk (locKy g s k sz sl of gp lt ea d key dr A n c) (GRk k n ws R) (muKy n) i), .block 0, .seq (sub B22 [1, 1, 1])], [(2, .lp 0 0), (3, .lp 1 0), (5, .io .i64 (↑i : Int)), (26, .sl A n c), (27, .io .i64 (↑i : Int))], [((cfgL g s k sz sl of gp lt ea d), 24), ([.so key, .io .i64 dr, .sl A n c], 50)]⟩ (by kernel_rfl) (by kernel_rfl) ?_
        have hi : i < n := by have := of_decide_eq_true b0; omega
        clear b0
        obtain ⟨a, rfl⟩ : ∃ a, A = some a := by
          cases A with
          | none => have := hw.2.1 rfl; subst this; simp at hl; omega
          | some a => exact ⟨a, rfl⟩
        obtain ⟨⟨st, en, ho, co, su, mi, ma, si, pa⟩, hx⟩ : ∃ x, ws[i]? = some x := ⟨_, List.getElem?_eq_getElem (by omega)⟩
        rw [drop_w hx] at h2
        refine At.idx a n 9 (i : Int) (by kernel_rfl) (by omega) (by omega) noF_stable ?_
        refine At.lda (a.add ((i : Int).toNat * 9)) 9 (wL ⟨st, en, ho, co, su, mi, ma, si, pa⟩) (by kernel_rfl) rfl noF_stable (fun ρ w1 hm hf => by rw [Int.toNat_natCast]; exact (hw.below hm.below).cell hx) ?_
        refine At.to (noF_stable) (noF_fewer) 0 200 [2, 3, 5, 6, 37] 3 ⟨pops B22 [1, 1, 0, 1, 4, 4, 1, 0, 4, 1, 0, 0] 8, [.seq (sub B22 [1, 1, 0, 1, 4, 4, 1, 0, 4, 1, 0, 1]), .seq (sub B22 [1, 1, 0, 1, 4, 4, 1, 0, 4, 1, 1]), .block 1, .seq (sub B22 [1, 1, 0, 1, 4, 4, 1, 1]), .next (Sx.Next w.heap.size w Tryd.f22.ntmps frRk (locKy g s k sz sl of gp lt ea d key dr (some a) n c) (GRk k n ws R) (muKy n) i), .block 0, .seq (sub B22 [1, 1, 1])], [(2, .lp 0 0), (3, .lp 1 0), (5, .io .i64 (↑i : Int)), (6, .lp 2 0), (37, .bo (decide ((Wn.mk st en ho co su mi ma si pa).st ≥ (Wn.mk st en ho co su mi ma si pa).en)))], [((cfgL g s k sz sl of gp lt ea d), 24), ([.so key, .io .i64 dr, .sl (some a) n c], 50), ([.io .i64 st, .io .i64 en, .io .i64 ho, .io .i64 co, .io .i64 su, .io .i64 mi, .io .i64 ma, .io .i64 si, .io .i64 pa], 89)]⟩ (by kernel_rfl) (by kernel_rfl) ?_
        rcases Bool.eq_false_or_eq_true (decide ((Wn.mk st en ho co su mi ma si pa).st ≥ (Wn.mk st en ho co su mi ma si pa).en)) with b0 | b0
        · refine At.res 37 (decide ((Wn.mk st en ho co su mi ma si pa).st ≥ (Wn.mk st en ho co su mi ma si pa).en)) true (by kernel_rfl) b0 ?_
          refine At.to (noF_stable) (noF_fewer) 0 200 [4] 0 ⟨.exit .ret, [], [(4, .v (.bool false))], []⟩ (by kernel_rfl) (by kernel_rfl) ?_
          refine At.ret (by kernel_rfl) (.v (.bool false)) (by kernel_rfl) ?_
          try simp only [Bool.not_eq_true', Bool.not_eq_false'] at *
          simp only [rkeyGo, ordP, winB, cntB, *, Bool.not_true, Bool.not_false, Bool.true_and, Bool.and_true, Bool.false_and, Bool.and_false, cond_true, cond_false] at h2
          intro ρ w9 hm _
          exact ⟨by rw [← h2]; rfl, hm.below⟩
        · refine At.res 37 (decide ((Wn.mk st en ho co su mi ma si pa).st ≥ (Wn.mk st en ho co su mi ma si pa).en)) false (by kernel_rfl) b0 ?_
          refine At.to (noF_stable) (noF_fewer) 0 200 [2, 3, 5, 6, 43] 3 ⟨pops B22 [1, 1, 0, 1, 4, 4, 1, 0, 4, 1, 0, 0] 14, [.seq (sub B22 [1, 1, 0, 1, 4, 4, 1, 0, 4, 1, 0, 1]), .seq (sub B22 [1, 1, 0, 1, 4, 4, 1, 0, 4, 1, 1]), .block 1, .seq (sub B22 [1, 1, 0, 1, 4, 4, 1, 1]), .next (Sx.Next w.heap.size w Tryd.f22.ntmps frRk (locKy g s k sz sl of gp lt ea d key dr (some a) n c) (GRk k n ws R) (muKy n) i), .block 0, .seq (sub B22 [1, 1, 1])], [(2, .lp 0 0), (3, .lp 1 0), (5, .io .i64 (↑i : Int)), (6, .lp 2 0), (43, .bo (decide (st < -4611687117939015680)))], [((cfgL g s k sz sl of gp lt ea d), 24), ([.so key, .io .i64 dr, .sl (some a) n c], 50), ([.io .i64 st, .io .i64 en, .io .i64 ho, .io .i64 co, .io .i64 su, .io .i64 mi, .io .i64 ma, .io .i64 si, .io .i64 pa], 89)]⟩ (by kernel_rfl) (by kernel_rfl) ?_
          rcases Bool.eq_false_or_eq_true (decide (st < -4611687117939015680)) with b1 | b1
          · refine At.res 43 (decide (st < -4611687117939015680)) true (by kernel_rfl) b1 ?_
            refine At.to (noF_stable) (noF_fewer) 0 200 [4] 0 ⟨.exit .ret, [], [(4, .v (.bool false))], []⟩ (by kernel_rfl) (by kernel_rfl) ?_
            refine At.ret (by kernel_rfl) (.v (.bool false)) (by kernel_rfl) ?_
            try simp only [Bool.not_eq_true', Bool.not_eq_false'] at *
            simp only [rkeyGo, ordP, winB, cntB, *, Bool.not_true, Bool.not_false, Bool.true_and, Bool.and_true, Bool.false_and, Bool.and_false, cond_true, cond_false] at h2
            intro ρ w9 hm _
            exact ⟨by rw [← h2]; rfl, hm.below⟩
          · refine At.res 43 (decide (st < -4611687117939015680)) false (by kernel_rfl) b1 ?_
            refine At.to (noF_stable) (noF_fewer) 0 200 [2, 3, 5, 6, 49] 3 ⟨pops B22 [1, 1, 0, 1, 4, 4, 1, 0, 4, 1, 0, 0] 20, [.seq (sub B22 [1, 1, 0, 1, 4, 4, 1, 0, 4, 1, 0, 1]), .seq (sub B22 [1, 1, 0, 1, 4, 4, 1, 0, 4, 1, 1]), .block 1, .seq (sub B22 [1, 1, 0, 1, 4, 4, 1, 1]), .next (Sx.Next w.heap.size w Tryd.f22.ntmps frRk (locKy g s k sz sl of gp lt ea d key dr (some a) n c) (GRk k n ws R) (muKy n) i), .block 0, .seq (sub B22 [1, 1, 1])], [(2, .lp 0 0), (3, .lp 1 0), (5, .io .i64 (↑i : Int)), (6, .lp 2 0), (49, .bo (decide (en > 4611687117939015680)))], [((cfgL g s k sz sl of gp lt ea d), 24), ([.so key, .io .i64 dr, .sl (some a) n c], 50), ([.io .i64 st, .io .i64 en, .io .i64 ho, .io .i64 co, .io .i64 su, .io .i64 mi, .io .i64 ma, .io .i64 si, .io .i64 pa], 89)]⟩ (by kernel_rfl) (by kernel_rfl) ?_
            rcases Bool.eq_false_or_eq_true (decide (en > 4611687117939015680)) with b2 | b2
            · refine At.res 49 (decide (en > 4611687117939015680)) true (by kernel_rfl) b2 ?_
              refine At.to (noF_stable) (noF_fewer) 0 200 [4] 0 ⟨.exit .ret, [], [(4, .v (.bool false))], []⟩ (by kernel_rfl) (by kernel_rfl) ?_
              refine At.ret (by kernel_rfl) (.v (.bool false)) (by kernel_rfl) ?_
              try simp only [Bool.not_eq_true', Bool.not_eq_false'] at *
              simp only [rkeyGo, ordP, winB, cntB, *, Bool.not_true, Bool.not_false, Bool.true_and, Bool.and_true, Bool.false_and, Bool.and_false, cond_true, cond_false] at h2
              intro ρ w9 hm _
              exact ⟨by rw [← h2]; rfl, hm.below⟩
            · refine At.res 49 (decide (en > 4611687117939015680)) false (by kernel_rfl) b2 ?_
              refine At.to (noF_stable) (noF_fewer) 0 200 [2, 3, 5, 6, 49, 52] 3 ⟨pops B22 [1, 1, 0, 1, 4, 4, 1, 0, 4, 1, 0, 0] 23, [.seq (sub B22 [1, 1, 0, 1, 4, 4, 1, 0, 4, 1, 0, 1]), .seq (sub B22 [1, 1, 0, 1, 4, 4, 1, 0, 4, 1, 1]), .block 1, .seq (sub B22 [1, 1, 0, 1, 4, 4, 1, 1]), .next (Sx.Next w.heap.size w Tryd.f22.ntmps frRk (locKy g s k sz sl of gp lt ea d key dr (some a) n c) (GRk k n ws R) (muKy n) i), .block 0, .seq (sub B22 [1, 1, 1])], [(2, .lp 0 0), (3, .lp 1 0), (5, .io .i64 (↑i : Int)), (6, .lp 2 0), (49, .v (.bool false)), (52, .io .i64 co)], [((cfgL g s k sz sl of gp lt ea d), 24), ([.so key, .io .i64 dr, .sl (some a) n c], 50), ([.io .i64 st, .io .i64 en, .io .i64 ho, .io .i64 co, .io .i64 su, .io .i64 mi, .io .i64 ma, .io .i64 si, .io .i64 pa], 89)]⟩ (by kernel_rfl) (by kernel_rfl) ?_
              refine At.call (noF_stable) 45 [.io .i64 co, .v (.int .i64 0), .v (.int .i64 9007199254740992)] (.bo (decide (0 ≤ co) && decide (co ≤ 9007199254740992))) (by kernel_rfl) (by kernel_rfl) (by kernel_rfl) (fun _ _ w _ _ => rwithin_any (co) (0) (9007199254740992) w) ?_
              refine At.to (noF_stable) (noF_fewer) 0 200 [2, 3, 5, 6, 56] 3 ⟨pops B22 [1, 1, 0, 1, 4, 4, 1, 0, 4, 1, 0, 0] 27, [.seq (sub B22 [1, 1, 0, 1, 4, 4, 1, 0, 4, 1, 0, 1]), .seq (sub B22 [1, 1, 0, 1, 4, 4, 1, 0, 4, 1, 1]), .block 1, .seq (sub B22 [1, 1, 0, 1, 4, 4, 1, 1]), .next (Sx.Next w.heap.size w Tryd.f22.ntmps frRk (locKy g s k sz sl of gp lt ea d key dr (some a) n c) (GRk k n ws R) (muKy n) i), .block 0, .seq (sub B22 [1, 1, 1])], [(2, .lp 0 0), (3, .lp 1 0), (5, .io .i64 (↑i : Int)), (6, .lp 2 0), (56, .bo !(decide (0 ≤ co) && decide (co ≤ 9007199254740992)))], [((cfgL g s k sz sl of gp lt ea d), 24), ([.so key, .io .i64 dr, .sl (some a) n c], 50), ([.io .i64 st, .io .i64 en, .io .i64 ho, .io .i64 co, .io .i64 su, .io .i64 mi, .io .i64 ma, .io .i64 si, .io .i64 pa], 89)]⟩ (by kernel_rfl) (by kernel_rfl) ?_
              rcases Bool.eq_false_or_eq_true (!(decide (0 ≤ co) && decide (co ≤ 9007199254740992))) with b3 | b3
              · refine At.res 56 (!(decide (0 ≤ co) && decide (co ≤ 9007199254740992))) true (by kernel_rfl) b3 ?_
                refine At.to (noF_stable) (noF_fewer) 0 200 [4] 0 ⟨.exit .ret, [], [(4, .v (.bool false))], []⟩ (by kernel_rfl) (by kernel_rfl) ?_
                refine At.ret (by kernel_rfl) (.v (.bool false)) (by kernel_rfl) ?_
                try simp only [Bool.not_eq_true', Bool.not_eq_false'] at *
                simp only [rkeyGo, ordP, winB, cntB, *, Bool.not_true, Bool.not_false, Bool.true_and, Bool.and_true, Bool.false_and, Bool.and_false, cond_true, cond_false] at h2
                intro ρ w9 hm _
                exact ⟨by rw [← h2]; rfl, hm.below⟩
              · refine At.res 56 (!(decide (0 ≤ co) && decide (co ≤ 9007199254740992))) false (by kernel_rfl) b3 ?_
                refine At.to (noF_stable) (noF_fewer) 0 200 [2, 3, 5, 6, 56, 58] 3 ⟨pops B22 [1, 1, 0, 1, 4, 4, 1, 0, 4, 1, 0, 0] 29, [.seq (sub B22 [1, 1, 0, 1, 4, 4, 1, 0, 4, 1, 0, 1]), .seq (sub B22 [1, 1, 0, 1, 4, 4, 1, 0, 4, 1, 1]), .block 1, .seq (sub B22 [1, 1, 0, 1, 4, 4, 1, 1]), .next (Sx.Next w.heap.size w Tryd.f22.ntmps frRk (locKy g s k sz sl of gp lt ea d key dr (some a) n c) (GRk k n ws R) (muKy n) i), .block 0, .seq (sub B22 [1, 1, 1])], [(2, .lp 0 0), (3, .lp 1 0), (5, .io .i64 (↑i : Int)), (6, .lp 2 0), (56, .v (.bool false)), (58, .io .i64 si)], [((cfgL g s k sz sl of gp lt ea d), 24), ([.so key, .io .i64 dr, .sl (some a) n c], 50), ([.io .i64 st, .io .i64 en, .io .i64 ho, .io .i64 co, .io .i64 su, .io .i64 mi, .io .i64 ma, .io .i64 si, .io .i64 pa], 89)]⟩ (by kernel_rfl) (by kernel_rfl) ?_
                refine At.call (noF_stable) 45 [.io .i64 si, .v (.int .i64 0), .v (.int .i64 9007199254740992)] (.bo (decide (0 ≤ si) && decide (si ≤ 9007199254740992))) (by kernel_rfl) (by kernel_rfl) (by kernel_rfl) (fun _ _ w _ _ => rwithin_any (si) (0) (9007199254740992) w) ?_
                refine At.to (noF_stable) (noF_fewer) 0 200 [2, 3, 5, 6, 62] 3 ⟨pops B22 [1, 1, 0, 1, 4, 4, 1, 0, 4, 1, 0, 0] 33, [.seq (sub B22 [1, 1, 0, 1, 4, 4, 1, 0, 4, 1, 0, 1]), .seq (sub B22 [1, 1, 0, 1, 4, 4, 1, 0, 4, 1, 1]), .block 1, .seq (sub B22 [1, 1, 0, 1, 4, 4, 1, 1]), .next (Sx.Next w.heap.size w Tryd.f22.ntmps frRk (locKy g s k sz sl of gp lt ea d key dr (some a) n c) (GRk k n ws R) (muKy n) i), .block 0, .seq (sub B22 [1, 1, 1])], [(2, .lp 0 0), (3, .lp 1 0), (5, .io .i64 (↑i : Int)), (6, .lp 2 0), (62, .bo !(decide (0 ≤ si) && decide (si ≤ 9007199254740992)))], [((cfgL g s k sz sl of gp lt ea d), 24), ([.so key, .io .i64 dr, .sl (some a) n c], 50), ([.io .i64 st, .io .i64 en, .io .i64 ho, .io .i64 co, .io .i64 su, .io .i64 mi, .io .i64 ma, .io .i64 si, .io .i64 pa], 89)]⟩ (by kernel_rfl) (by kernel_rfl) ?_
                rcases Bool.eq_false_or_eq_true (!(decide (0 ≤ si) && decide (si ≤ 9007199254740992))) with b4 | b4
                · refine At.res 62 (!(decide (0 ≤ si) && decide (si ≤ 9007199254740992))) true (by kernel_rfl) b4 ?_
                  refine At.to (noF_stable) (noF_fewer) 0 200 [4] 0 ⟨.exit .ret, [], [(4, .v (.bool false))], []⟩ (by kernel_rfl) (by kernel_rfl) ?_
                  refine At.ret (by kernel_rfl) (.v (.bool false)) (by kernel_rfl) ?_
                  try simp only [Bool.not_eq_true', Bool.not_eq_false'] at *
                  simp only [rkeyGo, ordP, winB, cntB, *, Bool.not_true, Bool.not_false, Bool.true_and, Bool.and_true, Bool.false_and, Bool.and_false, cond_true, cond_false] at h2
                  intro ρ w9 hm _
                  exact ⟨by rw [← h2]; rfl, hm.below⟩
                · refine At.res 62 (!(decide (0 ≤ si) && decide (si ≤ 9007199254740992))) false (by kernel_rfl) b4 ?_
                  refine At.to (noF_stable) (noF_fewer) 0 200 [2, 3, 5, 6, 62, 64] 3 ⟨pops B22 [1, 1, 0, 1, 4, 4, 1, 0, 4, 1, 0, 0] 35, [.seq (sub B22 [1, 1, 0, 1, 4, 4, 1, 0, 4, 1, 0, 1]), .seq (sub B22 [1, 1, 0, 1, 4, 4, 1, 0, 4, 1, 1]), .block 1, .seq (sub B22 [1, 1, 0, 1, 4, 4, 1, 1]), .next (Sx.Next w.heap.size w Tryd.f22.ntmps frRk (locKy g s k sz sl of gp lt ea d key dr (some a) n c) (GRk k n ws R) (muKy n) i), .block 0, .seq (sub B22 [1, 1, 1])], [(2, .lp 0 0), (3, .lp 1 0), (5, .io .i64 (↑i : Int)), (6, .lp 2 0), (62, .v (.bool false)), (64, .io .i64 pa)], [((cfgL g s k sz sl of gp lt ea d), 24), ([.so key, .io .i64 dr, .sl (some a) n c], 50), ([.io .i64 st, .io .i64 en, .io .i64 ho, .io .i64 co, .io .i64 su, .io .i64 mi, .io .i64 ma, .io .i64 si, .io .i64 pa], 89)]⟩ (by kernel_rfl) (by kernel_rfl) ?_
                  refine At.call (noF_stable) 45 [.io .i64 pa, .v (.int .i64 0), .v (.int .i64 9007199254740992)] (.bo (decide (0 ≤ pa) && decide (pa ≤ 9007199254740992))) (by kernel_rfl) (by kernel_rfl) (by kernel_rfl) (fun _ _ w _ _ => rwithin_any (pa) (0) (9007199254740992) w) ?_
                  refine At.to (noF_stable) (noF_fewer) 0 200 [2, 3, 5, 6, 67] 3 ⟨.code (sub B22 [1, 1, 0, 1, 4, 4, 1, 0, 4, 1, 0, 1]), [.seq (sub B22 [1, 1, 0, 1, 4, 4, 1, 0, 4, 1, 1]), .block 1, .seq (sub B22 [1, 1, 0, 1, 4, 4, 1, 1]), .next (Sx.Next w.heap.size w Tryd.f22.ntmps frRk (locKy g s k sz sl of gp lt ea d key dr (some a) n c) (GRk k n ws R) (muKy n) i), .block 0, .seq (sub B22 [1, 1, 1])], [(2, .lp 0 0), (3, .lp 1 0), (5, .io .i64 (↑i : Int)), (6, .lp 2 0), (67, .bo !(decide (0 ≤ pa) && decide (pa ≤ 9007199254740992)))], [((cfgL g s k sz sl of gp lt ea d), 24), ([.so key, .io .i64 dr, .sl (some a) n c], 50), ([.io .i64 st, .io .i64 en, .io .i64 ho, .io .i64 co, .io .i64 su, .io .i64 mi, .io .i64 ma, .io .i64 si, .io .i64 pa], 89)]⟩ (by kernel_rfl) (by kernel_rfl) ?_
                  rcases Bool.eq_false_or_eq_true (!(decide (0 ≤ pa) && decide (pa ≤ 9007199254740992))) with b5 | b5
                  · refine At.res 67 (!(decide (0 ≤ pa) && decide (pa ≤ 9007199254740992))) true (by kernel_rfl) b5 ?_
                    refine At.to (noF_stable) (noF_fewer) 0 200 [4] 0 ⟨.exit .ret, [], [(4, .v (.bool false))], []⟩ (by kernel_rfl) (by kernel_rfl) ?_
                    refine At.ret (by kernel_rfl) (.v (.bool false)) (by kernel_rfl) ?_
                    try simp only [Bool.not_eq_true', Bool.not_eq_false'] at *
                    simp only [rkeyGo, ordP, winB, cntB, *, Bool.not_true, Bool.not_false, Bool.true_and, Bool.and_true, Bool.false_and, Bool.and_false, cond_true, cond_false] at h2
                    intro ρ w9 hm _
                    exact ⟨by rw [← h2]; rfl, hm.below⟩
                  · refine At.res 67 (!(decide (0 ≤ pa) && decide (pa ≤ 9007199254740992))) false (by kernel_rfl) b5 ?_
                    refine At.to (noF_stable) (noF_fewer) 0 200 [2, 3, 5, 6, 70] 3 ⟨pqops B22 [1, 1, 0, 1, 4, 4, 1, 0, 4, 1, 1, 0, 0] 3, [.seq (sub B22 [1, 1, 0, 1, 4, 4, 1, 0, 4, 1, 1, 0, 1]), .seq (sub B22 [1, 1, 0, 1, 4, 4, 1, 0, 4, 1, 1, 1]), .block 1, .seq (sub B22 [1, 1, 0, 1, 4, 4, 1, 1]), .next (Sx.Next w.heap.size w Tryd.f22.ntmps frRk (locKy g s k sz sl of gp lt ea d key dr (some a) n c) (GRk k n ws R) (muKy n) i), .block 0, .seq (sub B22 [1, 1, 1])], [(2, .lp 0 0), (3, .lp 1 0), (5, .io .i64 (↑i : Int)), (6, .lp 2 0), (70, .bo (decide ((↑i : Int) > 0)))], [((cfgL g s k sz sl of gp lt ea d), 24), ([.so key, .io .i64 dr, .sl (some a) n c], 50), ([.io .i64 st, .io .i64 en, .io .i64 ho, .io .i64 co, .io .i64 su, .io .i64 mi, .io .i64 ma, .io .i64 si, .io .i64 pa], 89)]⟩ (by kernel_rfl) (by kernel_rfl) ?_
                    rcases Bool.eq_false_or_eq_true (decide ((↑i : Int) > 0)) with b6 | b6
                    · refine At.res 70 (decide ((↑i : Int) > 0)) true (by kernel_rfl) b6 ?_
                      refine At.to (noF_stable) (noF_fewer) 0 200 [2, 3, 5, 6, 70, 72, 74] 3 ⟨pqops B22 [1, 1, 0, 1, 4, 4, 1, 0, 4, 1, 1, 0, 0] 7, [.seq (sub B22 [1, 1, 0, 1, 4, 4, 1, 0, 4, 1, 1, 0, 1]), .seq (sub B22 [1, 1, 0, 1, 4, 4, 1, 0, 4, 1, 1, 1]), .block 1, .seq (sub B22 [1, 1, 0, 1, 4, 4, 1, 1]), .next (Sx.Next w.heap.size w Tryd.f22.ntmps frRk (locKy g s k sz sl of gp lt ea d key dr (some a) n c) (GRk k n ws R) (muKy n) i), .block 0, .seq (sub B22 [1, 1, 1])], [(2, .lp 0 0), (3, .lp 1 0), (5, .io .i64 (↑i : Int)), (6, .lp 2 0), (70, .v (.bool true)), (72, .sl (some a) n c), (74, .io .i64 (IntKind.i64.wrap ((↑i : Int) - 1)))], [((cfgL g s k sz sl of gp lt ea d), 24), ([.so key, .io .i64 dr, .sl (some a) n c], 50), ([.io .i64 st, .io .i64 en, .io .i64 ho, .io .i64 co, .io .i64 su, .io .i64 mi, .io .i64 ma, .io .i64 si, .io .i64 pa], 89)]⟩ (by kernel_rfl) (by kernel_rfl) ?_
                      have hi0 : 0 < i := by
                        have h := of_decide_eq_true ‹decide ((i : Int) > 0) = true›
                        omega
                      have hw1 : IntKind.i64.wrap ((i : Int) - 1) = ((i - 1 : Nat) : Int) := by
                        rw [wrap63 (by omega) (by omega)]
                        omega
                      rw [hw1]
                      obtain ⟨⟨st1, en1, ho1, co1, su1, mi1, ma1, si1, pa1⟩, hy⟩ : ∃ y, ws[i - 1]? = some y := ⟨_, List.getElem?_eq_getElem (by omega)⟩
                      rw [prev_pos hi0 hy] at h2
                      refine At.idx a n 9 ((i - 1 : Nat) : Int) (by kernel_rfl) (by omega) (by omega) noF_stable ?_
                      refine At.lda (a.add (((i - 1 : Nat) : Int).toNat * 9)) 9 (wL ⟨st1, en1, ho1, co1, su1, mi1, ma1, si1, pa1⟩) (by kernel_rfl) rfl noF_stable (fun ρ w1 hm hf => by rw [Int.toNat_natCast]; exact (hw.below hm.below).cell hy) ?_
                      refine At.to (noF_stable) (noF_fewer) 0 200 [2, 3, 5, 6, 70, 76, 77] 3 ⟨pqops B22 [1, 1, 0, 1, 4, 4, 1, 0, 4, 1, 1, 0, 0] 10, [.seq (sub B22 [1, 1, 0, 1, 4, 4, 1, 0, 4, 1, 1, 0, 1]), .seq (sub B22 [1, 1, 0, 1, 4, 4, 1, 0, 4, 1, 1, 1]), .block 1, .seq (sub B22 [1, 1, 0, 1, 4, 4, 1, 1]), .next (Sx.Next w.heap.size w Tryd.f22.ntmps frRk (locKy g s k sz sl of gp lt ea d key dr (some a) n c) (GRk k n ws R) (muKy n) i), .block 0, .seq (sub B22 [1, 1, 1])], [(2, .lp 0 0), (3, .lp 1 0), (5, .io .i64 (↑i : Int)), (6, .lp 2 0), (70, .v (.bool true)), (76, .agg [.io .i64 st1, .io .i64 en1, .io .i64 ho1, .io .i64 co1, .io .i64 su1, .io .i64 mi1, .io .i64 ma1, .io .i64 si1, .io .i64 pa1]), (77, .agg [.io .i64 st, .io .i64 en, .io .i64 ho, .io .i64 co, .io .i64 su, .io .i64 mi, .io .i64 ma, .io .i64 si, .io .i64 pa])], [((cfgL g s k sz sl of gp lt ea d), 24), ([.so key, .io .i64 dr, .sl (some a) n c], 50), ([.io .i64 st, .io .i64 en, .io .i64 ho, .io .i64 co, .io .i64 su, .io .i64 mi, .io .i64 ma, .io .i64 si, .io .i64 pa], 89)]⟩ (by kernel_rfl) (by kernel_rfl) ?_
                      refine At.call (noF_stable) 46 [.agg [.io .i64 st1, .io .i64 en1, .io .i64 ho1, .io .i64 co1, .io .i64 su1, .io .i64 mi1, .io .i64 ma1, .io .i64 si1, .io .i64 pa1], .agg [.io .i64 st, .io .i64 en, .io .i64 ho, .io .i64 co, .io .i64 su, .io .i64 mi, .io .i64 ma, .io .i64 si, .io .i64 pa]] (.bo (ordR (Wn.mk st1 en1 ho1 co1 su1 mi1 ma1 si1 pa1) (Wn.mk st en ho co su mi ma si pa))) (by kernel_rfl) (by kernel_rfl) (by kernel_rfl) (fun _ _ w _ _ => ordered_any (st1) (en1) (ho1) (co1) (su1) (mi1) (ma1) (si1) (pa1) (st) (en) (ho) (co) (su) (mi) (ma) (si) (pa) w) ?_
                      refine At.to (noF_stable) (noF_fewer) 0 200 [2, 3, 5, 6, 80] 3 ⟨.code (sub B22 [1, 1, 0, 1, 4, 4, 1, 0, 4, 1, 1, 0, 1]), [.seq (sub B22 [1, 1, 0, 1, 4, 4, 1, 0, 4, 1, 1, 1]), .block 1, .seq (sub B22 [1, 1, 0, 1, 4, 4, 1, 1]), .next (Sx.Next w.heap.size w Tryd.f22.ntmps frRk (locKy g s k sz sl of gp lt ea d key dr (some a) n c) (GRk k n ws R) (muKy n) i), .block 0, .seq (sub B22 [1, 1, 1])], [(2, .lp 0 0), (3, .lp 1 0), (5, .io .i64 (↑i : Int)), (6, .lp 2 0), (80, .bo !ordR (Wn.mk st1 en1 ho1 co1 su1 mi1 ma1 si1 pa1) (Wn.mk st en ho co su mi ma si pa))], [((cfgL g s k sz sl of gp lt ea d), 24), ([.so key, .io .i64 dr, .sl (some a) n c], 50), ([.io .i64 st, .io .i64 en, .io .i64 ho, .io .i64 co, .io .i64 su, .io .i64 mi, .io .i64 ma, .io .i64 si, .io .i64 pa], 89)]⟩ (by kernel_rfl) (by kernel_rfl) ?_
                      rcases Bool.eq_false_or_eq_true (!ordR (Wn.mk st1 en1 ho1 co1 su1 mi1 ma1 si1 pa1) (Wn.mk st en ho co su mi ma si pa)) with b0 | b0
                      · refine At.res 80 (!ordR (Wn.mk st1 en1 ho1 co1 su1 mi1 ma1 si1 pa1) (Wn.mk st en ho co su mi ma si pa)) true (by kernel_rfl) b0 ?_
                        refine At.to (noF_stable) (noF_fewer) 0 200 [4] 0 ⟨.exit .ret, [], [(4, .v (.bool false))], []⟩ (by kernel_rfl) (by kernel_rfl) ?_
                        refine At.ret (by kernel_rfl) (.v (.bool false)) (by kernel_rfl) ?_
                        try simp only [Bool.not_eq_true', Bool.not_eq_false'] at *
                        simp only [rkeyGo, ordP, winB, cntB, *, Bool.not_true, Bool.not_false, Bool.true_and, Bool.and_true, Bool.false_and, Bool.and_false, cond_true, cond_false] at h2
                        intro ρ w9 hm _
                        exact ⟨by rw [← h2]; rfl, hm.below⟩
                      · refine At.res 80 (!ordR (Wn.mk st1 en1 ho1 co1 su1 mi1 ma1 si1 pa1) (Wn.mk st en ho co su mi ma si pa)) false (by kernel_rfl) b0 ?_
                        refine At.to (noF_stable) (noF_fewer) 0 200 [2, 3, 5, 6, 7] 3 ⟨.code (sub B22 [1, 1, 0, 1, 4, 4, 1, 0, 4, 1, 1, 1, 1, 4]), [.block 2, .block 1, .seq (sub B22 [1, 1, 0, 1, 4, 4, 1, 1]), .next (Sx.Next w.heap.size w Tryd.f22.ntmps frRk (locKy g s k sz sl of gp lt ea d key dr (some a) n c) (GRk k n ws R) (muKy n) i), .block 0, .seq (sub B22 [1, 1, 1])], [(2, .lp 0 0), (3, .lp 1 0), (5, .io .i64 (↑i : Int)), (6, .lp 2 0), (7, .v (.int .i64 0))], [((cfgL g s k sz sl of gp lt ea d), 24), ([.so key, .io .i64 dr, .sl (some a) n c], 50), ([.io .i64 st, .io .i64 en, .io .i64 ho, .io .i64 co, .io .i64 su, .io .i64 mi, .io .i64 ma, .io .i64 si, .io .i64 pa], 89)]⟩ (by kernel_rfl) (by kernel_rfl) ?_
                        try simp only [Bool.not_eq_true', Bool.not_eq_false'] at *
                        simp only [rkeyGo, ordP, winB, cntB, *, Bool.not_true, Bool.not_false, Bool.true_and, Bool.and_true, Bool.false_and, Bool.and_false, cond_true, cond_false] at h2
                        generalize hR' : rkeyGo k (some ⟨st, en, ho, co, su, mi, ma, si, pa⟩) (ws.take i ++ [⟨st, en, ho, co, su, mi, ma, si, pa⟩]) (ws.drop (i + 1)) = R' at h2
                        refine At.canon _ rfl ?_
                        refine At.loop (σ := Nat) (sub B22 [1, 1, 0, 1, 4, 4, 1, 0, 4, 1, 1, 1, 1, 4, 4]) (frRk2 i) (locRk2 g s k sz sl of gp lt ea d key dr (some a) n c ⟨st, en, ho, co, su, mi, ma, si, pa⟩) (GRk2 k ws ⟨st, en, ho, co, su, mi, ma, si, pa⟩ i R' R) (muKy i) 0 (by kernel_rfl) (by unfold subFr; kernel_rfl) (by kernel_rfl) (fun _ _ _ _ h => ⟨h, Nat.zero_le _, h2⟩) ?_
                        clear h2
                        intro j
                        refine At.pure fun ⟨h3, h2⟩ => ?_
                        refine At.to (noF_stable) (noF_fewer) 0 200 [2, 3, 5, 6, 7, 84] 3 ⟨pops B22 [1, 1, 0, 1, 4, 4, 1, 0, 4, 1, 1, 1, 1, 4, 4, 0, 0] 4, [.seq (sub B22 [1, 1, 0, 1, 4, 4, 1, 0, 4, 1, 1, 1, 1, 4, 4, 0, 1]), .seq (sub B22 [1, 1, 0, 1, 4, 4, 1, 0, 4, 1, 1, 1, 1, 4, 4, 1]), .next (Sx.Next w.heap.size w Tryd.f22.ntmps (frRk2 i) (locRk2 g s k sz sl of gp lt ea d key dr (some a) n c (Wn.mk st en ho co su mi ma si pa)) (GRk2 k ws (Wn.mk st en ho co su mi ma si pa) i R' R) (muKy i) j), .block 2, .block 1, .seq (sub B22 [1, 1, 0, 1, 4, 4, 1, 1]), .next (Sx.Next w.heap.size w Tryd.f22.ntmps frRk (locKy g s k sz sl of gp lt ea d key dr (some a) n c) (GRk k n ws R) (muKy n) i), .block 0, .seq (sub B22 [1, 1, 1])], [(2, .lp 0 0), (3, .lp 1 0), (5, .io .i64 (↑i : Int)), (6, .lp 2 0), (7, .io .i64 (↑j : Int)), (84, .bo (decide ((↑j : Int) < (↑i : Int))))], [((cfgL g s k sz sl of gp lt ea d), 24), ([.so key, .io .i64 dr, .sl (some a) n c], 50), ([.io .i64 st, .io .i64 en, .io .i64 ho, .io .i64 co, .io .i64 su, .io .i64 mi, .io .i64 ma, .io .i64 si, .io .i64 pa], 89)]⟩ (by kernel_rfl) (by kernel_rfl) ?_
                        rcases Bool.eq_false_or_eq_true (decide ((↑j : Int) < (↑i : Int))) with b0 | b0
                        · refine At.res 84 (decide ((↑j : Int) < (↑i : Int))) true (by kernel_rfl) b0 ?_
                          refine At.to (noF_stable) (noF_fewer) 0 200 [2, 3, 5, 6, 7, 88] 3 ⟨.code (sub B22 [1, 1, 0, 1, 4, 4, 1, 0, 4, 1, 1, 1, 1, 4, 4, 0, 1]), [.seq (sub B22 [1, 1, 0, 1, 4, 4, 1, 0, 4, 1, 1, 1, 1, 4, 4, 1]), .next (Sx.Next w.heap.size w Tryd.f22.ntmps (frRk2 i) (locRk2 g s k sz sl of gp lt ea d key dr (some a) n c (Wn.mk st en ho co su mi ma si pa)) (GRk2 k ws (Wn.mk st en ho co su mi ma si pa) i R' R) (muKy i) j), .block 2, .block 1, .seq (sub B22 [1, 1, 0, 1, 4, 4, 1, 1]), .next (Sx.Next w.heap.size w Tryd.f22.ntmps frRk (locKy g s k sz sl of gp lt ea d key dr (some a) n c) (GRk k n ws R) (muKy n) i), .block 0, .seq (sub B22 [1, 1, 1])], [(2, .lp 0 0), (3, .lp 1 0), (5, .io .i64 (↑i : Int)), (6, .lp 2 0), (7, .io .i64 (↑j : Int)), (88, .bo (k == 3))], [((cfgL g s k sz sl of gp lt ea d), 24), ([.so key, .io .i64 dr, .sl (some a) n c], 50), ([.io .i64 st, .io .i64 en, .io .i64 ho, .io .i64 co, .io .i64 su, .io .i64 mi, .io .i64 ma, .io .i64 si, .io .i64 pa], 89)]⟩ (by kernel_rfl) (by kernel_rfl) ?_
                          rcases Bool.eq_false_or_eq_true (k == 3) with b1 | b1
                          · refine At.res 88 (k == 3) true (by kernel_rfl) b1 ?_
                            refine At.to (noF_stable) (noF_fewer) 0 200 [2, 3, 5, 6, 7, 92, 93] 3 ⟨pqops B22 [1, 1, 0, 1, 4, 4, 1, 0, 4, 1, 1, 1, 1, 4, 4, 1, 0, 4, 0] 3, [.seq (sub B22 [1, 1, 0, 1, 4, 4, 1, 0, 4, 1, 1, 1, 1, 4, 4, 1, 0, 4, 1]), .block 3, .seq (sub B22 [1, 1, 0, 1, 4, 4, 1, 0, 4, 1, 1, 1, 1, 4, 4, 1, 1]), .next (Sx.Next w.heap.size w Tryd.f22.ntmps (frRk2 i) (locRk2 g s k sz sl of gp lt ea d key dr (some a) n c (Wn.mk st en ho co su mi ma si pa)) (GRk2 k ws (Wn.mk st en ho co su mi ma si pa) i R' R) (muKy i) j), .block 2, .block 1, .seq (sub B22 [1, 1, 0, 1, 4, 4, 1, 1]), .next (Sx.Next w.heap.size w Tryd.f22.ntmps frRk (locKy g s k sz sl of gp lt ea d key dr (some a) n c) (GRk k n ws R) (muKy n) i), .block 0, .seq (sub B22 [1, 1, 1])], [(2, .lp 0 0), (3, .lp 1 0), (5, .io .i64 (↑i : Int)), (6, .lp 2 0), (7, .io .i64 (↑j : Int)), (92, .sl (some a) n c), (93, .io .i64 (↑j : Int))], [((cfgL g s k sz sl of gp lt ea d), 24), ([.so key, .io .i64 dr, .sl (some a) n c], 50), ([.io .i64 st, .io .i64 en, .io .i64 ho, .io .i64 co, .io .i64 su, .io .i64 mi, .io .i64 ma, .io .i64 si, .io .i64 pa], 89)]⟩ (by kernel_rfl) (by kernel_rfl) ?_
                            have hk3 : (k == 3) = true := b1
                            have hj : j < i := by have := of_decide_eq_true b0; omega
                            clear b0 b1
                            obtain ⟨⟨st1, en1, ho1, co1, su1, mi1, ma1, si1, pa1⟩, hy⟩ : ∃ y, ws[j]? = some y := ⟨_, List.getElem?_eq_getElem (by omega)⟩
                            have hyt : (ws.take i)[j]? = some ⟨st1, en1, ho1, co1, su1, mi1, ma1, si1, pa1⟩ := by rw [List.getElem?_take_of_lt hj]; exact hy
                            rw [hk3, cond_true, drop_w hyt, List.all_cons] at h2
                            simp only [lapB] at h2

                            refine At.idx a n 9 (j : Int) (by kernel_rfl) (by omega) (by omega) noF_stable ?_
                            refine At.fax (a.add ((j : Int).toNat * 9)) 0 (by kernel_rfl) noF_stable ?_
                            refine At.fax ((a.add ((j : Int).toNat * 9)).add 0) 0 (by kernel_rfl) noF_stable ?_
                            refine At.ldx (((a.add ((j : Int).toNat * 9)).add 0).add 0) (.io .i64 st1) (by kernel_rfl) noF_stable (fun ρ w1 hm hf => by rw [Int.toNat_natCast, add_add _ 0]; exact (hw.below hm.below).cell hy 0 _ rfl) ?_
                            refine At.to (noF_stable) (noF_fewer) 0 200 [2, 3, 5, 6, 7, 102] 3 ⟨pqops B22 [1, 1, 0, 1, 4, 4, 1, 0, 4, 1, 1, 1, 1, 4, 4, 1, 0, 4, 0] 12, [.seq (sub B22 [1, 1, 0, 1, 4, 4, 1, 0, 4, 1, 1, 1, 1, 4, 4, 1, 0, 4, 1]), .block 3, .seq (sub B22 [1, 1, 0, 1, 4, 4, 1, 0, 4, 1, 1, 1, 1, 4, 4, 1, 1]), .next (Sx.Next w.heap.size w Tryd.f22.ntmps (frRk2 i) (locRk2 g s k sz sl of gp lt ea d key dr (some a) n c (Wn.mk st en ho co su mi ma si pa)) (GRk2 k ws (Wn.mk st en ho co su mi ma si pa) i R' R) (muKy i) j), .block 2, .block 1, .seq (sub B22 [1, 1, 0, 1, 4, 4, 1, 1]), .next (Sx.Next w.heap.size w Tryd.f22.ntmps frRk (locKy g s k sz sl of gp lt ea d key dr (some a) n c) (GRk k n ws R) (muKy n) i), .block 0, .seq (sub B22 [1, 1, 1])], [(2, .lp 0 0), (3, .lp 1 0), (5, .io .i64 (↑i : Int)), (6, .lp 2 0), (7, .io .i64 (↑j : Int)), (102, .bo (decide (st1 < en)))], [((cfgL g s k sz sl of gp lt ea d), 24), ([.so key, .io .i64 dr, .sl (some a) n c], 50), ([.io .i64 st, .io .i64 en, .io .i64 ho, .io .i64 co, .io .i64 su, .io .i64 mi, .io .i64 ma, .io .i64 si, .io .i64 pa], 89)]⟩ (by kernel_rfl) (by kernel_rfl) ?_
                            rcases Bool.eq_false_or_eq_true (decide (st1 < en)) with b0 | b0
                            · refine At.res 102 (decide (st1 < en)) true (by kernel_rfl) b0 ?_
                              refine At.to (noF_stable) (noF_fewer) 0 200 [2, 3, 5, 6, 7, 102, 105, 107, 108] 3 ⟨pqops B22 [1, 1, 0, 1, 4, 4, 1, 0, 4, 1, 1, 1, 1, 4, 4, 1, 0, 4, 0] 18, [.seq (sub B22 [1, 1, 0, 1, 4, 4, 1, 0, 4, 1, 1, 1, 1, 4, 4, 1, 0, 4, 1]), .block 3, .seq (sub B22 [1, 1, 0, 1, 4, 4, 1, 0, 4, 1, 1, 1, 1, 4, 4, 1, 1]), .next (Sx.Next w.heap.size w Tryd.f22.ntmps (frRk2 i) (locRk2 g s k sz sl of gp lt ea d key dr (some a) n c (Wn.mk st en ho co su mi ma si pa)) (GRk2 k ws (Wn.mk st en ho co su mi ma si pa) i R' R) (muKy i) j), .block 2, .block 1, .seq (sub B22 [1, 1, 0, 1, 4, 4, 1, 1]), .next (Sx.Next w.heap.size w Tryd.f22.ntmps frRk (locKy g s k sz sl of gp lt ea d key dr (some a) n c) (GRk k n ws R) (muKy n) i), .block 0, .seq (sub B22 [1, 1, 1])], [(2, .lp 0 0), (3, .lp 1 0), (5, .io .i64 (↑i : Int)), (6, .lp 2 0), (7, .io .i64 (↑j : Int)), (102, .v (.bool true)), (105, .io .i64 st), (107, .sl (some a) n c), (108, .io .i64 (↑j : Int))], [((cfgL g s k sz sl of gp lt ea d), 24), ([.so key, .io .i64 dr, .sl (some a) n c], 50), ([.io .i64 st, .io .i64 en, .io .i64 ho, .io .i64 co, .io .i64 su, .io .i64 mi, .io .i64 ma, .io .i64 si, .io .i64 pa], 89)]⟩ (by kernel_rfl) (by kernel_rfl) ?_
                              refine At.idx a n 9 (j : Int) (by kernel_rfl) (by omega) (by omega) noF_stable ?_
                              refine At.fax (a.add ((j : Int).toNat * 9)) 0 (by kernel_rfl) noF_stable ?_
                              refine At.fax ((a.add ((j : Int).toNat * 9)).add 0) 1 (by kernel_rfl) noF_stable ?_
                              refine At.ldx (((a.add ((j : Int).toNat * 9)).add 0).add 1) (.io .i64 en1) (by kernel_rfl) noF_stable (fun ρ w1 hm hf => by rw [Int.toNat_natCast, add_add _ 0]; exact (hw.below hm.below).cell hy 1 _ rfl) ?_
                              refine At.to (noF_stable) (noF_fewer) 0 200 [2, 3, 5, 6, 7, 114] 3 ⟨.code (sub B22 [1, 1, 0, 1, 4, 4, 1, 0, 4, 1, 1, 1, 1, 4, 4, 1, 0, 4, 1]), [.block 3, .seq (sub B22 [1, 1, 0, 1, 4, 4, 1, 0, 4, 1, 1, 1, 1, 4, 4, 1, 1]), .next (Sx.Next w.heap.size w Tryd.f22.ntmps (frRk2 i) (locRk2 g s k sz sl of gp lt ea d key dr (some a) n c (Wn.mk st en ho co su mi ma si pa)) (GRk2 k ws (Wn.mk st en ho co su mi ma si pa) i R' R) (muKy i) j), .block 2, .block 1, .seq (sub B22 [1, 1, 0, 1, 4, 4, 1, 1]), .next (Sx.Next w.heap.size w Tryd.f22.ntmps frRk (locKy g s k sz sl of gp lt ea d key dr (some a) n c) (GRk k n ws R) (muKy n) i), .block 0, .seq (sub B22 [1, 1, 1])], [(2, .lp 0 0), (3, .lp 1 0), (5, .io .i64 (↑i : Int)), (6, .lp 2 0), (7, .io .i64 (↑j : Int)), (114, .bo (decide (st < en1)))], [((cfgL g s k sz sl of gp lt ea d), 24), ([.so key, .io .i64 dr, .sl (some a) n c], 50), ([.io .i64 st, .io .i64 en, .io .i64 ho, .io .i64 co, .io .i64 su, .io .i64 mi, .io .i64 ma, .io .i64 si, .io .i64 pa], 89)]⟩ (by kernel_rfl) (by kernel_rfl) ?_
                              rcases Bool.eq_false_or_eq_true (decide (st < en1)) with b0 | b0
                              · refine At.res 114 (decide (st < en1)) true (by kernel_rfl) b0 ?_
                                refine At.to (noF_stable) (noF_fewer) 0 200 [4] 0 ⟨.exit .ret, [], [(4, .v (.bool false))], []⟩ (by kernel_rfl) (by kernel_rfl) ?_
                                refine At.ret (by kernel_rfl) (.v (.bool false)) (by kernel_rfl) ?_
                                simp only [*, Bool.not_true, Bool.not_false, Bool.true_and, Bool.and_true, Bool.false_and, Bool.and_false] at h2
                                intro ρ w9 hm _
                                exact ⟨by rw [← h2]; rfl, hm.below⟩
                              · refine At.res 114 (decide (st < en1)) false (by kernel_rfl) b0 ?_
                                refine At.to (noF_stable) (noF_fewer) 0 200 [2, 3, 5, 6, 7] 3 ⟨.exit .normal, [.next (Sx.Next w.heap.size w Tryd.f22.ntmps (frRk2 i) (locRk2 g s k sz sl of gp lt ea d key dr (some a) n c (Wn.mk st en ho co su mi ma si pa)) (GRk2 k ws (Wn.mk st en ho co su mi ma si pa) i R' R) (muKy i) j), .block 2, .block 1, .seq (sub B22 [1, 1, 0, 1, 4, 4, 1, 1]), .next (Sx.Next w.heap.size w Tryd.f22.ntmps frRk (locKy g s k sz sl of gp lt ea d key dr (some a) n c) (GRk k n ws R) (muKy n) i), .block 0, .seq (sub B22 [1, 1, 1])], [(2, .lp 0 0), (3, .lp 1 0), (5, .io .i64 (↑i : Int)), (6, .lp 2 0), (7, .io .i64 (IntKind.i64.wrap ((↑j : Int) + 1)))], [((cfgL g s k sz sl of gp lt ea d), 24), ([.so key, .io .i64 dr, .sl (some a) n c], 50), ([.io .i64 st, .io .i64 en, .io .i64 ho, .io .i64 co, .io .i64 su, .io .i64 mi, .io .i64 ma, .io .i64 si, .io .i64 pa], 89)]⟩ (by kernel_rfl) (by kernel_rfl) ?_
                                simp only [*, Bool.not_true, Bool.not_false, Bool.true_and, Bool.and_true, Bool.false_and, Bool.and_false] at h2
                                have hw3 : IntKind.i64.wrap ((j : Int) + 1) = ((j + 1 : Nat) : Int) := by
                                  rw [wrap63 (by omega) (by omega)]
                                  omega
                                rw [hw3]
                                clear hw3
                                refine At.next (σ := Nat) (j + 1) rfl rfl (by unfold subFr; kernel_rfl) (by kernel_rfl) ?_ ?_
                                · intro ρ a' w' hi' hf
                                  exact ⟨hf, by omega, by rw [hk3]; exact h2⟩
                                · unfold muKy
                                  omega
                            · refine At.res 102 (decide (st1 < en)) false (by kernel_rfl) b0 ?_
                              refine At.to (noF_stable) (noF_fewer) 0 200 [2, 3, 5, 6, 7] 3 ⟨.exit .normal, [.next (Sx.Next w.heap.size w Tryd.f22.ntmps (frRk2 i) (locRk2 g s k sz sl of gp lt ea d key dr (some a) n c (Wn.mk st en ho co su mi ma si pa)) (GRk2 k ws (Wn.mk st en ho co su mi ma si pa) i R' R) (muKy i) j), .block 2, .block 1, .seq (sub B22 [1, 1, 0, 1, 4, 4, 1, 1]), .next (Sx.Next w.heap.size w Tryd.f22.ntmps frRk (locKy g s k sz sl of gp lt ea d key dr (some a) n c) (GRk k n ws R) (muKy n) i), .block 0, .seq (sub B22 [1, 1, 1])], [(2, .lp 0 0), (3, .lp 1 0), (5, .io .i64 (↑i : Int)), (6, .lp 2 0), (7, .io .i64 (IntKind.i64.wrap ((↑j : Int) + 1)))], [((cfgL g s k sz sl of gp lt ea d), 24), ([.so key, .io .i64 dr, .sl (some a) n c], 50), ([.io .i64 st, .io .i64 en, .io .i64 ho, .io .i64 co, .io .i64 su, .io .i64 mi, .io .i64 ma, .io .i64 si, .io .i64 pa], 89)]⟩ (by kernel_rfl) (by kernel_rfl) ?_
                              simp only [*, Bool.not_true, Bool.not_false, Bool.true_and, Bool.and_true, Bool.false_and, Bool.and_false] at h2
                              have hw3 : IntKind.i64.wrap ((j : Int) + 1) = ((j + 1 : Nat) : Int) := by
                                rw [wrap63 (by omega) (by omega)]
                                omega
                              rw [hw3]
                              clear hw3
                              refine At.next (σ := Nat) (j + 1) rfl rfl (by unfold subFr; kernel_rfl) (by kernel_rfl) ?_ ?_
                              · intro ρ a' w' hi' hf
                                exact ⟨hf, by omega, by rw [hk3]; exact h2⟩
                              · unfold muKy
                                omega
                          · refine At.res 88 (k == 3) false (by kernel_rfl) b1 ?_
                            refine At.to (noF_stable) (noF_fewer) 0 200 [2, 3, 5, 6, 7] 3 ⟨.exit .normal, [.next (Sx.Next w.heap.size w Tryd.f22.ntmps frRk (locKy g s k sz sl of gp lt ea d key dr (some a) n c) (GRk k n ws R) (muKy n) i), .block 0, .seq (sub B22 [1, 1, 1])], [(2, .lp 0 0), (3, .lp 1 0), (5, .io .i64 (IntKind.i64.wrap ((↑i : Int) + 1))), (6, .lp 2 0), (7, .io .i64 (↑j : Int))], [((cfgL g s k sz sl of gp lt ea d), 24), ([.so key, .io .i64 dr, .sl (some a) n c], 50), ([.io .i64 st, .io .i64 en, .io .i64 ho, .io .i64 co, .io .i64 su, .io .i64 mi, .io .i64 ma, .io .i64 si, .io .i64 pa], 89)]⟩ (by kernel_rfl) (by kernel_rfl) ?_
                            have hk3 : (k == 3) = false := b1
                            rw [hk3, cond_false, Bool.true_and] at h2
                            clear b0 b1
                            refine At.to (noF_stable) (noF_fewer) 0 200 [2, 3, 5] 2 ⟨.exit .normal, [.next (Sx.Next w.heap.size w Tryd.f22.ntmps frRk (locKy g s k sz sl of gp lt ea d key dr (some a) n c) (GRk k n ws R) (muKy n) i), .block 0, .seq (sub B22 [1, 1, 1])], [(2, .lp 0 0), (3, .lp 1 0), (5, .io .i64 (IntKind.i64.wrap ((↑i : Int) + 1)))], [((cfgL g s k sz sl of gp lt ea d), 24), ([.so key, .io .i64 dr, .sl (some a) n c], 50)]⟩ (by kernel_rfl) (by kernel_rfl) ?_
                            have hw3 : IntKind.i64.wrap ((i : Int) + 1) = ((i + 1 : Nat) : Int) := by
                              rw [wrap63 (by omega) (by omega)]
                              omega
                            rw [hw3]
                            clear hw3
                            refine At.next (σ := Nat) (i + 1) rfl rfl (by unfold subFr; kernel_rfl) (by kernel_rfl) ?_ ?_
                            · intro ρ a' w' hi' hf
                              refine ⟨hf, by omega, ?_⟩
                              rw [prev_pos (Nat.succ_pos i) hx, take_w hx, hR']
                              exact h2
                            · unfold muKy
                              omega
                        · refine At.res 84 (decide ((↑j : Int) < (↑i : Int))) false (by kernel_rfl) b0 ?_
                          refine At.to (noF_stable) (noF_fewer) 0 200 [2, 3, 5, 6, 7] 3 ⟨.exit .normal, [.next (Sx.Next w.heap.size w Tryd.f22.ntmps frRk (locKy g s k sz sl of gp lt ea d key dr (some a) n c) (GRk k n ws R) (muKy n) i), .block 0, .seq (sub B22 [1, 1, 1])], [(2, .lp 0 0), (3, .lp 1 0), (5, .io .i64 (IntKind.i64.wrap ((↑i : Int) + 1))), (6, .lp 2 0), (7, .io .i64 (↑j : Int))], [((cfgL g s k sz sl of gp lt ea d), 24), ([.so key, .io .i64 dr, .sl (some a) n c], 50), ([.io .i64 st, .io .i64 en, .io .i64 ho, .io .i64 co, .io .i64 su, .io .i64 mi, .io .i64 ma, .io .i64 si, .io .i64 pa], 89)]⟩ (by kernel_rfl) (by kernel_rfl) ?_
                          have hj : ¬ (j : Int) < i := of_decide_eq_false b0
                          have hd : (ws.take i).drop j = [] := List.drop_eq_nil_of_le (by simp only [List.length_take]; omega)
                          rw [hd, List.all_nil, show (bif k == 3 then true else true) = true by cases (k == 3) <;> rfl, Bool.true_and] at h2
                          clear b0
                          refine At.to (noF_stable) (noF_fewer) 0 200 [2, 3, 5] 2 ⟨.exit .normal, [.next (Sx.Next w.heap.size w Tryd.f22.ntmps frRk (locKy g s k sz sl of gp lt ea d key dr (some a) n c) (GRk k n ws R) (muKy n) i), .block 0, .seq (sub B22 [1, 1, 1])], [(2, .lp 0 0), (3, .lp 1 0), (5, .io .i64 (IntKind.i64.wrap ((↑i : Int) + 1)))], [((cfgL g s k sz sl of gp lt ea d), 24), ([.so key, .io .i64 dr, .sl (some a) n c], 50)]⟩ (by kernel_rfl) (by kernel_rfl) ?_
                          have hw3 : IntKind.i64.wrap ((i : Int) + 1) = ((i + 1 : Nat) : Int) := by
                            rw [wrap63 (by omega) (by omega)]
                            omega
                          rw [hw3]
                          clear hw3
                          refine At.next (σ := Nat) (i + 1) rfl rfl (by unfold subFr; kernel_rfl) (by kernel_rfl) ?_ ?_
                          · intro ρ a' w' hi' hf
                            refine ⟨hf, by omega, ?_⟩
                            rw [prev_pos (Nat.succ_pos i) hx, take_w hx, hR']
                            exact h2
                          · unfold muKy
                            omega
                    · refine At.res 70 (decide ((↑i : Int) > 0)) false (by kernel_rfl) b6 ?_
                      refine At.to (noF_stable) (noF_fewer) 0 200 [2, 3, 5, 6, 7] 3 ⟨.code (sub B22 [1, 1, 0, 1, 4, 4, 1, 0, 4, 1, 1, 1, 1, 4]), [.block 2, .block 1, .seq (sub B22 [1, 1, 0, 1, 4, 4, 1, 1]), .next (Sx.Next w.heap.size w Tryd.f22.ntmps frRk (locKy g s k sz sl of gp lt ea d key dr (some a) n c) (GRk k n ws R) (muKy n) i), .block 0, .seq (sub B22 [1, 1, 1])], [(2, .lp 0 0), (3, .lp 1 0), (5, .io .i64 (↑i : Int)), (6, .lp 2 0), (7, .v (.int .i64 0))], [((cfgL g s k sz sl of gp lt ea d), 24), ([.so key, .io .i64 dr, .sl (some a) n c], 50), ([.io .i64 st, .io .i64 en, .io .i64 ho, .io .i64 co, .io .i64 su, .io .i64 mi, .io .i64 ma, .io .i64 si, .io .i64 pa], 89)]⟩ (by kernel_rfl) (by kernel_rfl) ?_
                      have hi0 : i = 0 := by
                        have h := of_decide_eq_false ‹decide ((i : Int) > 0) = false›
                        omega
                      have hp : prevAt ws i = none := by rw [hi0]; rfl
                      rw [hp] at h2
                      clear hp hi0

                      try simp only [Bool.not_eq_true', Bool.not_eq_false'] at *
                      simp only [rkeyGo, ordP, winB, cntB, *, Bool.not_true, Bool.not_false, Bool.true_and, Bool.and_true, Bool.false_and, Bool.and_false, cond_true, cond_false] at h2
                      generalize hR' : rkeyGo k (some ⟨st, en, ho, co, su, mi, ma, si, pa⟩) (ws.take i ++ [⟨st, en, ho, co, su, mi, ma, si, pa⟩]) (ws.drop (i + 1)) = R' at h2
                      refine At.canon _ rfl ?_
                      refine At.loop (σ := Nat) (sub B22 [1, 1, 0, 1, 4, 4, 1, 0, 4, 1, 1, 1, 1, 4, 4]) (frRk2 i) (locRk2 g s k sz sl of gp lt ea d key dr (some a) n c ⟨st, en, ho, co, su, mi, ma, si, pa⟩) (GRk2 k ws ⟨st, en, ho, co, su, mi, ma, si, pa⟩ i R' R) (muKy i) 0 (by kernel_rfl) (by unfold subFr; kernel_rfl) (by kernel_rfl) (fun _ _ _ _ h => ⟨h, Nat.zero_le _, h2⟩) ?_
                      clear h2
                      intro j
                      refine At.pure fun ⟨h3, h2⟩ => ?_
                      refine At.to (noF_stable) (noF_fewer) 0 200 [2, 3, 5, 6, 7, 84] 3 ⟨pops B22 [1, 1, 0, 1, 4, 4, 1, 0, 4, 1, 1, 1, 1, 4, 4, 0, 0] 4, [.seq (sub B22 [1, 1, 0, 1, 4, 4, 1, 0, 4, 1, 1, 1, 1, 4, 4, 0, 1]), .seq (sub B22 [1, 1, 0, 1, 4, 4, 1, 0, 4, 1, 1, 1, 1, 4, 4, 1]), .next (Sx.Next w.heap.size w Tryd.f22.ntmps (frRk2 i) (locRk2 g s k sz sl of gp lt ea d key dr (some a) n c (Wn.mk st en ho co su mi ma si pa)) (GRk2 k ws (Wn.mk st en ho co su mi ma si pa) i R' R) (muKy i) j), .block 2, .block 1, .seq (sub B22 [1, 1, 0, 1, 4, 4, 1, 1]), .next (Sx.Next w.heap.size w Tryd.f22.ntmps frRk (locKy g s k sz sl of gp lt ea d key dr (some a) n c) (GRk k n ws R) (muKy n) i), .block 0, .seq (sub B22 [1, 1, 1])], [(2, .lp 0 0), (3, .lp 1 0), (5, .io .i64 (↑i : Int)), (6, .lp 2 0), (7, .io .i64 (↑j : Int)), (84, .bo (decide ((↑j : Int) < (↑i : Int))))], [((cfgL g s k sz sl of gp lt ea d), 24), ([.so key, .io .i64 dr, .sl (some a) n c], 50), ([.io .i64 st, .io .i64 en, .io .i64 ho, .io .i64 co, .io .i64 su, .io .i64 mi, .io .i64 ma, .io .i64 si, .io .i64 pa], 89)]⟩ (by kernel_rfl) (by kernel_rfl) ?_
                      rcases Bool.eq_false_or_eq_true (decide ((↑j : Int) < (↑i : Int))) with b0 | b0
                      · refine At.res 84 (decide ((↑j : Int) < (↑i : Int))) true (by kernel_rfl) b0 ?_
                        refine At.to (noF_stable) (noF_fewer) 0 200 [2, 3, 5, 6, 7, 88] 3 ⟨.code (sub B22 [1, 1, 0, 1, 4, 4, 1, 0, 4, 1, 1, 1, 1, 4, 4, 0, 1]), [.seq (sub B22 [1, 1, 0, 1, 4, 4, 1, 0, 4, 1, 1, 1, 1, 4, 4, 1]), .next (Sx.Next w.heap.size w Tryd.f22.ntmps (frRk2 i) (locRk2 g s k sz sl of gp lt ea d key dr (some a) n c (Wn.mk st en ho co su mi ma si pa)) (GRk2 k ws (Wn.mk st en ho co su mi ma si pa) i R' R) (muKy i) j), .block 2, .block 1, .seq (sub B22 [1, 1, 0, 1, 4, 4, 1, 1]), .next (Sx.Next w.heap.size w Tryd.f22.ntmps frRk (locKy g s k sz sl of gp lt ea d key dr (some a) n c) (GRk k n ws R) (muKy n) i), .block 0, .seq (sub B22 [1, 1, 1])], [(2, .lp 0 0), (3, .lp 1 0), (5, .io .i64 (↑i : Int)), (6, .lp 2 0), (7, .io .i64 (↑j : Int)), (88, .bo (k == 3))], [((cfgL g s k sz sl of gp lt ea d), 24), ([.so key, .io .i64 dr, .sl (some a) n c], 50), ([.io .i64 st, .io .i64 en, .io .i64 ho, .io .i64 co, .io .i64 su, .io .i64 mi, .io .i64 ma, .io .i64 si, .io .i64 pa], 89)]⟩ (by kernel_rfl) (by kernel_rfl) ?_
                        rcases Bool.eq_false_or_eq_true (k == 3) with b1 | b1
                        · refine At.res 88 (k == 3) true (by kernel_rfl) b1 ?_
                          refine At.to (noF_stable) (noF_fewer) 0 200 [2, 3, 5, 6, 7, 92, 93] 3 ⟨pqops B22 [1, 1, 0, 1, 4, 4, 1, 0, 4, 1, 1, 1, 1, 4, 4, 1, 0, 4, 0] 3, [.seq (sub B22 [1, 1, 0, 1, 4, 4, 1, 0, 4, 1, 1, 1, 1, 4, 4, 1, 0, 4, 1]), .block 3, .seq (sub B22 [1, 1, 0, 1, 4, 4, 1, 0, 4, 1, 1, 1, 1, 4, 4, 1, 1]), .next (Sx.Next w.heap.size w Tryd.f22.ntmps (frRk2 i) (locRk2 g s k sz sl of gp lt ea d key dr (some a) n c (Wn.mk st en ho co su mi ma si pa)) (GRk2 k ws (Wn.mk st en ho co su mi ma si pa) i R' R) (muKy i) j), .block 2, .block 1, .seq (sub B22 [1, 1, 0, 1, 4, 4, 1, 1]), .next (Sx.Next w.heap.size w Tryd.f22.ntmps frRk (locKy g s k sz sl of gp lt ea d key dr (some a) n c) (GRk k n ws R) (muKy n) i), .block 0, .seq (sub B22 [1, 1, 1])], [(2, .lp 0 0), (3, .lp 1 0), (5, .io .i64 (↑i : Int)), (6, .lp 2 0), (7, .io .i64 (↑j : Int)), (92, .sl (some a) n c), (93, .io .i64 (↑j : Int))], [((cfgL g s k sz sl of gp lt ea d), 24), ([.so key, .io .i64 dr, .sl (some a) n c], 50), ([.io .i64 st, .io .i64 en, .io .i64 ho, .io .i64 co, .io .i64 su, .io .i64 mi, .io .i64 ma, .io .i64 si, .io .i64 pa], 89)]⟩ (by kernel_rfl) (by kernel_rfl) ?_
                          have hk3 : (k == 3) = true := b1
                          have hj : j < i := by have := of_decide_eq_true b0; omega
                          clear b0 b1
                          obtain ⟨⟨st1, en1, ho1, co1, su1, mi1, ma1, si1, pa1⟩, hy⟩ : ∃ y, ws[j]? = some y := ⟨_, List.getElem?_eq_getElem (by omega)⟩
                          have hyt : (ws.take i)[j]? = some ⟨st1, en1, ho1, co1, su1, mi1, ma1, si1, pa1⟩ := by rw [List.getElem?_take_of_lt hj]; exact hy
                          rw [hk3, cond_true, drop_w hyt, List.all_cons] at h2
                          simp only [lapB] at h2

                          refine At.idx a n 9 (j : Int) (by kernel_rfl) (by omega) (by omega) noF_stable ?_
                          refine At.fax (a.add ((j : Int).toNat * 9)) 0 (by kernel_rfl) noF_stable ?_
                          refine At.fax ((a.add ((j : Int).toNat * 9)).add 0) 0 (by kernel_rfl) noF_stable ?_
                          refine At.ldx (((a.add ((j : Int).toNat * 9)).add 0).add 0) (.io .i64 st1) (by kernel_rfl) noF_stable (fun ρ w1 hm hf => by rw [Int.toNat_natCast, add_add _ 0]; exact (hw.below hm.below).cell hy 0 _ rfl) ?_
                          refine At.to (noF_stable) (noF_fewer) 0 200 [2, 3, 5, 6, 7, 102] 3 ⟨pqops B22 [1, 1, 0, 1, 4, 4, 1, 0, 4, 1, 1, 1, 1, 4, 4, 1, 0, 4, 0] 12, [.seq (sub B22 [1, 1, 0, 1, 4, 4, 1, 0, 4, 1, 1, 1, 1, 4, 4, 1, 0, 4, 1]), .block 3, .seq (sub B22 [1, 1, 0, 1, 4, 4, 1, 0, 4, 1, 1, 1, 1, 4, 4, 1, 1]), .next (Sx.Next w.heap.size w Tryd.f22.ntmps (frRk2 i) (locRk2 g s k sz sl of gp lt ea d key dr (some a) n c (Wn.mk st en ho co su mi ma si pa)) (GRk2 k ws (Wn.mk st en ho co su mi ma si pa) i R' R) (muKy i) j), .block 2, .block 1, .seq (sub B22 [1, 1, 0, 1, 4, 4, 1, 1]), .next (Sx.Next w.heap.size w Tryd.f22.ntmps frRk (locKy g s k sz sl of gp lt ea d key dr (some a) n c) (GRk k n ws R) (muKy n) i), .block 0, .seq (sub B22 [1, 1, 1])], [(2, .lp 0 0), (3, .lp 1 0), (5, .io .i64 (↑i : Int)), (6, .lp 2 0), (7, .io .i64 (↑j : Int)), (102, .bo (decide (st1 < en)))], [((cfgL g s k sz sl of gp lt ea d), 24), ([.so key, .io .i64 dr, .sl (some a) n c], 50), ([.io .i64 st, .io .i64 en, .io .i64 ho, .io .i64 co, .io .i64 su, .io .i64 mi, .io .i64 ma, .io .i64 si, .io .i64 pa], 89)]⟩ (by kernel_rfl) (by kernel_rfl) ?_
                          rcases Bool.eq_false_or_eq_true (decide (st1 < en)) with b0 | b0
                          · refine At.res 102 (decide (st1 < en)) true (by kernel_rfl) b0 ?_
                            refine At.to (noF_stable) (noF_fewer) 0 200 [2, 3, 5, 6, 7, 102, 105, 107, 108] 3 ⟨pqops B22 [1, 1, 0, 1, 4, 4, 1, 0, 4, 1, 1, 1, 1, 4, 4, 1, 0, 4, 0] 18, [.seq (sub B22 [1, 1, 0, 1, 4, 4, 1, 0, 4, 1, 1, 1, 1, 4, 4, 1, 0, 4, 1]), .block 3, .seq (sub B22 [1, 1, 0, 1, 4, 4, 1, 0, 4, 1, 1, 1, 1, 4, 4, 1, 1]), .next (Sx.Next w.heap.size w Tryd.f22.ntmps (frRk2 i) (locRk2 g s k sz sl of gp lt ea d key dr (some a) n c (Wn.mk st en ho co su mi ma si pa)) (GRk2 k ws (Wn.mk st en ho co su mi ma si pa) i R' R) (muKy i) j), .block 2, .block 1, .seq (sub B22 [1, 1, 0, 1, 4, 4, 1, 1]), .next (Sx.Next w.heap.size w Tryd.f22.ntmps frRk (locKy g s k sz sl of gp lt ea d key dr (some a) n c) (GRk k n ws R) (muKy n) i), .block 0, .seq (sub B22 [1, 1, 1])], [(2, .lp 0 0), (3, .lp 1 0), (5, .io .i64 (↑i : Int)), (6, .lp 2 0), (7, .io .i64 (↑j : Int)), (102, .v (.bool true)), (105, .io .i64 st), (107, .sl (some a) n c), (108, .io .i64 (↑j : Int))], [((cfgL g s k sz sl of gp lt ea d), 24), ([.so key, .io .i64 dr, .sl (some a) n c], 50), ([.io .i64 st, .io .i64 en, .io .i64 ho, .io .i64 co, .io .i64 su, .io .i64 mi, .io .i64 ma, .io .i64 si, .io .i64 pa], 89)]⟩ (by kernel_rfl) (by kernel_rfl) ?_
                            refine At.idx a n 9 (j : Int) (by kernel_rfl) (by omega) (by omega) noF_stable ?_
                            refine At.fax (a.add ((j : Int).toNat * 9)) 0 (by kernel_rfl) noF_stable ?_
                            refine At.fax ((a.add ((j : Int).toNat * 9)).add 0) 1 (by kernel_rfl) noF_stable ?_
                            refine At.ldx (((a.add ((j : Int).toNat * 9)).add 0).add 1) (.io .i64 en1) (by kernel_rfl) noF_stable (fun ρ w1 hm hf => by rw [Int.toNat_natCast, add_add _ 0]; exact (hw.below hm.below).cell hy 1 _ rfl) ?_
                            refine At.to (noF_stable) (noF_fewer) 0 200 [2, 3, 5, 6, 7, 114] 3 ⟨.code (sub B22 [1, 1, 0, 1, 4, 4, 1, 0, 4, 1, 1, 1, 1, 4, 4, 1, 0, 4, 1]), [.block 3, .seq (sub B22 [1, 1, 0, 1, 4, 4, 1, 0, 4, 1, 1, 1, 1, 4, 4, 1, 1]), .next (Sx.Next w.heap.size w Tryd.f22.ntmps (frRk2 i) (locRk2 g s k sz sl of gp lt ea d key dr (some a) n c (Wn.mk st en ho co su mi ma si pa)) (GRk2 k ws (Wn.mk st en ho co su mi ma si pa) i R' R) (muKy i) j), .block 2, .block 1, .seq (sub B22 [1, 1, 0, 1, 4, 4, 1, 1]), .next (Sx.Next w.heap.size w Tryd.f22.ntmps frRk (locKy g s k sz sl of gp lt ea d key dr (some a) n c) (GRk k n ws R) (muKy n) i), .block 0, .seq (sub B22 [1, 1, 1])], [(2, .lp 0 0), (3, .lp 1 0), (5, .io .i64 (↑i : Int)), (6, .lp 2 0), (7, .io .i64 (↑j : Int)), (114, .bo (decide (st < en1)))], [((cfgL g s k sz sl of gp lt ea d), 24), ([.so key, .io .i64 dr, .sl (some a) n c], 50), ([.io .i64 st, .io .i64 en, .io .i64 ho, .io .i64 co, .io .i64 su, .io .i64 mi, .io .i64 ma, .io .i64 si, .io .i64 pa], 89)]⟩ (by kernel_rfl) (by kernel_rfl) ?_
                            rcases Bool.eq_false_or_eq_true (decide (st < en1)) with b0 | b0
                            · refine At.res 114 (decide (st < en1)) true (by kernel_rfl) b0 ?_
                              refine At.to (noF_stable) (noF_fewer) 0 200 [4] 0 ⟨.exit .ret, [], [(4, .v (.bool false))], []⟩ (by kernel_rfl) (by kernel_rfl) ?_
                              refine At.ret (by kernel_rfl) (.v (.bool false)) (by kernel_rfl) ?_
                              simp only [*, Bool.not_true, Bool.not_false, Bool.true_and, Bool.and_true, Bool.false_and, Bool.and_false] at h2
                              intro ρ w9 hm _
                              exact ⟨by rw [← h2]; rfl, hm.below⟩
                            · refine At.res 114 (decide (st < en1)) false (by kernel_rfl) b0 ?_
                              refine At.to (noF_stable) (noF_fewer) 0 200 [2, 3, 5, 6, 7] 3 ⟨.exit .normal, [.next (Sx.Next w.heap.size w Tryd.f22.ntmps (frRk2 i) (locRk2 g s k sz sl of gp lt ea d key dr (some a) n c (Wn.mk st en ho co su mi ma si pa)) (GRk2 k ws (Wn.mk st en ho co su mi ma si pa) i R' R) (muKy i) j), .block 2, .block 1, .seq (sub B22 [1, 1, 0, 1, 4, 4, 1, 1]), .next (Sx.Next w.heap.size w Tryd.f22.ntmps frRk (locKy g s k sz sl of gp lt ea d key dr (some a) n c) (GRk k n ws R) (muKy n) i), .block 0, .seq (sub B22 [1, 1, 1])], [(2, .lp 0 0), (3, .lp 1 0), (5, .io .i64 (↑i : Int)), (6, .lp 2 0), (7, .io .i64 (IntKind.i64.wrap ((↑j : Int) + 1)))], [((cfgL g s k sz sl of gp lt ea d), 24), ([.so key, .io .i64 dr, .sl (some a) n c], 50), ([.io .i64 st, .io .i64 en, .io .i64 ho, .io .i64 co, .io .i64 su, .io .i64 mi, .io .i64 ma, .io .i64 si, .io .i64 pa], 89)]⟩ (by kernel_rfl) (by kernel_rfl) ?_
                              simp only [*, Bool.not_true, Bool.not_false, Bool.true_and, Bool.and_true, Bool.false_and, Bool.and_false] at h2
                              have hw3 : IntKind.i64.wrap ((j : Int) + 1) = ((j + 1 : Nat) : Int) := by
                                rw [wrap63 (by omega) (by omega)]
                                omega
                              rw [hw3]
                              clear hw3
                              refine At.next (σ := Nat) (j + 1) rfl rfl (by unfold subFr; kernel_rfl) (by kernel_rfl) ?_ ?_
                              · intro ρ a' w' hi' hf
                                exact ⟨hf, by omega, by rw [hk3]; exact h2⟩
                              · unfold muKy
                                omega
                          · refine At.res 102 (decide (st1 < en)) false (by kernel_rfl) b0 ?_
                            refine At.to (noF_stable) (noF_fewer) 0 200 [2, 3, 5, 6, 7] 3 ⟨.exit .normal, [.next (Sx.Next w.heap.size w Tryd.f22.ntmps (frRk2 i) (locRk2 g s k sz sl of gp lt ea d key dr (some a) n c (Wn.mk st en ho co su mi ma si pa)) (GRk2 k ws (Wn.mk st en ho co su mi ma si pa) i R' R) (muKy i) j), .block 2, .block 1, .seq (sub B22 [1, 1, 0, 1, 4, 4, 1, 1]), .next (Sx.Next w.heap.size w Tryd.f22.ntmps frRk (locKy g s k sz sl of gp lt ea d key dr (some a) n c) (GRk k n ws R) (muKy n) i), .block 0, .seq (sub B22 [1, 1, 1])], [(2, .lp 0 0), (3, .lp 1 0), (5, .io .i64 (↑i : Int)), (6, .lp 2 0), (7, .io .i64 (IntKind.i64.wrap ((↑j : Int) + 1)))], [((cfgL g s k sz sl of gp lt ea d), 24), ([.so key, .io .i64 dr, .sl (some a) n c], 50), ([.io .i64 st, .io .i64 en, .io .i64 ho, .io .i64 co, .io .i64 su, .io .i64 mi, .io .i64 ma, .io .i64 si, .io .i64 pa], 89)]⟩ (by kernel_rfl) (by kernel_rfl) ?_
                            simp only [*, Bool.not_true, Bool.not_false, Bool.true_and, Bool.and_true, Bool.false_and, Bool.and_false] at h2
                            have hw3 : IntKind.i64.wrap ((j : Int) + 1) = ((j + 1 : Nat) : Int) := by
                              rw [wrap63 (by omega) (by omega)]
                              omega
                            rw [hw3]
                            clear hw3
                            refine At.next (σ := Nat) (j + 1) rfl rfl (by unfold subFr; kernel_rfl) (by kernel_rfl) ?_ ?_
                            · intro ρ a' w' hi' hf
                              exact ⟨hf, by omega, by rw [hk3]; exact h2⟩
                            · unfold muKy
                              omega
                        · refine At.res 88 (k == 3) false (by kernel_rfl) b1 ?_
                          refine At.to (noF_stable) (noF_fewer) 0 200 [2, 3, 5, 6, 7] 3 ⟨.exit .normal, [.next (Sx.Next w.heap.size w Tryd.f22.ntmps frRk (locKy g s k sz sl of gp lt ea d key dr (some a) n c) (GRk k n ws R) (muKy n) i), .block 0, .seq (sub B22 [1, 1, 1])], [(2, .lp 0 0), (3, .lp 1 0), (5, .io .i64 (IntKind.i64.wrap ((↑i : Int) + 1))), (6, .lp 2 0), (7, .io .i64 (↑j : Int))], [((cfgL g s k sz sl of gp lt ea d), 24), ([.so key, .io .i64 dr, .sl (some a) n c], 50), ([.io .i64 st, .io .i64 en, .io .i64 ho, .io .i64 co, .io .i64 su, .io .i64 mi, .io .i64 ma, .io .i64 si, .io .i64 pa], 89)]⟩ (by kernel_rfl) (by kernel_rfl) ?_
                          have hk3 : (k == 3) = false := b1
                          rw [hk3, cond_false, Bool.true_and] at h2
                          clear b0 b1
                          refine At.to (noF_stable) (noF_fewer) 0 200 [2, 3, 5] 2 ⟨.exit .normal, [.next (Sx.Next w.heap.size w Tryd.f22.ntmps frRk (locKy g s k sz sl of gp lt ea d key dr (some a) n c) (GRk k n ws R) (muKy n) i), .block 0, .seq (sub B22 [1, 1, 1])], [(2, .lp 0 0), (3, .lp 1 0), (5, .io .i64 (IntKind.i64.wrap ((↑i : Int) + 1)))], [((cfgL g s k sz sl of gp lt ea d), 24), ([.so key, .io .i64 dr, .sl (some a) n c], 50)]⟩ (by kernel_rfl) (by kernel_rfl) ?_
                          have hw3 : IntKind.i64.wrap ((i : Int) + 1) = ((i + 1 : Nat) : Int) := by
                            rw [wrap63 (by omega) (by omega)]
                            omega
                          rw [hw3]
                          clear hw3
                          refine At.next (σ := Nat) (i + 1) rfl rfl (by unfold subFr; kernel_rfl) (by kernel_rfl) ?_ ?_
                          · intro ρ a' w' hi' hf
                            refine ⟨hf, by omega, ?_⟩
                            rw [prev_pos (Nat.succ_pos i) hx, take_w hx, hR']
                            exact h2
                          · unfold muKy
                            omega
                      · refine At.res 84 (decide ((↑j : Int) < (↑i : Int))) false (by kernel_rfl) b0 ?_
                        refine At.to (noF_stable) (noF_fewer) 0 200 [2, 3, 5, 6, 7] 3 ⟨.exit .normal, [.next (Sx.Next w.heap.size w Tryd.f22.ntmps frRk (locKy g s k sz sl of gp lt ea d key dr (some a) n c) (GRk k n ws R) (muKy n) i), .block 0, .seq (sub B22 [1, 1, 1])], [(2, .lp 0 0), (3, .lp 1 0), (5, .io .i64 (IntKind.i64.wrap ((↑i : Int) + 1))), (6, .lp 2 0), (7, .io .i64 (↑j : Int))], [((cfgL g s k sz sl of gp lt ea d), 24), ([.so key, .io .i64 dr, .sl (some a) n c], 50), ([.io .i64 st, .io .i64 en, .io .i64 ho, .io .i64 co, .io .i64 su, .io .i64 mi, .io .i64 ma, .io .i64 si, .io .i64 pa], 89)]⟩ (by kernel_rfl) (by kernel_rfl) ?_
                        have hj : ¬ (j : Int) < i := of_decide_eq_false b0
                        have hd : (ws.take i).drop j = [] := List.drop_eq_nil_of_le (by simp only [List.length_take]; omega)
                        rw [hd, List.all_nil, show (bif k == 3 then true else true) = true by cases (k == 3) <;> rfl, Bool.true_and] at h2
                        clear b0
                        refine At.to (noF_stable) (noF_fewer) 0 200 [2, 3, 5] 2 ⟨.exit .normal, [.next (Sx.Next w.heap.size w Tryd.f22.ntmps frRk (locKy g s k sz sl of gp lt ea d key dr (some a) n c) (GRk k n ws R) (muKy n) i), .block 0, .seq (sub B22 [1, 1, 1])], [(2, .lp 0 0), (3, .lp 1 0), (5, .io .i64 (IntKind.i64.wrap ((↑i : Int) + 1)))], [((cfgL g s k sz sl of gp lt ea d), 24), ([.so key, .io .i64 dr, .sl (some a) n c], 50)]⟩ (by kernel_rfl) (by kernel_rfl) ?_
                        have hw3 : IntKind.i64.wrap ((i : Int) + 1) = ((i + 1 : Nat) : Int) := by
                          rw [wrap63 (by omega) (by omega)]
                          omega
                        rw [hw3]
                        clear hw3
                        refine At.next (σ := Nat) (i + 1) rfl rfl (by unfold subFr; kernel_rfl) (by kernel_rfl) ?_ ?_
                        · intro ρ a' w' hi' hf
                          refine ⟨hf, by omega, ?_⟩
                          rw [prev_pos (Nat.succ_pos i) hx, take_w hx, hR']
                          exact h2
                        · unfold muKy
                          omega
      · refine At.res 22 (decide ((↑i : Int) < (↑n : Int))) false (by kernel_rfl) b0 ?_
        refine At.to (noF_stable) (noF_fewer) 0 200 [4] 0 ⟨.exit .ret, [], [(4, .v (.bool true))], []⟩ (by kernel_rfl) (by kernel_rfl) ?_
        refine At.ret (by kernel_rfl) (.v (.bool true)) (by kernel_rfl) ?_
        have hi : ¬ (i : Int) < n := of_decide_eq_false b0
        have hd : ws.drop i = [] := List.drop_eq_nil_of_le (by omega)
        rw [hd] at h2
        intro ρ w9 hm _
        exact ⟨by rw [← h2]; rfl, hm.below⟩

end Go.Proofs.YtiehnigbcfkcdaaDoor
