import Derived.Test.YtiehnigbcfkcdaaDoorAC
import Derived.Test.YtiehnigbcfkcdaaDoorSxAA
set_option linter.unusedSimpArgs false
set_option linter.unusedVariables false
namespace Go.Proofs.YtiehnigbcfkcdaaDoor
open Go.RowKit Go.Sx

def iv (ms : List Int) : List Value := ms.map fun n => Value.int .i64 n
theorem iv_one (ms : List Int) : ∀ u ∈ iv ms, u.oneCell' = true := fun u hu => by
  obtain ⟨n, _, rfl⟩ := List.mem_map.1 hu
  rfl
/-- A slice holds these numbers. -/
def SlI (w : World) (A : Option Addr) (n : Nat) (ms : List Int) : Prop := ms.length = n ∧ (A = none → ms = []) ∧ ∀ a, A = some a → Src w a (iv ms)
theorem SlI.below {w w' : World} {A : Option Addr} {n : Nat} {ms : List Int} (h : SlI w A n ms) (hb : Below w.heap.size w w') : SlI w' A n ms :=
  ⟨h.1, h.2.1, fun a ha => src_low (h.2.2 a ha) hb⟩
theorem SlI.cell {w : World} {a : Addr} {n : Nat} {ms : List Int} (h : SlI w (some a) n ms) {j : Nat} {x : Int} (hx : ms[j]? = some x) : w.cell? (a.add j) = some (.int .i64 x) :=
  h.2.2 a rfl j _ (by simp [iv, hx])
theorem SlI.head {w : World} {a : Addr} {n m : Nat} {ms zs : List Int} (h : SlI w (some a) m (ms ++ zs)) (hl : ms.length = n) : SlI w (some a) n ms :=
  ⟨hl, fun h => by (cases h), fun a' ha j u hj => h.2.2 a' ha j u (by
    have := (List.getElem?_eq_some_iff.1 hj).1
    simp only [iv, List.map_append]
    rw [List.getElem?_append_left (by simpa [iv] using this)]
    exact hj)⟩

noncomputable def B48 : Code := (Tryd.f48.body).getD .skip
set_option maxHeartbeats 4000000 in
set_option maxRecDepth 100000 in
theorem ilend_some (a : Addr) (n c : Nat) (ms : List Int) (hl : ms.length = n) (hn : n * 8 ≤ 140737488351232) (w : World) (hsrc : Src w a (iv ms)) :
    Calls Tryd.prog 48 #[.slice (some a) n c] w fun e w' => ∃ A' n' c', e = .returned (.slice A' n c') ∧ RowF w (fun _ => False) [] w.heap.size 2 1 A' n' c' (iv (ms ++ [-7000, -7001, -7002])) [] w' := by
  refine enter (fn := Tryd.f48) (c := B48) [.sl (some a) n c] Tryd.func48 rfl rfl ?_
  refine At.to (noF_stable) (noF_fewer) 20 300 [0, 5, 6] 1 ⟨pops B48 [1, 0] 2, [.seq (sub B48 [1, 1])], [(0, .sl (some a) n c), (5, .ls 0 0 0 0), (6, .sl (some a) n c)], [([], 2)]⟩ (by kernel_rfl) (by kernel_rfl) ?_
  refine At.lsRow 5 [0, 6] 0 2 1 rfl rfl rfl rfl (by kernel_rfl) ?_
  intro A
  refine At.toJ (RowF.stable) RowF.fewer 20 300 [0, 5, 6] 0 ⟨pops B48 [1, 0] 2, [.seq (sub B48 [1, 1])], [(0, .sl (some a) n c), (5, .sl A 0 0), (6, .sl (some a) n c)], []⟩ (by kernel_rfl) (by kernel_rfl) ?_
  refine At.appOut 2 1 8 A 0 0 a n c (fun _ => False) [] w.heap.size [] (iv ms) (by kernel_rfl) (by simp [iv, hl]) (iv_one _) (fun ρ w1 hm hf => src_low hsrc hm.below) (by omega) (by simp only [maxLen]; omega) (Nat.le_refl _) ?_
  intro A1 c1
  rw [Nat.zero_add, List.nil_append]
  refine At.toJ (RowF.stable) RowF.fewer 20 300 [0, 4, 12, 15] 1 ⟨pops B48 [1, 1, 0, 1, 4, 4, 1, 0, 4] 4, [.block 1, .seq (sub B48 [1, 1, 0, 1, 4, 4, 1, 1]), .rounds (sub B48 [1, 1, 0, 1, 4, 4]) 19, .block 0, .seq (sub B48 [1, 1, 1])], [(0, .sl (some a) n c), (4, .v (.int .i64 0)), (12, .sl A1 n c1), (15, .ls 0 0 1 1)], [([.v (.int .i64 (-7000))], 2)]⟩ (by kernel_rfl) (by kernel_rfl) ?_
  refine At.app (55) (2) (1) (8) (A1) (n) (c1) (1) ([.v (.int .i64 (-7000))]) _ _ _ _ ([.int .i64 (-7000)]) (by kernel_rfl) (fun ρ => by kernel_rfl) (by first | omega | (simp only [Go.maxLen]; omega)) (by first | omega | (simp only [Go.maxLen]; omega)) (by first | omega | (simp only [Go.maxLen]; omega)) fun A0 c0 => ?_
  refine At.toJ (RowF.stable) RowF.fewer 20 300 [0, 4, 12, 15] 2 ⟨pops B48 [1, 1, 0, 1, 4, 4, 1, 0, 4] 4, [.block 1, .seq (sub B48 [1, 1, 0, 1, 4, 4, 1, 1]), .rounds (sub B48 [1, 1, 0, 1, 4, 4]) 18, .block 0, .seq (sub B48 [1, 1, 1])], [(0, .sl (some a) n c), (4, .v (.int .i64 1)), (12, .sl A0 (n + 1) c0), (15, .ls 1 0 1 1)], [([.v (.int .i64 (-7000))], 2), ([.v (.int .i64 (-7001))], 2)]⟩ (by kernel_rfl) (by kernel_rfl) ?_
  refine At.app (55) (2) (1) (8) (A0) (n + 1) (c0) (1) ([.v (.int .i64 (-7001))]) _ _ _ _ ([.int .i64 (-7001)]) (by kernel_rfl) (fun ρ => by kernel_rfl) (by first | omega | (simp only [Go.maxLen]; omega)) (by first | omega | (simp only [Go.maxLen]; omega)) (by first | omega | (simp only [Go.maxLen]; omega)) fun A1 c1 => ?_
  refine At.toJ (RowF.stable) RowF.fewer 20 300 [0, 4, 12, 15] 3 ⟨pops B48 [1, 1, 0, 1, 4, 4, 1, 0, 4] 4, [.block 1, .seq (sub B48 [1, 1, 0, 1, 4, 4, 1, 1]), .rounds (sub B48 [1, 1, 0, 1, 4, 4]) 17, .block 0, .seq (sub B48 [1, 1, 1])], [(0, .sl (some a) n c), (4, .v (.int .i64 2)), (12, .sl A1 (n + 1 + 1) c1), (15, .ls 2 0 1 1)], [([.v (.int .i64 (-7000))], 2), ([.v (.int .i64 (-7001))], 2), ([.v (.int .i64 (-7002))], 2)]⟩ (by kernel_rfl) (by kernel_rfl) ?_
  refine At.app (55) (2) (1) (8) (A1) (n + 1 + 1) (c1) (1) ([.v (.int .i64 (-7002))]) _ _ _ _ ([.int .i64 (-7002)]) (by kernel_rfl) (fun ρ => by kernel_rfl) (by first | omega | (simp only [Go.maxLen]; omega)) (by first | omega | (simp only [Go.maxLen]; omega)) (by first | omega | (simp only [Go.maxLen]; omega)) fun A2 c2 => ?_
  refine At.toJ (RowF.stable) RowF.fewer 20 300 [17, 19] 0 ⟨pops B48 [1, 1, 1, 0] 3, [.seq (sub B48 [1, 1, 1, 1])], [(17, .sl A2 (n + 1 + 1 + 1) c2), (19, .io .i64 (↑n : Int))], []⟩ (by kernel_rfl) (by kernel_rfl) ?_
  refine At.slx A2 (n + 1 + 1 + 1) c2 none n 1 (.sl A2 n c2) (by kernel_rfl) RowF.stable (by simp) (by simp) (fun ρ w1 hm hf => ?_) ?_
  · have hle := row_cap hf.1.1 (by omega)
    refine ⟨by omega, ?_⟩
    simp only [SV.den, Option.getD_none, Int.toNat_zero, Nat.zero_mul, Nat.sub_zero, Int.toNat_natCast]
    cases A2 with
    | none => simp
    | some a => simp [Addr.add]
  refine At.toJ (RowF.stable) RowF.fewer 20 300 [2] 0 ⟨.exit .ret, [], [(2, .sl A2 n c2)], []⟩ (by kernel_rfl) (by kernel_rfl) ?_
  refine At.ret (by kernel_rfl) (.sl A2 n c2) (by kernel_rfl) ?_
  intro ρ w9 hm hf
  refine ⟨_, n + 1 + 1 + 1, _, rfl, ?_⟩
  have hx : iv ms ++ [Value.int .i64 (-7000)] ++ [Value.int .i64 (-7001)] ++ [Value.int .i64 (-7002)] = iv (ms ++ [-7000, -7001, -7002]) := by simp [iv]
  rw [← hx]
  exact RowF.fewer _ _ 0 (Nat.zero_le _) hf

set_option maxHeartbeats 4000000 in
set_option maxRecDepth 100000 in
theorem ilend_nil (k : Nat) (w : World) :
    Calls Tryd.prog 48 #[.slice none 0 k] w fun e w' => ∃ A' n' c', e = .returned (.slice A' 0 c') ∧ RowF w (fun _ => False) [] w.heap.size 2 1 A' n' c' (iv ([] ++ [-7000, -7001, -7002])) [] w' := by
  refine enter (fn := Tryd.f48) (c := B48) [.sl none 0 k] Tryd.func48 rfl rfl ?_
  refine At.to (noF_stable) (noF_fewer) 20 300 [0, 5, 6] 1 ⟨pops B48 [1, 0] 2, [.seq (sub B48 [1, 1])], [(0, .sl none 0 k), (5, .ls 0 0 0 0), (6, .sl none 0 k)], [([], 2)]⟩ (by kernel_rfl) (by kernel_rfl) ?_
  refine At.lsRow 5 [0, 6] 0 2 1 rfl rfl rfl rfl (by kernel_rfl) ?_
  intro A
  refine At.toJ (RowF.stable) RowF.fewer 20 300 [0, 5, 6] 0 ⟨pops B48 [1, 0] 2, [.seq (sub B48 [1, 1])], [(0, .sl none 0 k), (5, .sl A 0 0), (6, .sl none 0 k)], []⟩ (by kernel_rfl) (by kernel_rfl) ?_
  refine At.appNone 2 1 8 A 0 0 k (fun _ => False) [] w.heap.size [] (by kernel_rfl) ?_
  refine At.toJ (RowF.stable) RowF.fewer 20 300 [0, 4, 12, 15] 1 ⟨pops B48 [1, 1, 0, 1, 4, 4, 1, 0, 4] 4, [.block 1, .seq (sub B48 [1, 1, 0, 1, 4, 4, 1, 1]), .rounds (sub B48 [1, 1, 0, 1, 4, 4]) 19, .block 0, .seq (sub B48 [1, 1, 1])], [(0, .sl none 0 k), (4, .v (.int .i64 0)), (12, .sl A 0 0), (15, .ls 0 0 1 1)], [([.v (.int .i64 (-7000))], 2)]⟩ (by kernel_rfl) (by kernel_rfl) ?_
  refine At.app (55) (2) (1) (8) (A) (0) (0) (1) ([.v (.int .i64 (-7000))]) _ _ _ _ ([.int .i64 (-7000)]) (by kernel_rfl) (fun ρ => by kernel_rfl) (by first | omega | (simp only [Go.maxLen]; omega)) (by first | omega | (simp only [Go.maxLen]; omega)) (by first | omega | (simp only [Go.maxLen]; omega)) fun A0 c0 => ?_
  refine At.toJ (RowF.stable) RowF.fewer 20 300 [0, 4, 12, 15] 2 ⟨pops B48 [1, 1, 0, 1, 4, 4, 1, 0, 4] 4, [.block 1, .seq (sub B48 [1, 1, 0, 1, 4, 4, 1, 1]), .rounds (sub B48 [1, 1, 0, 1, 4, 4]) 18, .block 0, .seq (sub B48 [1, 1, 1])], [(0, .sl none 0 k), (4, .v (.int .i64 1)), (12, .sl A0 1 c0), (15, .ls 1 0 1 1)], [([.v (.int .i64 (-7000))], 2), ([.v (.int .i64 (-7001))], 2)]⟩ (by kernel_rfl) (by kernel_rfl) ?_
  refine At.app (55) (2) (1) (8) (A0) (1) (c0) (1) ([.v (.int .i64 (-7001))]) _ _ _ _ ([.int .i64 (-7001)]) (by kernel_rfl) (fun ρ => by kernel_rfl) (by first | omega | (simp only [Go.maxLen]; omega)) (by first | omega | (simp only [Go.maxLen]; omega)) (by first | omega | (simp only [Go.maxLen]; omega)) fun A1 c1 => ?_
  refine At.toJ (RowF.stable) RowF.fewer 20 300 [0, 4, 12, 15] 3 ⟨pops B48 [1, 1, 0, 1, 4, 4, 1, 0, 4] 4, [.block 1, .seq (sub B48 [1, 1, 0, 1, 4, 4, 1, 1]), .rounds (sub B48 [1, 1, 0, 1, 4, 4]) 17, .block 0, .seq (sub B48 [1, 1, 1])], [(0, .sl none 0 k), (4, .v (.int .i64 2)), (12, .sl A1 2 c1), (15, .ls 2 0 1 1)], [([.v (.int .i64 (-7000))], 2), ([.v (.int .i64 (-7001))], 2), ([.v (.int .i64 (-7002))], 2)]⟩ (by kernel_rfl) (by kernel_rfl) ?_
  refine At.app (55) (2) (1) (8) (A1) (2) (c1) (1) ([.v (.int .i64 (-7002))]) _ _ _ _ ([.int .i64 (-7002)]) (by kernel_rfl) (fun ρ => by kernel_rfl) (by first | omega | (simp only [Go.maxLen]; omega)) (by first | omega | (simp only [Go.maxLen]; omega)) (by first | omega | (simp only [Go.maxLen]; omega)) fun A2 c2 => ?_
  refine At.toJ (RowF.stable) RowF.fewer 20 300 [17, 19] 0 ⟨pops B48 [1, 1, 1, 0] 3, [.seq (sub B48 [1, 1, 1, 1])], [(17, .sl A2 3 c2), (19, .io .i64 0)], []⟩ (by kernel_rfl) (by kernel_rfl) ?_
  refine At.slx A2 3 c2 none 0 1 (.sl A2 0 c2) (by kernel_rfl) RowF.stable (by simp) (by simp) (fun ρ w1 hm hf => ?_) ?_
  · have hle := row_cap hf.1.1 (by omega)
    refine ⟨by omega, ?_⟩
    simp only [SV.den, Option.getD_none, Int.toNat_zero, Nat.zero_mul, Nat.sub_zero, Int.toNat_natCast]
    cases A2 with
    | none => simp
    | some a => simp [Addr.add]
  refine At.toJ (RowF.stable) RowF.fewer 20 300 [2] 0 ⟨.exit .ret, [], [(2, .sl A2 0 c2)], []⟩ (by kernel_rfl) (by kernel_rfl) ?_
  refine At.ret (by kernel_rfl) (.sl A2 0 c2) (by kernel_rfl) ?_
  intro ρ w9 hm hf
  refine ⟨_, 3, _, rfl, ?_⟩
  exact RowF.fewer _ _ 0 (Nat.zero_le _) hf


theorem ilend_any (B : Option Addr) (n c : Nat) (ms : List Int) (hn : n * 8 ≤ 140737488351232) (w : World) (hb : SlI w B n ms) :
    Calls Tryd.prog 48 #[.slice B n c] w fun e w' => ∃ A' n' c', e = .returned (.slice A' n c') ∧ RowF w (fun _ => False) [] w.heap.size 2 1 A' n' c' (iv (ms ++ [-7000, -7001, -7002])) [] w' := by
  have hl := hb.1
  cases B with
  | some a => exact ilend_some a n c ms hl hn w (hb.2.2 a rfl)
  | none =>
    have h0 := hb.2.1 rfl
    subst h0
    have hn0 : n = 0 := hl.symm
    subst hn0
    exact ilend_nil c w

noncomputable def B65 : Code := (Tryd.f65.body).getD .skip
set_option maxHeartbeats 4000000 in
set_option maxRecDepth 100000 in
theorem ints_same (A B : Option Addr) (n c k : Nat) (ms : List Int) (hn : n ≤ 140737488355320) (w : World) (hx : SlI w A n ms) (hy : SlI w B n ms) :
    Calls Tryd.prog 65 #[.slice A n c, .slice B n k] w fun e w' => e = .returned (.bool true) ∧ Below w.heap.size w w' := by
  have hnn : ((n : Int) != (n : Int)) = false := by simp
  refine enter (fn := Tryd.f65) (c := B65) [.sl A n c, .sl B n k] Tryd.func65 rfl rfl ?_
  refine At.to (noF_stable) (noF_fewer) 0 300 [0, 1, 10] 0 ⟨.code (sub B65 [1, 0, 1]), [.seq (sub B65 [1, 1])], [(0, .sl A n c), (1, .sl B n k), (10, .bo ((↑n : Int) != (↑n : Int)))], []⟩ (by kernel_rfl) (by kernel_rfl) ?_
  refine At.res 10 ((↑n : Int) != (↑n : Int)) false (by kernel_rfl) hnn ?_
  refine At.to (noF_stable) (noF_fewer) 0 300 [0, 1, 5] 0 ⟨.code (sub B65 [1, 1, 0, 1, 4]), [.block 0, .seq (sub B65 [1, 1, 1])], [(0, .sl A n c), (1, .sl B n k), (5, .v (.int .i64 0))], []⟩ (by kernel_rfl) (by kernel_rfl) ?_
  refine At.canon _ rfl ?_
  refine At.loop (σ := Nat) (sub B65 [1, 1, 0, 1, 4, 4]) (frWn A B n c k) locWn (GWn n) (muKy n) 0 (by kernel_rfl) (by unfold subFr; kernel_rfl) (by kernel_rfl) (fun _ _ _ _ h => ⟨h, Nat.zero_le _⟩) ?_
  intro i
  refine At.pure fun h1 => ?_
  have hl := hx.1
  refine At.to (noF_stable) (noF_fewer) 0 300 [0, 1, 5, 14] 0 ⟨.code (sub B65 [1, 1, 0, 1, 4, 4, 0, 1]), [.seq (sub B65 [1, 1, 0, 1, 4, 4, 1]), .next (Sx.Next w.heap.size w Tryd.f65.ntmps (frWn A B n c k) locWn (GWn n) (muKy n) i), .block 0, .seq (sub B65 [1, 1, 1])], [(0, .sl A n c), (1, .sl B n k), (5, .io .i64 (↑i : Int)), (14, .bo (decide ((↑i : Int) < (↑n : Int))))], []⟩ (by kernel_rfl) (by kernel_rfl) ?_
  rcases Bool.eq_false_or_eq_true (decide ((↑i : Int) < (↑n : Int))) with b0 | b0
  · refine At.res 14 (decide ((↑i : Int) < (↑n : Int))) true (by kernel_rfl) b0 ?_
    refine At.to (noF_stable) (noF_fewer) 0 300 [0, 1, 5, 17, 18] 0 ⟨pqops B65 [1, 1, 0, 1, 4, 4, 1, 0, 4, 0] 2, [.seq (sub B65 [1, 1, 0, 1, 4, 4, 1, 0, 4, 1]), .block 1, .seq (sub B65 [1, 1, 0, 1, 4, 4, 1, 1]), .next (Sx.Next w.heap.size w Tryd.f65.ntmps (frWn A B n c k) locWn (GWn n) (muKy n) i), .block 0, .seq (sub B65 [1, 1, 1])], [(0, .sl A n c), (1, .sl B n k), (5, .io .i64 (↑i : Int)), (17, .sl A n c), (18, .io .i64 (↑i : Int))], []⟩ (by kernel_rfl) (by kernel_rfl) ?_
    have hi : i < n := by have := of_decide_eq_true b0; omega
    clear b0
    obtain ⟨a, rfl⟩ : ∃ a, A = some a := by
      cases A with
      | none => have := hx.2.1 rfl; subst this; simp at hl; omega
      | some a => exact ⟨a, rfl⟩
    obtain ⟨b, rfl⟩ : ∃ b, B = some b := by
      cases B with
      | none => have := hy.2.1 rfl; subst this; simp at hl; omega
      | some b => exact ⟨b, rfl⟩
    obtain ⟨x, hz⟩ : ∃ x, ms[i]? = some x := ⟨_, List.getElem?_eq_getElem (by omega)⟩
    refine At.idx a n 1 (i : Int) (by kernel_rfl) (by omega) (by omega) noF_stable ?_
    refine At.ldx (a.add ((i : Int).toNat * 1)) (.io .i64 x) (by kernel_rfl) noF_stable (fun ρ w1 hm hf => by rw [Int.toNat_natCast, Nat.mul_one]; exact (hx.below hm.below).cell hz) ?_
    refine At.to (noF_stable) (noF_fewer) 0 300 [0, 1, 5, 20, 21, 22] 0 ⟨pqops B65 [1, 1, 0, 1, 4, 4, 1, 0, 4, 0] 6, [.seq (sub B65 [1, 1, 0, 1, 4, 4, 1, 0, 4, 1]), .block 1, .seq (sub B65 [1, 1, 0, 1, 4, 4, 1, 1]), .next (Sx.Next w.heap.size w Tryd.f65.ntmps (frWn (some a) (some b) n c k) locWn (GWn n) (muKy n) i), .block 0, .seq (sub B65 [1, 1, 1])], [(0, .sl (some a) n c), (1, .sl (some b) n k), (5, .io .i64 (↑i : Int)), (20, .io .i64 x), (21, .sl (some b) n k), (22, .io .i64 (↑i : Int))], []⟩ (by kernel_rfl) (by kernel_rfl) ?_
    refine At.idx b n 1 (i : Int) (by kernel_rfl) (by omega) (by omega) noF_stable ?_
    refine At.ldx (b.add ((i : Int).toNat * 1)) (.io .i64 x) (by kernel_rfl) noF_stable (fun ρ w1 hm hf => by rw [Int.toNat_natCast, Nat.mul_one]; exact (hy.below hm.below).cell hz) ?_
    refine At.to (noF_stable) (noF_fewer) 0 300 [0, 1, 5, 25] 0 ⟨.code (sub B65 [1, 1, 0, 1, 4, 4, 1, 0, 4, 1]), [.block 1, .seq (sub B65 [1, 1, 0, 1, 4, 4, 1, 1]), .next (Sx.Next w.heap.size w Tryd.f65.ntmps (frWn (some a) (some b) n c k) locWn (GWn n) (muKy n) i), .block 0, .seq (sub B65 [1, 1, 1])], [(0, .sl (some a) n c), (1, .sl (some b) n k), (5, .io .i64 (↑i : Int)), (25, .bo (x != x))], []⟩ (by kernel_rfl) (by kernel_rfl) ?_
    refine At.res 25 (x != x) false (by kernel_rfl) (by first | assumption | (simp only [*]; done) | (simp [*]; done)) ?_
    refine At.to (noF_stable) (noF_fewer) 0 300 [0, 1, 5] 0 ⟨.exit .normal, [.next (Sx.Next w.heap.size w Tryd.f65.ntmps (frWn (some a) (some b) n c k) locWn (GWn n) (muKy n) i), .block 0, .seq (sub B65 [1, 1, 1])], [(0, .sl (some a) n c), (1, .sl (some b) n k), (5, .io .i64 (IntKind.i64.wrap ((↑i : Int) + 1)))], []⟩ (by kernel_rfl) (by kernel_rfl) ?_
    have hw3 : IntKind.i64.wrap ((i : Int) + 1) = ((i + 1 : Nat) : Int) := by
      rw [wrap63 (by omega) (by omega)]
      omega
    rw [hw3]
    refine At.next (σ := Nat) (i + 1) rfl rfl (by unfold subFr; kernel_rfl) (by kernel_rfl) ?_ ?_
    · intro ρ a' w' hi' hf
      exact ⟨hf, by omega⟩
    · unfold muKy
      omega
  · refine At.res 14 (decide ((↑i : Int) < (↑n : Int))) false (by kernel_rfl) b0 ?_
    refine At.to (noF_stable) (noF_fewer) 0 300 [4] 0 ⟨.exit .ret, [], [(4, .v (.bool true))], []⟩ (by kernel_rfl) (by kernel_rfl) ?_
    refine At.ret (by kernel_rfl) (.v (.bool true)) (by kernel_rfl) ?_
    intro ρ w9 hm _
    exact ⟨rfl, hm.below⟩

noncomputable def B52 : Code := (Tryd.f52.body).getD .skip
set_option maxHeartbeats 4000000 in
set_option maxRecDepth 100000 in
theorem ikept_any (a : Addr) (B : Option Addr) (n c k : Nat) (ms : List Int) (hn : n ≤ 140737488355320) (hc : n + 3 ≤ c) (w : World) (hx : SlI w (some a) (n + 3) (ms ++ [-7000, -7001, -7002])) (hy : SlI w B n ms) :
    Calls Tryd.prog 52 #[.slice (some a) n c, .slice B n k] w fun e w' => e = .returned (.bool true) ∧ Below w.heap.size w w' := by
  have hl := hy.1
  have w3 : IntKind.i64.wrap ((n : Int) + 3) = ((n + 3 : Nat) : Int) := wrap_add (k := 3) hn (by omega)
  have w0 : IntKind.i64.wrap ((n : Int) + 0) = ((n + 0 : Nat) : Int) := wrap_add (k := 0) hn (by omega)
  have w1 : IntKind.i64.wrap ((n : Int) + 1) = ((n + 1 : Nat) : Int) := wrap_add (k := 1) hn (by omega)
  have w2 : IntKind.i64.wrap ((n : Int) + 2) = ((n + 2 : Nat) : Int) := wrap_add (k := 2) hn (by omega)
  refine enter (fn := Tryd.f52) (c := B52) [.sl (some a) n c, .sl B n k] Tryd.func52 rfl rfl ?_
  refine At.to (noF_stable) (noF_fewer) 20 300 [0, 1, 7, 8] 0 ⟨pops B52 [1, 0, 0] 2, [.seq (sub B52 [1, 0, 1]), .seq (sub B52 [1, 1])], [(0, .sl (some a) n c), (1, .sl B n k), (7, .sl (some a) n c), (8, .sl B n k)], []⟩ (by kernel_rfl) (by kernel_rfl) ?_
  refine At.call noF_stable 65 [.sl (some a) n c, .sl B n k] (.v (.bool true)) (by kernel_rfl) (by kernel_rfl) (by kernel_rfl) (fun _ _ w1 hi _ => ints_same (some a) B n c k ms hn w1 ((hx.head hl).below hi.mem.below) (hy.below hi.mem.below)) ?_
  refine At.to (noF_stable) (noF_fewer) 20 300 [1, 11, 14] 0 ⟨pops B52 [1, 1, 0] 4, [.seq (sub B52 [1, 1, 1])], [(1, .sl B n k), (11, .sl (some a) n c), (14, .io .i64 (IntKind.i64.wrap ((↑n : Int) + 3)))], []⟩ (by kernel_rfl) (by kernel_rfl) ?_
  rw [w3]
  refine At.slx (some a) n c none ((n + 3 : Nat) : Int) 1 (.sl (some a) (n + 3) c) (by kernel_rfl) noF_stable (by simp) (by simp only [Option.getD_none]; omega) (fun ρ w1 hm hf => ⟨by omega, ?_⟩) ?_
  · simp only [SV.den, Option.getD_none, Int.toNat_zero, Nat.zero_mul, Nat.sub_zero, Int.toNat_natCast]
    rw [if_neg (by omega)]
    simp [Addr.add]
  refine At.to (noF_stable) (noF_fewer) 20 300 [1, 5, 6, 20, 24] 0 ⟨pops B52 [1, 1, 1, 0, 1, 4, 4, 1, 0, 4, 0] 5, [.seq (sub B52 [1, 1, 1, 0, 1, 4, 4, 1, 0, 4, 1]), .block 1, .seq (sub B52 [1, 1, 1, 0, 1, 4, 4, 1, 1]), .rounds (sub B52 [1, 1, 1, 0, 1, 4, 4]) 19, .block 0, .seq (sub B52 [1, 1, 1, 1])], [(1, .sl B n k), (5, .sl (some a) (n + 3) c), (6, .v (.int .i64 0)), (20, .sl (some a) (n + 3) c), (24, .io .i64 (IntKind.i64.wrap ((↑n : Int) + 0)))], []⟩ (by kernel_rfl) (by kernel_rfl) ?_
  rw [w0]
  refine At.idx a (n + 3) 1 ((n + 0 : Nat) : Int) (by kernel_rfl) (by omega) (by omega) noF_stable ?_
  refine At.ldx (a.add (((n + 0 : Nat) : Int).toNat * 1)) (.v (.int .i64 (-7000))) (by kernel_rfl) noF_stable (fun ρ w1 hm hf => ?_) ?_
  · rw [Int.toNat_natCast, Nat.mul_one]
    exact (hx.below hm.below).cell (x := -7000) (by rw [List.getElem?_append_right (by omega), hl, Nat.add_sub_cancel_left]; rfl)
  refine At.to (noF_stable) (noF_fewer) 20 300 [1, 5, 6, 20, 24] 0 ⟨pops B52 [1, 1, 1, 0, 1, 4, 4, 1, 0, 4, 0] 5, [.seq (sub B52 [1, 1, 1, 0, 1, 4, 4, 1, 0, 4, 1]), .block 1, .seq (sub B52 [1, 1, 1, 0, 1, 4, 4, 1, 1]), .rounds (sub B52 [1, 1, 1, 0, 1, 4, 4]) 18, .block 0, .seq (sub B52 [1, 1, 1, 1])], [(1, .sl B n k), (5, .sl (some a) (n + 3) c), (6, .v (.int .i64 1)), (20, .sl (some a) (n + 3) c), (24, .io .i64 (IntKind.i64.wrap ((↑n : Int) + IntKind.i64.wrap (0 + 1))))], []⟩ (by kernel_rfl) (by kernel_rfl) ?_
  rw [show IntKind.i64.wrap (0 + 1) = 1 from by decide]
  rw [w1]
  refine At.idx a (n + 3) 1 ((n + 1 : Nat) : Int) (by kernel_rfl) (by omega) (by omega) noF_stable ?_
  refine At.ldx (a.add (((n + 1 : Nat) : Int).toNat * 1)) (.v (.int .i64 (-7001))) (by kernel_rfl) noF_stable (fun ρ w1 hm hf => ?_) ?_
  · rw [Int.toNat_natCast, Nat.mul_one]
    exact (hx.below hm.below).cell (x := -7001) (by rw [List.getElem?_append_right (by omega), hl, Nat.add_sub_cancel_left]; rfl)
  refine At.to (noF_stable) (noF_fewer) 20 300 [1, 5, 6, 20, 24] 0 ⟨pops B52 [1, 1, 1, 0, 1, 4, 4, 1, 0, 4, 0] 5, [.seq (sub B52 [1, 1, 1, 0, 1, 4, 4, 1, 0, 4, 1]), .block 1, .seq (sub B52 [1, 1, 1, 0, 1, 4, 4, 1, 1]), .rounds (sub B52 [1, 1, 1, 0, 1, 4, 4]) 17, .block 0, .seq (sub B52 [1, 1, 1, 1])], [(1, .sl B n k), (5, .sl (some a) (n + 3) c), (6, .v (.int .i64 2)), (20, .sl (some a) (n + 3) c), (24, .io .i64 (IntKind.i64.wrap ((↑n : Int) + IntKind.i64.wrap (1 + 1))))], []⟩ (by kernel_rfl) (by kernel_rfl) ?_
  rw [show IntKind.i64.wrap (1 + 1) = 2 from by decide]
  rw [w2]
  refine At.idx a (n + 3) 1 ((n + 2 : Nat) : Int) (by kernel_rfl) (by omega) (by omega) noF_stable ?_
  refine At.ldx (a.add (((n + 2 : Nat) : Int).toNat * 1)) (.v (.int .i64 (-7002))) (by kernel_rfl) noF_stable (fun ρ w1 hm hf => ?_) ?_
  · rw [Int.toNat_natCast, Nat.mul_one]
    exact (hx.below hm.below).cell (x := -7002) (by rw [List.getElem?_append_right (by omega), hl, Nat.add_sub_cancel_left]; rfl)
  refine At.to (noF_stable) (noF_fewer) 20 300 [4] 0 ⟨.exit .ret, [], [(4, .v (.bool true))], []⟩ (by kernel_rfl) (by kernel_rfl) ?_
  refine At.ret (by kernel_rfl) (.v (.bool true)) (by kernel_rfl) ?_
  intro ρ w9 hm _
  exact ⟨rfl, hm.below⟩

end Go.Proofs.YtiehnigbcfkcdaaDoor
