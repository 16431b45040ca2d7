import Derived.Test.YtiehnigbcfkcdaaDoorAF
import Derived.Test.YtiehnigbcfkcdaaDoorTi
set_option linter.unusedSimpArgs false
set_option linter.unusedVariables false
namespace Go.Proofs.YtiehnigbcfkcdaaDoor
open Go.RowKit Go.Sx

def idxGo (p : Int → Bool) : Nat → List Int → Int
  | _, [] => -1
  | i, x :: r => bif p x then (i : Int) else idxGo p (i + 1) r
theorem idx_any (p : Int → Bool) : ∀ (l : List Int) (i : Nat), decide (idxGo p i l ≥ 0) = l.any p
  | [], i => rfl
  | x :: r, i => by
    rw [List.any_cons]
    by_cases hp : p x = true
    · simp only [idxGo, hp, cond_true, Bool.true_or]
      exact decide_eq_true (by omega)
    · have hp' : p x = false := by simpa using hp
      simp only [idxGo, hp', cond_false, Bool.false_or]
      exact idx_any p r (i + 1)
def offT (t : Int) : Bool := !(timeB t)
def frIx (f : Fn) (A : Option Addr) (n c : Nat) (i : Nat) : Fr := [(0, .sl A n c), (1, .fn f []), (7, .io .i64 n), (8, .io .i64 (i : Int))]
def GIx (p : Int → Bool) (n : Nat) (ms : List Int) (R : Int) (i : Nat) (ρ : List Nat) (w : World) : Prop := noF ρ w ∧ (i ≤ n ∧ idxGo p i (ms.drop i) = R)

noncomputable def B50 : Code := (Tryd.f50.body).getD .skip
set_option maxHeartbeats 4000000 in
set_option maxRecDepth 100000 in
theorem off_any (t : Int) (w : World) : Calls Tryd.prog 50 #[.int .i64 t] w fun e w' => e = .returned (.bool (!(timeB t))) ∧ Below w.heap.size w w' := by
  refine enter (fn := Tryd.f50) (c := B50) [.io .i64 t] Tryd.func50 rfl rfl ?_
  refine At.to noF_stable noF_fewer 20 400 [3] 0 ⟨pops B50 [1, 0] 1, [.seq (sub B50 [1, 1])], [(3, .io .i64 t)], []⟩ (by kernel_rfl) (by kernel_rfl) ?_
  refine At.call noF_stable 41 [.io .i64 t] (.bo (timeB t)) (by kernel_rfl) (by kernel_rfl) (by kernel_rfl) (fun _ _ w _ _ => istime_any (t) w) ?_
  refine At.to noF_stable noF_fewer 20 400 [2] 0 ⟨.exit .ret, [], [(2, .bo !timeB t)], []⟩ (by kernel_rfl) (by kernel_rfl) ?_
  refine At.ret (by kernel_rfl) (.bo !timeB t) (by kernel_rfl) ?_
  intro ρ w9 hw9 _
  exact ⟨rfl, hw9.below⟩

noncomputable def B64 : Code := (Tryd.f64.body).getD .skip
set_option maxHeartbeats 4000000 in
set_option maxRecDepth 100000 in
theorem index_time (A : Option Addr) (n c : Nat) (ms : List Int) (hn : n ≤ 140737488355320) (w : World) (hx : SlI w A n ms) :
    Calls Tryd.prog 64 #[.slice A n c, .func (.func 41) #[] #[]] w fun e w' => e = .returned (.int .i64 (idxGo timeB 0 ms)) ∧ Below w.heap.size w w' := by
  refine enter (fn := Tryd.f64) (c := B64) [.sl A n c, .fn (.func 41) []] Tryd.func64 rfl rfl ?_
  refine At.to (noF_stable) (noF_fewer) 0 300 [0, 1, 7, 8] 0 ⟨.code (sub B64 [1, 0, 1, 4]), [.block 0, .seq (sub B64 [1, 1])], [(0, .sl A n c), (1, .fn (Fn.func 41) []), (7, .io .i64 (↑n : Int)), (8, .v (.int .i64 0))], []⟩ (by kernel_rfl) (by kernel_rfl) ?_
  generalize hR : idxGo timeB 0 ms = R
  refine At.canon _ rfl ?_
  refine At.loop (σ := Nat) (sub B64 [1, 0, 1, 4, 4]) (frIx (.func 41) A n c) locWn (GIx timeB n ms R) (muKy n) 0 (by kernel_rfl) (by unfold subFr; kernel_rfl) (by kernel_rfl) (fun _ _ _ _ h => ⟨h, Nat.zero_le _, hR⟩) ?_
  clear hR
  intro i
  refine At.pure fun ⟨h1, h2⟩ => ?_
  have hl := hx.1
  refine At.to (noF_stable) (noF_fewer) 0 300 [0, 1, 7, 8, 9] 0 ⟨.code (sub B64 [1, 0, 1, 4, 4, 1, 0]), [.seq (sub B64 [1, 0, 1, 4, 4, 1, 1]), .next (Sx.Next w.heap.size w Tryd.f64.ntmps (frIx (Fn.func 41) A n c) locWn (GIx timeB n ms R) (muKy n) i), .block 0, .seq (sub B64 [1, 1])], [(0, .sl A n c), (1, .fn (Fn.func 41) []), (7, .io .i64 (↑n : Int)), (8, .io .i64 (↑i : Int)), (9, .bo (decide ((↑i : Int) < (↑n : Int))))], []⟩ (by kernel_rfl) (by kernel_rfl) ?_
  rcases Bool.eq_false_or_eq_true (decide ((↑i : Int) < (↑n : Int))) with b0 | b0
  · refine At.res 9 (decide ((↑i : Int) < (↑n : Int))) true (by kernel_rfl) b0 ?_
    refine At.to (noF_stable) (noF_fewer) 0 300 [0, 1, 5, 7, 8, 11, 12, 13] 0 ⟨pops B64 [1, 0, 1, 4, 4, 1, 1, 0, 4, 1, 0] 3, [.seq (sub B64 [1, 0, 1, 4, 4, 1, 1, 0, 4, 1, 1]), .block 1, .seq (sub B64 [1, 0, 1, 4, 4, 1, 1, 1]), .next (Sx.Next w.heap.size w Tryd.f64.ntmps (frIx (Fn.func 41) A n c) locWn (GIx timeB n ms R) (muKy n) i), .block 0, .seq (sub B64 [1, 1])], [(0, .sl A n c), (1, .fn (Fn.func 41) []), (5, .io .i64 (↑i : Int)), (7, .io .i64 (↑n : Int)), (8, .io .i64 (↑i : Int)), (11, .fn (Fn.func 41) []), (12, .sl A n c), (13, .io .i64 (↑i : Int))], []⟩ (by kernel_rfl) (by kernel_rfl) ?_
    have hi : i < n := by have := of_decide_eq_true b0; omega
    clear b0
    obtain ⟨a, rfl⟩ : ∃ a, A = some a := by
      cases A with
      | none => have := hx.2.1 rfl; subst this; simp at hl; omega
      | some a => exact ⟨a, rfl⟩
    obtain ⟨x, hz⟩ : ∃ x, ms[i]? = some x := ⟨_, List.getElem?_eq_getElem (by omega)⟩
    rw [drop_w hz] at h2
    refine At.idx a n 1 (i : Int) (by kernel_rfl) (by omega) (by omega) noF_stable ?_
    refine At.ldx (a.add ((i : Int).toNat * 1)) (.io .i64 x) (by kernel_rfl) noF_stable (fun ρ w1 hm hf => by rw [Int.toNat_natCast, Nat.mul_one]; exact (hx.below hm.below).cell hz) ?_
    refine At.to (noF_stable) (noF_fewer) 0 300 [0, 1, 5, 7, 8, 11, 15] 0 ⟨pops B64 [1, 0, 1, 4, 4, 1, 1, 0, 4, 1, 0] 5, [.seq (sub B64 [1, 0, 1, 4, 4, 1, 1, 0, 4, 1, 1]), .block 1, .seq (sub B64 [1, 0, 1, 4, 4, 1, 1, 1]), .next (Sx.Next w.heap.size w Tryd.f64.ntmps (frIx (Fn.func 41) (some a) n c) locWn (GIx timeB n ms R) (muKy n) i), .block 0, .seq (sub B64 [1, 1])], [(0, .sl (some a) n c), (1, .fn (Fn.func 41) []), (5, .io .i64 (↑i : Int)), (7, .io .i64 (↑n : Int)), (8, .io .i64 (↑i : Int)), (11, .fn (Fn.func 41) []), (15, .io .i64 x)], []⟩ (by kernel_rfl) (by kernel_rfl) ?_
    refine At.call (noF_stable) 41 [.io .i64 x] (.bo (timeB x)) (by kernel_rfl) (by kernel_rfl) (by kernel_rfl) (fun _ _ w _ _ => istime_any (x) w) ?_
    refine At.to (noF_stable) (noF_fewer) 0 300 [0, 1, 5, 7, 8, 16] 0 ⟨.code (sub B64 [1, 0, 1, 4, 4, 1, 1, 0, 4, 1, 1]), [.block 1, .seq (sub B64 [1, 0, 1, 4, 4, 1, 1, 1]), .next (Sx.Next w.heap.size w Tryd.f64.ntmps (frIx (Fn.func 41) (some a) n c) locWn (GIx timeB n ms R) (muKy n) i), .block 0, .seq (sub B64 [1, 1])], [(0, .sl (some a) n c), (1, .fn (Fn.func 41) []), (5, .io .i64 (↑i : Int)), (7, .io .i64 (↑n : Int)), (8, .io .i64 (↑i : Int)), (16, .bo (timeB x))], []⟩ (by kernel_rfl) (by kernel_rfl) ?_
    rcases Bool.eq_false_or_eq_true (timeB x) with b0 | b0
    · refine At.res 16 (timeB x) true (by kernel_rfl) b0 ?_
      refine At.to (noF_stable) (noF_fewer) 0 300 [4] 0 ⟨.exit .ret, [], [(4, .io .i64 (↑i : Int))], []⟩ (by kernel_rfl) (by kernel_rfl) ?_
      refine At.ret (by kernel_rfl) (.io .i64 (↑i : Int)) (by kernel_rfl) ?_
      simp only [idxGo, offT, b0, Bool.not_true, Bool.not_false, cond_true, cond_false] at h2
      intro ρ w9 hm _
      exact ⟨by rw [← h2]; rfl, hm.below⟩
    · refine At.res 16 (timeB x) false (by kernel_rfl) b0 ?_
      refine At.to (noF_stable) (noF_fewer) 0 300 [0, 1, 7, 8] 0 ⟨.exit .normal, [.next (Sx.Next w.heap.size w Tryd.f64.ntmps (frIx (Fn.func 41) (some a) n c) locWn (GIx timeB n ms R) (muKy n) i), .block 0, .seq (sub B64 [1, 1])], [(0, .sl (some a) n c), (1, .fn (Fn.func 41) []), (7, .io .i64 (↑n : Int)), (8, .io .i64 (IntKind.i64.wrap ((↑i : Int) + 1)))], []⟩ (by kernel_rfl) (by kernel_rfl) ?_
      simp only [idxGo, offT, b0, Bool.not_true, Bool.not_false, cond_true, cond_false] at h2
      have hw3 : IntKind.i64.wrap ((i : Int) + 1) = ((i + 1 : Nat) : Int) := by
        rw [wrap63 (by omega) (by omega)]
        omega
      rw [hw3]
      refine At.next (σ := Nat) (i + 1) rfl rfl (by unfold subFr; kernel_rfl) (by kernel_rfl) ?_ ?_
      · intro ρ a' w' hi' hf
        exact ⟨hf, by omega, h2⟩
      · unfold muKy
        omega
  · refine At.res 9 (decide ((↑i : Int) < (↑n : Int))) false (by kernel_rfl) b0 ?_
    refine At.to (noF_stable) (noF_fewer) 0 300 [4] 0 ⟨.exit .ret, [], [(4, .v (.int .i64 (-1)))], []⟩ (by kernel_rfl) (by kernel_rfl) ?_
    refine At.ret (by kernel_rfl) (.v (.int .i64 (-1))) (by kernel_rfl) ?_
    have hi : ¬ (i : Int) < n := of_decide_eq_false b0
    have hd : ms.drop i = [] := List.drop_eq_nil_of_le (by omega)
    rw [hd] at h2
    intro ρ w9 hm _
    exact ⟨by rw [← h2]; rfl, hm.below⟩

noncomputable def B49 : Code := (Tryd.f49.body).getD .skip
set_option maxHeartbeats 4000000 in
set_option maxRecDepth 100000 in
theorem contains_time (A : Option Addr) (n c : Nat) (ms : List Int) (hn : n ≤ 140737488355320) (w : World) (hx : SlI w A n ms) :
    Calls Tryd.prog 49 #[.slice A n c, .func (.func 41) #[] #[]] w fun e w' => e = .returned (.bool (ms.any timeB)) ∧ Below w.heap.size w w' := by
  have hany : decide (idxGo timeB 0 ms ≥ 0) = ms.any timeB := idx_any timeB ms 0
  refine enter (fn := Tryd.f49) (c := B49) [.sl A n c, .fn (.func 41) []] Tryd.func49 rfl rfl ?_
  refine At.to (noF_stable) (noF_fewer) 0 300 [5, 6] 0 ⟨pops B49 [1, 0] 2, [.seq (sub B49 [1, 1])], [(5, .sl A n c), (6, .fn (Fn.func 41) [])], []⟩ (by kernel_rfl) (by kernel_rfl) ?_
  refine At.call noF_stable 64 [.sl A n c, .fn (Fn.func 41) []] (.io .i64 (idxGo timeB 0 ms)) (by kernel_rfl) (by kernel_rfl) (by kernel_rfl) (fun ρ _ w1 hi _ => index_time A n c ms hn w1 (hx.below hi.mem.below)) ?_
  refine At.to (noF_stable) (noF_fewer) 0 300 [4] 0 ⟨.exit .ret, [], [(4, .bo (decide (idxGo timeB 0 ms ≥ 0)))], []⟩ (by kernel_rfl) (by kernel_rfl) ?_
  refine At.ret (by kernel_rfl) (.bo (decide (idxGo timeB 0 ms ≥ 0))) (by kernel_rfl) ?_
  intro ρ w9 hm _
  exact ⟨by rw [← hany]; rfl, hm.below⟩

set_option maxHeartbeats 4000000 in
set_option maxRecDepth 100000 in
theorem index_off (A : Option Addr) (n c : Nat) (ms : List Int) (hn : n ≤ 140737488355320) (w : World) (hx : SlI w A n ms) :
    Calls Tryd.prog 64 #[.slice A n c, .func (.func 50) #[] #[]] w fun e w' => e = .returned (.int .i64 (idxGo offT 0 ms)) ∧ Below w.heap.size w w' := by
  refine enter (fn := Tryd.f64) (c := B64) [.sl A n c, .fn (.func 50) []] Tryd.func64 rfl rfl ?_
  refine At.to (noF_stable) (noF_fewer) 0 300 [0, 1, 7, 8] 0 ⟨.code (sub B64 [1, 0, 1, 4]), [.block 0, .seq (sub B64 [1, 1])], [(0, .sl A n c), (1, .fn (Fn.func 50) []), (7, .io .i64 (↑n : Int)), (8, .v (.int .i64 0))], []⟩ (by kernel_rfl) (by kernel_rfl) ?_
  generalize hR : idxGo offT 0 ms = R
  refine At.canon _ rfl ?_
  refine At.loop (σ := Nat) (sub B64 [1, 0, 1, 4, 4]) (frIx (.func 50) A n c) locWn (GIx offT n ms R) (muKy n) 0 (by kernel_rfl) (by unfold subFr; kernel_rfl) (by kernel_rfl) (fun _ _ _ _ h => ⟨h, Nat.zero_le _, hR⟩) ?_
  clear hR
  intro i
  refine At.pure fun ⟨h1, h2⟩ => ?_
  have hl := hx.1
  refine At.to (noF_stable) (noF_fewer) 0 300 [0, 1, 7, 8, 9] 0 ⟨.code (sub B64 [1, 0, 1, 4, 4, 1, 0]), [.seq (sub B64 [1, 0, 1, 4, 4, 1, 1]), .next (Sx.Next w.heap.size w Tryd.f64.ntmps (frIx (Fn.func 50) A n c) locWn (GIx offT n ms R) (muKy n) i), .block 0, .seq (sub B64 [1, 1])], [(0, .sl A n c), (1, .fn (Fn.func 50) []), (7, .io .i64 (↑n : Int)), (8, .io .i64 (↑i : Int)), (9, .bo (decide ((↑i : Int) < (↑n : Int))))], []⟩ (by kernel_rfl) (by kernel_rfl) ?_
  rcases Bool.eq_false_or_eq_true (decide ((↑i : Int) < (↑n : Int))) with b0 | b0
  · refine At.res 9 (decide ((↑i : Int) < (↑n : Int))) true (by kernel_rfl) b0 ?_
    refine At.to (noF_stable) (noF_fewer) 0 300 [0, 1, 5, 7, 8, 11, 12, 13] 0 ⟨pops B64 [1, 0, 1, 4, 4, 1, 1, 0, 4, 1, 0] 3, [.seq (sub B64 [1, 0, 1, 4, 4, 1, 1, 0, 4, 1, 1]), .block 1, .seq (sub B64 [1, 0, 1, 4, 4, 1, 1, 1]), .next (Sx.Next w.heap.size w Tryd.f64.ntmps (frIx (Fn.func 50) A n c) locWn (GIx offT n ms R) (muKy n) i), .block 0, .seq (sub B64 [1, 1])], [(0, .sl A n c), (1, .fn (Fn.func 50) []), (5, .io .i64 (↑i : Int)), (7, .io .i64 (↑n : Int)), (8, .io .i64 (↑i : Int)), (11, .fn (Fn.func 50) []), (12, .sl A n c), (13, .io .i64 (↑i : Int))], []⟩ (by kernel_rfl) (by kernel_rfl) ?_
    have hi : i < n := by have := of_decide_eq_true b0; omega
    clear b0
    obtain ⟨a, rfl⟩ : ∃ a, A = some a := by
      cases A with
      | none => have := hx.2.1 rfl; subst this; simp at hl; omega
      | some a => exact ⟨a, rfl⟩
    obtain ⟨x, hz⟩ : ∃ x, ms[i]? = some x := ⟨_, List.getElem?_eq_getElem (by omega)⟩
    rw [drop_w hz] at h2
    refine At.idx a n 1 (i : Int) (by kernel_rfl) (by omega) (by omega) noF_stable ?_
    refine At.ldx (a.add ((i : Int).toNat * 1)) (.io .i64 x) (by kernel_rfl) noF_stable (fun ρ w1 hm hf => by rw [Int.toNat_natCast, Nat.mul_one]; exact (hx.below hm.below).cell hz) ?_
    refine At.to (noF_stable) (noF_fewer) 0 300 [0, 1, 5, 7, 8, 11, 15] 0 ⟨pops B64 [1, 0, 1, 4, 4, 1, 1, 0, 4, 1, 0] 5, [.seq (sub B64 [1, 0, 1, 4, 4, 1, 1, 0, 4, 1, 1]), .block 1, .seq (sub B64 [1, 0, 1, 4, 4, 1, 1, 1]), .next (Sx.Next w.heap.size w Tryd.f64.ntmps (frIx (Fn.func 50) (some a) n c) locWn (GIx offT n ms R) (muKy n) i), .block 0, .seq (sub B64 [1, 1])], [(0, .sl (some a) n c), (1, .fn (Fn.func 50) []), (5, .io .i64 (↑i : Int)), (7, .io .i64 (↑n : Int)), (8, .io .i64 (↑i : Int)), (11, .fn (Fn.func 50) []), (15, .io .i64 x)], []⟩ (by kernel_rfl) (by kernel_rfl) ?_
    refine At.call (noF_stable) 50 [.io .i64 x] (.bo !timeB x) (by kernel_rfl) (by kernel_rfl) (by kernel_rfl) (fun _ _ w _ _ => off_any (x) w) ?_
    refine At.to (noF_stable) (noF_fewer) 0 300 [0, 1, 5, 7, 8, 16] 0 ⟨.code (sub B64 [1, 0, 1, 4, 4, 1, 1, 0, 4, 1, 1]), [.block 1, .seq (sub B64 [1, 0, 1, 4, 4, 1, 1, 1]), .next (Sx.Next w.heap.size w Tryd.f64.ntmps (frIx (Fn.func 50) (some a) n c) locWn (GIx offT n ms R) (muKy n) i), .block 0, .seq (sub B64 [1, 1])], [(0, .sl (some a) n c), (1, .fn (Fn.func 50) []), (5, .io .i64 (↑i : Int)), (7, .io .i64 (↑n : Int)), (8, .io .i64 (↑i : Int)), (16, .bo !timeB x)], []⟩ (by kernel_rfl) (by kernel_rfl) ?_
    rcases Bool.eq_false_or_eq_true (!timeB x) with b0 | b0
    · refine At.res 16 (!timeB x) true (by kernel_rfl) b0 ?_
      refine At.to (noF_stable) (noF_fewer) 0 300 [4] 0 ⟨.exit .ret, [], [(4, .io .i64 (↑i : Int))], []⟩ (by kernel_rfl) (by kernel_rfl) ?_
      refine At.ret (by kernel_rfl) (.io .i64 (↑i : Int)) (by kernel_rfl) ?_
      simp only [idxGo, offT, b0, Bool.not_true, Bool.not_false, cond_true, cond_false] at h2
      intro ρ w9 hm _
      exact ⟨by rw [← h2]; rfl, hm.below⟩
    · refine At.res 16 (!timeB x) false (by kernel_rfl) b0 ?_
      refine At.to (noF_stable) (noF_fewer) 0 300 [0, 1, 7, 8] 0 ⟨.exit .normal, [.next (Sx.Next w.heap.size w Tryd.f64.ntmps (frIx (Fn.func 50) (some a) n c) locWn (GIx offT n ms R) (muKy n) i), .block 0, .seq (sub B64 [1, 1])], [(0, .sl (some a) n c), (1, .fn (Fn.func 50) []), (7, .io .i64 (↑n : Int)), (8, .io .i64 (IntKind.i64.wrap ((↑i : Int) + 1)))], []⟩ (by kernel_rfl) (by kernel_rfl) ?_
      simp only [idxGo, offT, b0, Bool.not_true, Bool.not_false, cond_true, cond_false] at h2
      have hw3 : IntKind.i64.wrap ((i : Int) + 1) = ((i + 1 : Nat) : Int) := by
        rw [wrap63 (by omega) (by omega)]
        omega
      rw [hw3]
      refine At.next (σ := Nat) (i + 1) rfl rfl (by unfold subFr; kernel_rfl) (by kernel_rfl) ?_ ?_
      · intro ρ a' w' hi' hf
        exact ⟨hf, by omega, h2⟩
      · unfold muKy
        omega
  · refine At.res 9 (decide ((↑i : Int) < (↑n : Int))) false (by kernel_rfl) b0 ?_
    refine At.to (noF_stable) (noF_fewer) 0 300 [4] 0 ⟨.exit .ret, [], [(4, .v (.int .i64 (-1)))], []⟩ (by kernel_rfl) (by kernel_rfl) ?_
    refine At.ret (by kernel_rfl) (.v (.int .i64 (-1))) (by kernel_rfl) ?_
    have hi : ¬ (i : Int) < n := of_decide_eq_false b0
    have hd : ms.drop i = [] := List.drop_eq_nil_of_le (by omega)
    rw [hd] at h2
    intro ρ w9 hm _
    exact ⟨by rw [← h2]; rfl, hm.below⟩

set_option maxHeartbeats 4000000 in
set_option maxRecDepth 100000 in
theorem contains_off (A : Option Addr) (n c : Nat) (ms : List Int) (hn : n ≤ 140737488355320) (w : World) (hx : SlI w A n ms) :
    Calls Tryd.prog 49 #[.slice A n c, .func (.func 50) #[] #[]] w fun e w' => e = .returned (.bool (ms.any offT)) ∧ Below w.heap.size w w' := by
  have hany : decide (idxGo offT 0 ms ≥ 0) = ms.any offT := idx_any offT ms 0
  refine enter (fn := Tryd.f49) (c := B49) [.sl A n c, .fn (.func 50) []] Tryd.func49 rfl rfl ?_
  refine At.to (noF_stable) (noF_fewer) 0 300 [5, 6] 0 ⟨pops B49 [1, 0] 2, [.seq (sub B49 [1, 1])], [(5, .sl A n c), (6, .fn (Fn.func 50) [])], []⟩ (by kernel_rfl) (by kernel_rfl) ?_
  refine At.call noF_stable 64 [.sl A n c, .fn (Fn.func 50) []] (.io .i64 (idxGo offT 0 ms)) (by kernel_rfl) (by kernel_rfl) (by kernel_rfl) (fun ρ _ w1 hi _ => index_off A n c ms hn w1 (hx.below hi.mem.below)) ?_
  refine At.to (noF_stable) (noF_fewer) 0 300 [4] 0 ⟨.exit .ret, [], [(4, .bo (decide (idxGo offT 0 ms ≥ 0)))], []⟩ (by kernel_rfl) (by kernel_rfl) ?_
  refine At.ret (by kernel_rfl) (.bo (decide (idxGo offT 0 ms ≥ 0))) (by kernel_rfl) ?_
  intro ρ w9 hm _
  exact ⟨by rw [← hany]; rfl, hm.below⟩

end Go.Proofs.YtiehnigbcfkcdaaDoor
