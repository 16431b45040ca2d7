import Derived.Test.YtiehnigbcfkcdaaGreatDoorW
import Derived.Test.YtiehnigbcfkcdaaGreatDoorSxN
set_option linter.unusedSimpArgs false
set_option linter.unusedVariables false
namespace Go.Proofs.YtiehnigbcfkcdaaGreatDoor
open Go.RowKit Go.Sx
noncomputable def B51 : Code := (Tryz.f51.body).getD .skip
set_option maxHeartbeats 4000000 in
set_option maxRecDepth 100000 in
theorem number1_any (base : Nat) (A : Option Addr) (n c : Nat) (xs : List Value) (x : Int) (hx : 0 ≤ x) (q : Nat) (w : World) (hb : base ≤ w.heap.size) (hr : w.ownsRow base 5 1 (.slice A n c) n xs) (hn : n + (leb x.toNat).length ≤ 140737488355328) (hq : w.heap[q]? = some (.cells #[.int .u64 x] 69)) (hbq : base ≤ q) (hne : (Value.slice A n c).ownBlock ≠ some q) :
    Calls Tryz.prog 51 #[.slice A n c, .pointer (some ⟨q, 0, none⟩)] w fun e w' => ∃ A' n' c', e = .returned (.slice A' n' c') ∧ WInv base w [q] [([.io .u64 x], 69)] w' ∧ RowF w (fun k => some k = (Value.slice A n c).ownBlock ∨ k ∈ [q]) [q] base 5 1 A' n' c' (xs ++ bv (leb x.toNat)) [q] w' := by
  refine enterG (N := base) (F := RowF w (fun k => some k = (Value.slice A n c).ownBlock ∨ k ∈ [q]) [q] base 5 1 A n c xs) (fn := Tryz.f51) (c := B51) [.sl A n c, .lp 0 0] [q] [([.io .u64 x], 69)] Tryz.func51 rfl rfl (WInv.start1 hbq hq) ⟨⟨⟨hr, fun g hg hm => by simp at hm; exact hne (hm ▸ hg)⟩, hb⟩, FrameR.start _ [q] (by simp), fun g h => .inl (.inl h.symm)⟩ ?_
  refine At.toJ (RowF.stable) RowF.fewer 0 100 [4, 5] 1 ⟨pops B51 [1, 0] 2, [.seq (sub B51 [1, 1])], [(4, .sl A n c), (5, .io IntKind.u64 x)], [([.io IntKind.u64 x], 69)]⟩ (by kernel_rfl) (by kernel_rfl) ?_
  refine At.rowcall 52 [.sl A n c, .io .u64 x] (xs ++ bv (leb x.toNat)) (by kernel_rfl) (by kernel_rfl) (by kernel_rfl) (by kernel_rfl) (by kernel_rfl) (Nat.le_refl _) (fun ρ w1 _ hf => number_any base A n c xs x hx w1 hf.1.2 hf.1.1.1 hn) ?_
  intro A1 n1 c1
  refine At.toJ (RowF.stable) RowF.fewer 0 100 [3] 1 ⟨.exit .ret, [], [(3, .sl A1 n1 c1)], [([.io IntKind.u64 x], 69)]⟩ (by kernel_rfl) (by kernel_rfl) ?_
  refine At.ret (by kernel_rfl) (.sl A1 n1 c1) (by kernel_rfl) ?_
  intro ρ w9 hm hf
  obtain rfl := hf.here hm rfl
  exact ⟨_, _, _, rfl, hm, hf⟩

noncomputable def B50 : Code := (Tryz.f50.body).getD .skip
set_option maxHeartbeats 4000000 in
set_option maxRecDepth 100000 in
theorem put_any (base : Nat) (A : Option Addr) (n c : Nat) (xs : List Value) (x : Int) (hx : 0 ≤ x) (p q : Nat) (w : World) (hb : base ≤ w.heap.size) (hr : w.ownsRow base 5 1 (.slice A n c) n xs) (hn : n + (leb x.toNat).length ≤ 140737488355328) (hp : w.heap[p]? = some (.cells #[.slice A n c] 88)) (hbp : base ≤ p) (hq : w.heap[q]? = some (.cells #[.int .u64 x] 69)) (hbq : base ≤ q) (hpq : p ≠ q) (hnp : (Value.slice A n c).ownBlock ≠ some p) (hnq : (Value.slice A n c).ownBlock ≠ some q) :
    Calls Tryz.prog 50 #[.pointer (some ⟨p, 0, none⟩), .func (.func 51) #[] #[.pointer (some ⟨q, 0, none⟩)]] w fun e w' => ∃ A' n' c', e = .returned (.int .i64 0) ∧ WInv base w [p, q] [([.sl A' n' c'], 88), ([.io .u64 x], 69)] w' ∧ RowF w (fun k => some k = (Value.slice A n c).ownBlock ∨ k ∈ [p, q]) [p, q] base 5 1 A' n' c' (xs ++ bv (leb x.toNat)) [p, q] w' := by
  refine enterG (N := base) (F := RowF w (fun k => some k = (Value.slice A n c).ownBlock ∨ k ∈ [p, q]) [p, q] base 5 1 A n c xs) (fn := Tryz.f50) (c := B50) [.lp 0 0, .fn (.func 51) [.lp 1 0]] [p, q] [([.sl A n c], 88), ([.io .u64 x], 69)] Tryz.func50 rfl rfl (WInv.start2 hpq hbp hbq hp hq) ⟨⟨⟨hr, fun g hg hm => by simp at hm; exact hm.elim (fun e => hnp (e ▸ hg)) (fun e => hnq (e ▸ hg))⟩, hb⟩, FrameR.start _ [p, q] (by simp), fun g h => .inl (.inl h.symm)⟩ ?_
  refine At.toJ (RowF.stable) RowF.fewer 0 100 [7, 8, 12] 2 ⟨pops B50 [1, 1, 0] 6, [.seq (sub B50 [1, 1, 1])], [(7, .lp 0 0), (8, .fn (Fn.func 51) [.lp 1 0]), (12, .sl A n c)], [([.sl A n c], 88), ([.io IntKind.u64 x], 69)]⟩ (by kernel_rfl) (by kernel_rfl) ?_
  refine At.adcall 51 [.sl A n c, .lp 1 0] [1] (xs ++ bv (leb x.toNat)) (fun A n c => .sl A n c) (fun _ _ _ => [([.io .u64 x], 69)]) (by kernel_rfl) (by kernel_rfl) (by kernel_rfl) (by kernel_rfl) (by kernel_rfl) (Nat.le_refl _) (by kernel_rfl) (fun _ _ _ => ⟨rfl, rfl⟩) (fun ρ w1 hm hf => number1_any base A n c xs x hx (nth ρ 1) w1 hf.1.2 hf.1.1.1 hn (hm.cells 1 _ _ rfl) (hm.ge _ (nth_mem (by rw [hm.len]; simp))).1 (fun h => hf.1.1.2 _ h (nth_mem (by rw [hm.len]; simp)))) ?_
  intro A1 n1 c1
  refine At.toJ (RowF.stable) RowF.fewer 0 100 [4] 2 ⟨.exit .ret, [], [(4, .v (.int .i64 0))], [([.sl A1 n1 c1], 88), ([.io IntKind.u64 x], 69)]⟩ (by kernel_rfl) (by kernel_rfl) ?_
  refine At.ret (by kernel_rfl) (.v (.int .i64 0)) (by kernel_rfl) ?_
  intro ρ w9 hm hf
  obtain rfl := hf.here hm rfl
  exact ⟨_, _, _, rfl, hm, hf⟩

noncomputable def B32 : Code := (Tryz.f32.body).getD .skip
set_option maxHeartbeats 4000000 in
set_option maxRecDepth 100000 in
theorem wnum_any (base : Nat) (A : Option Addr) (n c : Nat) (xs : List Value) (x : Int) (hx : 0 ≤ x) (p : Nat) (w : World) (hb : base ≤ w.heap.size) (hr : w.ownsRow base 5 1 (.slice A n c) n xs) (hn : n + (leb x.toNat).length ≤ 140737488355328) (hp : w.heap[p]? = some (.cells #[.slice A n c] 88)) (hbp : base ≤ p) (hnp : (Value.slice A n c).ownBlock ≠ some p) :
    Calls Tryz.prog 32 #[.pointer (some ⟨p, 0, none⟩), .int .u64 x] w fun e w' => ∃ A' n' c', e = .returned (.int .i64 0) ∧ WInv base w [p] [([.sl A' n' c'], 88)] w' ∧ RowF w (fun k => some k = (Value.slice A n c).ownBlock ∨ k ∈ [p]) [p] base 5 1 A' n' c' (xs ++ bv (leb x.toNat)) [p] w' := by
  refine enterG (N := base) (F := RowF w (fun k => some k = (Value.slice A n c).ownBlock ∨ k ∈ [p]) [p] base 5 1 A n c xs) (fn := Tryz.f32) (c := B32) [.lp 0 0, .io .u64 x] [p] [([.sl A n c], 88)] Tryz.func32 rfl rfl (WInv.start1 hbp hp) ⟨⟨⟨hr, fun g hg hm => by simp at hm; exact hnp (hm ▸ hg)⟩, hb⟩, FrameR.start _ [p] (by simp), fun g h => .inl (.inl h.symm)⟩ ?_
  refine At.toJ (RowF.stable) RowF.fewer 0 100 [5, 6] 2 ⟨pops B32 [1, 0] 2, [.seq (sub B32 [1, 1])], [(5, .lp 0 0), (6, .fn (Fn.func 51) [.lp 1 0])], [([.sl A n c], 88), ([.io IntKind.u64 x], 69)]⟩ (by kernel_rfl) (by kernel_rfl) ?_
  refine At.adcall 50 [.lp 0 0, .fn (.func 51) [.lp 1 0]] [0, 1] (xs ++ bv (leb x.toNat)) (fun A n c => .v (.int .i64 0)) (fun A n c => [([.sl A n c], 88), ([.io .u64 x], 69)]) (by kernel_rfl) (by kernel_rfl) (by kernel_rfl) (by kernel_rfl) (by kernel_rfl) (Nat.le_refl _) (by kernel_rfl) (fun _ _ _ => ⟨rfl, rfl⟩) (fun ρ w1 hm hf => put_any base A n c xs x hx (nth ρ 0) (nth ρ 1) w1 hf.1.2 hf.1.1.1 hn (hm.cells 0 _ _ rfl) (hm.ge _ (nth_mem (by rw [hm.len]; simp))).1 (hm.cells 1 _ _ rfl) (hm.ge _ (nth_mem (by rw [hm.len]; simp))).1 (fun h => by have := nth_inj hm.nodup (by rw [hm.len]; simp) (by rw [hm.len]; simp) h; omega) (fun h => hf.1.1.2 _ h (nth_mem (by rw [hm.len]; simp))) (fun h => hf.1.1.2 _ h (nth_mem (by rw [hm.len]; simp)))) ?_
  intro A1 n1 c1
  refine At.toJ (RowF.stable) RowF.fewer 0 100 [4] 1 ⟨.exit .ret, [], [(4, .v (.int .i64 0))], [([.sl A1 n1 c1], 88)]⟩ (by kernel_rfl) (by kernel_rfl) ?_
  refine At.ret (by kernel_rfl) (.v (.int .i64 0)) (by kernel_rfl) ?_
  intro ρ w9 hm hf
  obtain rfl := hf.here hm rfl
  exact ⟨_, _, _, rfl, hm, hf⟩

end Go.Proofs.YtiehnigbcfkcdaaGreatDoor
