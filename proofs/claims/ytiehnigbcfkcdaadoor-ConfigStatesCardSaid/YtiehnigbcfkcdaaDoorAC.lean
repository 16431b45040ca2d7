import Derived.Test.YtiehnigbcfkcdaaDoorAB
import Derived.Test.YtiehnigbcfkcdaaDoorZ
set_option linter.unusedSimpArgs false
set_option linter.unusedVariables false
namespace Go.Proofs.YtiehnigbcfkcdaaDoor
open Go.RowKit Go.Sx

def frWn (A B : Option Addr) (n c k : Nat) (i : Nat) : Fr := [(0, .sl A n c), (1, .sl B n k), (5, .io .i64 (i : Int))]
def locWn (_ : Nat) : Go.Sx.Loc := []
def GWn (n : Nat) (i : Nat) (ρ : List Nat) (w : World) : Prop := noF ρ w ∧ i ≤ n

noncomputable def B63 : Code := (Tryd.f63.body).getD .skip
set_option maxHeartbeats 4000000 in
set_option maxRecDepth 100000 in
theorem wins_same (A B : Option Addr) (n c k : Nat) (ws : List Wn) (hn : n ≤ 140737488355320) (w : World) (hx : SlW w A n ws) (hy : SlW w B n ws) :
    Calls Tryd.prog 63 #[.slice A n c, .slice B n k] w fun e w' => e = .returned (.bool true) ∧ Below w.heap.size w w' := by
  have hnn : ((n : Int) != (n : Int)) = false := by simp
  refine enter (fn := Tryd.f63) (c := B63) [.sl A n c, .sl B n k] Tryd.func63 rfl rfl ?_
  refine At.to (noF_stable) (noF_fewer) 0 300 [0, 1, 10] 0 ⟨.code (sub B63 [1, 0, 1]), [.seq (sub B63 [1, 1])], [(0, .sl A n c), (1, .sl B n k), (10, .bo ((↑n : Int) != (↑n : Int)))], []⟩ (by kernel_rfl) (by kernel_rfl) ?_
  refine At.res 10 ((↑n : Int) != (↑n : Int)) false (by kernel_rfl) hnn ?_
  refine At.to (noF_stable) (noF_fewer) 0 300 [0, 1, 5] 0 ⟨.code (sub B63 [1, 1, 0, 1, 4]), [.block 0, .seq (sub B63 [1, 1, 1])], [(0, .sl A n c), (1, .sl B n k), (5, .v (.int .i64 0))], []⟩ (by kernel_rfl) (by kernel_rfl) ?_
  refine At.canon _ rfl ?_
  refine At.loop (σ := Nat) (sub B63 [1, 1, 0, 1, 4, 4]) (frWn A B n c k) locWn (GWn n) (muKy n) 0 (by kernel_rfl) (by unfold subFr; kernel_rfl) (by kernel_rfl) (fun _ _ _ _ h => ⟨h, Nat.zero_le _⟩) ?_
  intro i
  refine At.pure fun h1 => ?_
  have hl := hx.1
  refine At.to (noF_stable) (noF_fewer) 0 300 [0, 1, 5, 14] 0 ⟨.code (sub B63 [1, 1, 0, 1, 4, 4, 0, 1]), [.seq (sub B63 [1, 1, 0, 1, 4, 4, 1]), .next (Sx.Next w.heap.size w Tryd.f63.ntmps (frWn A B n c k) locWn (GWn n) (muKy n) i), .block 0, .seq (sub B63 [1, 1, 1])], [(0, .sl A n c), (1, .sl B n k), (5, .io .i64 (↑i : Int)), (14, .bo (decide ((↑i : Int) < (↑n : Int))))], []⟩ (by kernel_rfl) (by kernel_rfl) ?_
  rcases Bool.eq_false_or_eq_true (decide ((↑i : Int) < (↑n : Int))) with b0 | b0
  · refine At.res 14 (decide ((↑i : Int) < (↑n : Int))) true (by kernel_rfl) b0 ?_
    refine At.to (noF_stable) (noF_fewer) 0 300 [0, 1, 5, 17, 18] 0 ⟨pqops B63 [1, 1, 0, 1, 4, 4, 1, 0, 4, 0] 2, [.seq (sub B63 [1, 1, 0, 1, 4, 4, 1, 0, 4, 1]), .block 1, .seq (sub B63 [1, 1, 0, 1, 4, 4, 1, 1]), .next (Sx.Next w.heap.size w Tryd.f63.ntmps (frWn A B n c k) locWn (GWn n) (muKy n) i), .block 0, .seq (sub B63 [1, 1, 1])], [(0, .sl A n c), (1, .sl B n k), (5, .io .i64 (↑i : Int)), (17, .sl A n c), (18, .io .i64 (↑i : Int))], []⟩ (by kernel_rfl) (by kernel_rfl) ?_
    have hi : i < n := by have := of_decide_eq_true b0; omega
    clear b0
    obtain ⟨a, rfl⟩ : ∃ a, A = some a := by
      cases A with
      | none => have := hx.2.1 rfl; subst this; simp at hl; omega
      | some a => exact ⟨a, rfl⟩
    obtain ⟨b, rfl⟩ : ∃ b, B = some b := by
      cases B with
      | none => have := hy.2.1 rfl; subst this; simp at hl; omega
      | some b => exact ⟨b, rfl⟩
    obtain ⟨⟨st, en, ho, co, su, mi, ma, si, pa⟩, hz⟩ : ∃ x, ws[i]? = some x := ⟨_, List.getElem?_eq_getElem (by omega)⟩
    refine At.idx a n 9 (i : Int) (by kernel_rfl) (by omega) (by omega) noF_stable ?_
    refine At.lda (a.add ((i : Int).toNat * 9)) 9 (wL ⟨st, en, ho, co, su, mi, ma, si, pa⟩) (by kernel_rfl) rfl noF_stable (fun ρ w1 hm hf => by rw [Int.toNat_natCast]; exact (hx.below hm.below).cell hz) ?_
    refine At.to (noF_stable) (noF_fewer) 0 300 [0, 1, 5, 20, 21, 22] 0 ⟨pqops B63 [1, 1, 0, 1, 4, 4, 1, 0, 4, 0] 6, [.seq (sub B63 [1, 1, 0, 1, 4, 4, 1, 0, 4, 1]), .block 1, .seq (sub B63 [1, 1, 0, 1, 4, 4, 1, 1]), .next (Sx.Next w.heap.size w Tryd.f63.ntmps (frWn (some a) (some b) n c k) locWn (GWn n) (muKy n) i), .block 0, .seq (sub B63 [1, 1, 1])], [(0, .sl (some a) n c), (1, .sl (some b) n k), (5, .io .i64 (↑i : Int)), (20, .agg [.io .i64 st, .io .i64 en, .io .i64 ho, .io .i64 co, .io .i64 su, .io .i64 mi, .io .i64 ma, .io .i64 si, .io .i64 pa]), (21, .sl (some b) n k), (22, .io .i64 (↑i : Int))], []⟩ (by kernel_rfl) (by kernel_rfl) ?_
    refine At.idx b n 9 (i : Int) (by kernel_rfl) (by omega) (by omega) noF_stable ?_
    refine At.lda (b.add ((i : Int).toNat * 9)) 9 (wL ⟨st, en, ho, co, su, mi, ma, si, pa⟩) (by kernel_rfl) rfl noF_stable (fun ρ w1 hm hf => by rw [Int.toNat_natCast]; exact (hy.below hm.below).cell hz) ?_
    refine At.to (noF_stable) (noF_fewer) 0 300 [0, 1, 5, 25] 0 ⟨.code (sub B63 [1, 1, 0, 1, 4, 4, 1, 0, 4, 1]), [.block 1, .seq (sub B63 [1, 1, 0, 1, 4, 4, 1, 1]), .next (Sx.Next w.heap.size w Tryd.f63.ntmps (frWn (some a) (some b) n c k) locWn (GWn n) (muKy n) i), .block 0, .seq (sub B63 [1, 1, 1])], [(0, .sl (some a) n c), (1, .sl (some b) n k), (5, .io .i64 (↑i : Int)), (25, .bo !(st == (Wn.mk st en ho co su mi ma si pa).st && (en == (Wn.mk st en ho co su mi ma si pa).en && true) && (ho == (Wn.mk st en ho co su mi ma si pa).ho && (co == (Wn.mk st en ho co su mi ma si pa).co && (su == (Wn.mk st en ho co su mi ma si pa).su && (mi == (Wn.mk st en ho co su mi ma si pa).mi && (ma == (Wn.mk st en ho co su mi ma si pa).ma && true))) && (si == (Wn.mk st en ho co su mi ma si pa).si && (pa == (Wn.mk st en ho co su mi ma si pa).pa && true))))))], []⟩ (by kernel_rfl) (by kernel_rfl) ?_
    refine At.res 25 (!(st == (Wn.mk st en ho co su mi ma si pa).st && (en == (Wn.mk st en ho co su mi ma si pa).en && true) && (ho == (Wn.mk st en ho co su mi ma si pa).ho && (co == (Wn.mk st en ho co su mi ma si pa).co && (su == (Wn.mk st en ho co su mi ma si pa).su && (mi == (Wn.mk st en ho co su mi ma si pa).mi && (ma == (Wn.mk st en ho co su mi ma si pa).ma && true))) && (si == (Wn.mk st en ho co su mi ma si pa).si && (pa == (Wn.mk st en ho co su mi ma si pa).pa && true)))))) false (by kernel_rfl) (by first | assumption | (simp only [*]; done) | (simp [*]; done)) ?_
    refine At.to (noF_stable) (noF_fewer) 0 300 [0, 1, 5] 0 ⟨.exit .normal, [.next (Sx.Next w.heap.size w Tryd.f63.ntmps (frWn (some a) (some b) n c k) locWn (GWn n) (muKy n) i), .block 0, .seq (sub B63 [1, 1, 1])], [(0, .sl (some a) n c), (1, .sl (some b) n k), (5, .io .i64 (IntKind.i64.wrap ((↑i : Int) + 1)))], []⟩ (by kernel_rfl) (by kernel_rfl) ?_
    have hw3 : IntKind.i64.wrap ((i : Int) + 1) = ((i + 1 : Nat) : Int) := by
      rw [wrap63 (by omega) (by omega)]
      omega
    rw [hw3]
    refine At.next (σ := Nat) (i + 1) rfl rfl (by unfold subFr; kernel_rfl) (by kernel_rfl) ?_ ?_
    · intro ρ a' w' hi' hf
      exact ⟨hf, by omega⟩
    · unfold muKy
      omega
  · refine At.res 14 (decide ((↑i : Int) < (↑n : Int))) false (by kernel_rfl) b0 ?_
    refine At.to (noF_stable) (noF_fewer) 0 300 [4] 0 ⟨.exit .ret, [], [(4, .v (.bool true))], []⟩ (by kernel_rfl) (by kernel_rfl) ?_
    refine At.ret (by kernel_rfl) (.v (.bool true)) (by kernel_rfl) ?_
    intro ρ w9 hm _
    exact ⟨rfl, hm.below⟩

noncomputable def B47 : Code := (Tryd.f47.body).getD .skip
set_option maxHeartbeats 4000000 in
set_option maxRecDepth 100000 in
theorem kkey_same (key : ByteArray) (dr : Int) (A B : Option Addr) (n c k : Nat) (ws : List Wn) (hn : n ≤ 140737488355320) (w : World) (hx : SlW w A n ws) (hy : SlW w B n ws) :
    Calls Tryd.prog 47 #[.agg #[.string key, .int .i64 dr, .slice A n c], .agg #[.string key, .int .i64 dr, .slice B n k]] w fun e w' => e = .returned (.bool true) ∧ Below w.heap.size w w' := by
  refine enter (fn := Tryd.f47) (c := B47) [.agg [.so key, .io .i64 dr, .sl A n c], .agg [.so key, .io .i64 dr, .sl B n k]] Tryd.func47 rfl rfl ?_
  refine At.to (noF_stable) (noF_fewer) 0 300 [2, 3, 10] 2 ⟨pops B47 [1, 0] 6, [.seq (sub B47 [1, 1])], [(2, .lp 0 0), (3, .lp 1 0), (10, .bo (key.toList == key.toList))], [([.so key, .io .i64 dr, .sl A n c], 50), ([.so key, .io .i64 dr, .sl B n k], 50)]⟩ (by kernel_rfl) (by kernel_rfl) ?_
  refine At.res 10 (key.toList == key.toList) true (by kernel_rfl) (by first | assumption | (simp only [*]; done) | (simp [*]; done)) ?_
  refine At.to (noF_stable) (noF_fewer) 0 300 [2, 3, 17] 2 ⟨pops B47 [1, 0] 13, [.seq (sub B47 [1, 1])], [(2, .lp 0 0), (3, .lp 1 0), (17, .bo (dr == dr))], [([.so key, .io .i64 dr, .sl A n c], 50), ([.so key, .io .i64 dr, .sl B n k], 50)]⟩ (by kernel_rfl) (by kernel_rfl) ?_
  refine At.res 17 (dr == dr) true (by kernel_rfl) (by first | assumption | (simp only [*]; done) | (simp [*]; done)) ?_
  refine At.to (noF_stable) (noF_fewer) 0 300 [17, 19, 21] 0 ⟨pops B47 [1, 0] 17, [.seq (sub B47 [1, 1])], [(17, .v (.bool true)), (19, .sl A n c), (21, .sl B n k)], []⟩ (by kernel_rfl) (by kernel_rfl) ?_
  refine At.call noF_stable 63 [.sl A n c, .sl B n k] (.v (.bool true)) (by kernel_rfl) (by kernel_rfl) (by kernel_rfl) (fun _ _ w1 hi _ => wins_same A B n c k ws hn w1 (hx.below hi.mem.below) (hy.below hi.mem.below)) ?_
  refine At.to (noF_stable) (noF_fewer) 0 300 [4] 0 ⟨.exit .ret, [], [(4, .v (.bool true))], []⟩ (by kernel_rfl) (by kernel_rfl) ?_
  refine At.ret (by kernel_rfl) (.v (.bool true)) (by kernel_rfl) ?_
  intro ρ w9 hm _
  exact ⟨rfl, hm.below⟩

noncomputable def B23 : Code := (Tryd.f23.body).getD .skip
set_option maxHeartbeats 4000000 in
set_option maxRecDepth 100000 in
theorem kkept_any (key : ByteArray) (dr : Int) (a : Addr) (B : Option Addr) (n c k : Nat) (ws : List Wn) (hn : n ≤ 140737488355320) (hc : n + 3 ≤ c) (w : World) (hx : SlW w (some a) (n + 3) (ws ++ [markW 0, markW 1, markW 2])) (hy : SlW w B n ws) :
    Calls Tryd.prog 23 #[.agg #[.string key, .int .i64 dr, .slice (some a) n c], .agg #[.string key, .int .i64 dr, .slice B n k]] w fun e w' => e = .returned (.bool true) ∧ Below w.heap.size w w' := by
  have hl := hy.1
  have w3 : IntKind.i64.wrap ((n : Int) + 3) = ((n + 3 : Nat) : Int) := wrap_add (k := 3) hn (by omega)
  have w0 : IntKind.i64.wrap ((n : Int) + 0) = ((n + 0 : Nat) : Int) := wrap_add (k := 0) hn (by omega)
  have w1 : IntKind.i64.wrap ((n : Int) + 1) = ((n + 1 : Nat) : Int) := wrap_add (k := 1) hn (by omega)
  have w2 : IntKind.i64.wrap ((n : Int) + 2) = ((n + 2 : Nat) : Int) := wrap_add (k := 2) hn (by omega)
  refine enter (fn := Tryd.f23) (c := B23) [.agg [.so key, .io .i64 dr, .sl (some a) n c], .agg [.so key, .io .i64 dr, .sl B n k]] Tryd.func23 rfl rfl ?_
  refine At.to (noF_stable) (noF_fewer) 20 300 [2, 3, 7, 8] 2 ⟨pops B23 [1, 0, 0] 2, [.seq (sub B23 [1, 0, 1]), .seq (sub B23 [1, 1])], [(2, .lp 0 0), (3, .lp 1 0), (7, .agg [.so key, .io .i64 dr, .sl (some a) n c]), (8, .agg [.so key, .io .i64 dr, .sl B n k])], [([.so key, .io .i64 dr, .sl (some a) n c], 50), ([.so key, .io .i64 dr, .sl B n k], 50)]⟩ (by kernel_rfl) (by kernel_rfl) ?_
  refine At.call noF_stable 47 [.agg [.so key, .io .i64 dr, .sl (some a) n c], .agg [.so key, .io .i64 dr, .sl B n k]] (.v (.bool true)) (by kernel_rfl) (by kernel_rfl) (by kernel_rfl) (fun _ _ w1 hi _ => kkey_same key dr (some a) B n c k ws hn w1 ((hx.head hl).below hi.mem.below) (hy.below hi.mem.below)) ?_
  refine At.to (noF_stable) (noF_fewer) 20 300 [3, 12, 16] 2 ⟨pops B23 [1, 1, 0] 6, [.seq (sub B23 [1, 1, 1])], [(3, .lp 1 0), (12, .sl (some a) n c), (16, .io .i64 (IntKind.i64.wrap ((↑n : Int) + 3)))], [([.so key, .io .i64 dr, .sl (some a) n c], 50), ([.so key, .io .i64 dr, .sl B n k], 50)]⟩ (by kernel_rfl) (by kernel_rfl) ?_
  rw [w3]
  refine At.slx (some a) n c none ((n + 3 : Nat) : Int) 9 (.sl (some a) (n + 3) c) (by kernel_rfl) noF_stable (by simp) (by simp only [Option.getD_none]; omega) (fun ρ w1 hm hf => ⟨by omega, ?_⟩) ?_
  · simp only [SV.den, Option.getD_none, Int.toNat_zero, Nat.zero_mul, Nat.sub_zero, Int.toNat_natCast]
    rw [if_neg (by omega)]
    simp [Addr.add]
  refine At.to (noF_stable) (noF_fewer) 20 300 [3, 5, 6, 22, 27] 2 ⟨pqops B23 [1, 1, 1, 0, 1, 4, 4, 1, 0, 4, 0] 6, [.seq (sub B23 [1, 1, 1, 0, 1, 4, 4, 1, 0, 4, 1]), .block 1, .seq (sub B23 [1, 1, 1, 0, 1, 4, 4, 1, 1]), .rounds (sub B23 [1, 1, 1, 0, 1, 4, 4]) 19, .block 0, .seq (sub B23 [1, 1, 1, 1])], [(3, .lp 1 0), (5, .sl (some a) (n + 3) c), (6, .v (.int .i64 0)), (22, .sl (some a) (n + 3) c), (27, .io .i64 (IntKind.i64.wrap ((↑n : Int) + 0)))], [([.so key, .io .i64 dr, .sl (some a) n c], 50), ([.so key, .io .i64 dr, .sl B n k], 50)]⟩ (by kernel_rfl) (by kernel_rfl) ?_
  rw [w0]
  refine At.idx a (n + 3) 9 ((n + 0 : Nat) : Int) (by kernel_rfl) (by omega) (by omega) noF_stable ?_
  refine At.lda (a.add (((n + 0 : Nat) : Int).toNat * 9)) 9 [.v (.int .i64 0), .v (.int .i64 0), .v (.int .i64 (-77)), .v (.int .i64 0), .v (.int .i64 0), .v (.int .i64 0), .v (.int .i64 0), .v (.int .i64 0), .v (.int .i64 0)] (by kernel_rfl) rfl noF_stable (fun ρ w1 hm hf => ?_) ?_
  · rw [Int.toNat_natCast]
    exact (hx.below hm.below).cell (x := markW 0) (by rw [List.getElem?_append_right (by omega), hl, Nat.add_sub_cancel_left]; rfl)
  refine At.to (noF_stable) (noF_fewer) 20 300 [3, 5, 6, 29, 30] 2 ⟨pqops B23 [1, 1, 1, 0, 1, 4, 4, 1, 0, 4, 0] 9, [.seq (sub B23 [1, 1, 1, 0, 1, 4, 4, 1, 0, 4, 1]), .block 1, .seq (sub B23 [1, 1, 1, 0, 1, 4, 4, 1, 1]), .rounds (sub B23 [1, 1, 1, 0, 1, 4, 4]) 19, .block 0, .seq (sub B23 [1, 1, 1, 1])], [(3, .lp 1 0), (5, .sl (some a) (n + 3) c), (6, .v (.int .i64 0)), (29, .agg [.v (.int .i64 0), .v (.int .i64 0), .v (.int .i64 (-77)), .v (.int .i64 0), .v (.int .i64 0), .v (.int .i64 0), .v (.int .i64 0), .v (.int .i64 0), .v (.int .i64 0)]), (30, .v (.int .i64 0))], [([.so key, .io .i64 dr, .sl (some a) n c], 50), ([.so key, .io .i64 dr, .sl B n k], 50)]⟩ (by kernel_rfl) (by kernel_rfl) ?_
  refine At.call noF_stable 44 [.v (.int .i64 0)] (.agg [.v (.int .i64 0), .v (.int .i64 0), .v (.int .i64 (-77)), .v (.int .i64 0), .v (.int .i64 0), .v (.int .i64 0), .v (.int .i64 0), .v (.int .i64 0), .v (.int .i64 0)]) (by kernel_rfl) (by kernel_rfl) (by kernel_rfl) (fun _ _ w1 hi _ => mark_any 0 w1) ?_
  refine At.to (noF_stable) (noF_fewer) 20 300 [3, 5, 6, 22, 27] 2 ⟨pqops B23 [1, 1, 1, 0, 1, 4, 4, 1, 0, 4, 0] 6, [.seq (sub B23 [1, 1, 1, 0, 1, 4, 4, 1, 0, 4, 1]), .block 1, .seq (sub B23 [1, 1, 1, 0, 1, 4, 4, 1, 1]), .rounds (sub B23 [1, 1, 1, 0, 1, 4, 4]) 18, .block 0, .seq (sub B23 [1, 1, 1, 1])], [(3, .lp 1 0), (5, .sl (some a) (n + 3) c), (6, .v (.int .i64 1)), (22, .sl (some a) (n + 3) c), (27, .io .i64 (IntKind.i64.wrap ((↑n : Int) + IntKind.i64.wrap (0 + 1))))], [([.so key, .io .i64 dr, .sl (some a) n c], 50), ([.so key, .io .i64 dr, .sl B n k], 50)]⟩ (by kernel_rfl) (by kernel_rfl) ?_
  rw [show IntKind.i64.wrap (0 + 1) = 1 from by decide]
  rw [w1]
  refine At.idx a (n + 3) 9 ((n + 1 : Nat) : Int) (by kernel_rfl) (by omega) (by omega) noF_stable ?_
  refine At.lda (a.add (((n + 1 : Nat) : Int).toNat * 9)) 9 [.v (.int .i64 0), .v (.int .i64 0), .v (.int .i64 (-77)), .v (.int .i64 0), .v (.int .i64 0), .v (.int .i64 0), .v (.int .i64 0), .v (.int .i64 1), .v (.int .i64 0)] (by kernel_rfl) rfl noF_stable (fun ρ w1 hm hf => ?_) ?_
  · rw [Int.toNat_natCast]
    exact (hx.below hm.below).cell (x := markW 1) (by rw [List.getElem?_append_right (by omega), hl, Nat.add_sub_cancel_left]; rfl)
  refine At.to (noF_stable) (noF_fewer) 20 300 [3, 5, 6, 29, 30] 2 ⟨pqops B23 [1, 1, 1, 0, 1, 4, 4, 1, 0, 4, 0] 9, [.seq (sub B23 [1, 1, 1, 0, 1, 4, 4, 1, 0, 4, 1]), .block 1, .seq (sub B23 [1, 1, 1, 0, 1, 4, 4, 1, 1]), .rounds (sub B23 [1, 1, 1, 0, 1, 4, 4]) 18, .block 0, .seq (sub B23 [1, 1, 1, 1])], [(3, .lp 1 0), (5, .sl (some a) (n + 3) c), (6, .v (.int .i64 1)), (29, .agg [.v (.int .i64 0), .v (.int .i64 0), .v (.int .i64 (-77)), .v (.int .i64 0), .v (.int .i64 0), .v (.int .i64 0), .v (.int .i64 0), .v (.int .i64 1), .v (.int .i64 0)]), (30, .v (.int .i64 1))], [([.so key, .io .i64 dr, .sl (some a) n c], 50), ([.so key, .io .i64 dr, .sl B n k], 50)]⟩ (by kernel_rfl) (by kernel_rfl) ?_
  refine At.call noF_stable 44 [.v (.int .i64 1)] (.agg [.v (.int .i64 0), .v (.int .i64 0), .v (.int .i64 (-77)), .v (.int .i64 0), .v (.int .i64 0), .v (.int .i64 0), .v (.int .i64 0), .v (.int .i64 1), .v (.int .i64 0)]) (by kernel_rfl) (by kernel_rfl) (by kernel_rfl) (fun _ _ w1 hi _ => mark_any 1 w1) ?_
  refine At.to (noF_stable) (noF_fewer) 20 300 [3, 5, 6, 22, 27] 2 ⟨pqops B23 [1, 1, 1, 0, 1, 4, 4, 1, 0, 4, 0] 6, [.seq (sub B23 [1, 1, 1, 0, 1, 4, 4, 1, 0, 4, 1]), .block 1, .seq (sub B23 [1, 1, 1, 0, 1, 4, 4, 1, 1]), .rounds (sub B23 [1, 1, 1, 0, 1, 4, 4]) 17, .block 0, .seq (sub B23 [1, 1, 1, 1])], [(3, .lp 1 0), (5, .sl (some a) (n + 3) c), (6, .v (.int .i64 2)), (22, .sl (some a) (n + 3) c), (27, .io .i64 (IntKind.i64.wrap ((↑n : Int) + IntKind.i64.wrap (1 + 1))))], [([.so key, .io .i64 dr, .sl (some a) n c], 50), ([.so key, .io .i64 dr, .sl B n k], 50)]⟩ (by kernel_rfl) (by kernel_rfl) ?_
  rw [show IntKind.i64.wrap (1 + 1) = 2 from by decide]
  rw [w2]
  refine At.idx a (n + 3) 9 ((n + 2 : Nat) : Int) (by kernel_rfl) (by omega) (by omega) noF_stable ?_
  refine At.lda (a.add (((n + 2 : Nat) : Int).toNat * 9)) 9 [.v (.int .i64 0), .v (.int .i64 0), .v (.int .i64 (-77)), .v (.int .i64 0), .v (.int .i64 0), .v (.int .i64 0), .v (.int .i64 0), .v (.int .i64 2), .v (.int .i64 0)] (by kernel_rfl) rfl noF_stable (fun ρ w1 hm hf => ?_) ?_
  · rw [Int.toNat_natCast]
    exact (hx.below hm.below).cell (x := markW 2) (by rw [List.getElem?_append_right (by omega), hl, Nat.add_sub_cancel_left]; rfl)
  refine At.to (noF_stable) (noF_fewer) 20 300 [3, 5, 6, 29, 30] 2 ⟨pqops B23 [1, 1, 1, 0, 1, 4, 4, 1, 0, 4, 0] 9, [.seq (sub B23 [1, 1, 1, 0, 1, 4, 4, 1, 0, 4, 1]), .block 1, .seq (sub B23 [1, 1, 1, 0, 1, 4, 4, 1, 1]), .rounds (sub B23 [1, 1, 1, 0, 1, 4, 4]) 17, .block 0, .seq (sub B23 [1, 1, 1, 1])], [(3, .lp 1 0), (5, .sl (some a) (n + 3) c), (6, .v (.int .i64 2)), (29, .agg [.v (.int .i64 0), .v (.int .i64 0), .v (.int .i64 (-77)), .v (.int .i64 0), .v (.int .i64 0), .v (.int .i64 0), .v (.int .i64 0), .v (.int .i64 2), .v (.int .i64 0)]), (30, .v (.int .i64 2))], [([.so key, .io .i64 dr, .sl (some a) n c], 50), ([.so key, .io .i64 dr, .sl B n k], 50)]⟩ (by kernel_rfl) (by kernel_rfl) ?_
  refine At.call noF_stable 44 [.v (.int .i64 2)] (.agg [.v (.int .i64 0), .v (.int .i64 0), .v (.int .i64 (-77)), .v (.int .i64 0), .v (.int .i64 0), .v (.int .i64 0), .v (.int .i64 0), .v (.int .i64 2), .v (.int .i64 0)]) (by kernel_rfl) (by kernel_rfl) (by kernel_rfl) (fun _ _ w1 hi _ => mark_any 2 w1) ?_
  refine At.to (noF_stable) (noF_fewer) 20 300 [4] 0 ⟨.exit .ret, [], [(4, .v (.bool true))], []⟩ (by kernel_rfl) (by kernel_rfl) ?_
  refine At.ret (by kernel_rfl) (.v (.bool true)) (by kernel_rfl) ?_
  intro ρ w9 hm _
  exact ⟨rfl, hm.below⟩

end Go.Proofs.YtiehnigbcfkcdaaDoor
