/- Joined texts: CA, CB, CF, CC. -/
import Derived.Test.YtkjnbafdmjakgaaDoorBP
import Derived.Test.YtkjnbafdmjakgaaDoorRC
set_option linter.unusedSimpArgs false
set_option linter.unusedVariables false
namespace Go.Proofs.YtkjnbafdmjakgaaDoor
open Go.RowKit Go.Sx

def cmpS (x y : ByteArray) : Int := if Op.bytesLess x.toList y.toList = true then -1 else if (!(Op.bytesLess x.toList y.toList || x.toList == y.toList)) = true then 1 else 0
def cmpI (a b : Int) : Int := if a < b then -1 else if a > b then 1 else 0

noncomputable def B71 : Code := (Tryd.f71.body).getD .skip
set_option maxHeartbeats 4000000 in
set_option maxRecDepth 100000 in
theorem nan_str (x : ByteArray) (w : World) :
    Calls Tryd.prog 71 #[.string x] w fun e w' => e = .returned (.bool false) ∧ Below w.heap.size w w' := by
  refine enter (fn := Tryd.f71) (c := B71) [.so x] Tryd.func71 rfl rfl ?_
  refine At.to (noF_stable) (noF_fewer) 20 300 [2] 0 ⟨.exit .ret, [], [(2, .bo !x.toList == x.toList)], []⟩ (by kernel_rfl) (by kernel_rfl) ?_
  refine At.ret (by kernel_rfl) (.bo !x.toList == x.toList) (by kernel_rfl) ?_
  intro ρ w9 hm' hf
  exact ⟨by simp [SV.den], hm'.below⟩

noncomputable def B49 : Code := (Tryd.f49.body).getD .skip
set_option maxHeartbeats 4000000 in
set_option maxRecDepth 100000 in
theorem cmp_str (x y : ByteArray) (w : World) :
    Calls Tryd.prog 49 #[.string x, .string y] w fun e w' => e = .returned (.int .i64 (cmpS x y)) ∧ Below w.heap.size w w' := by
  refine enter (fn := Tryd.f49) (c := B49) [.so x, .so y] Tryd.func49 rfl rfl ?_
  refine At.to (noF_stable) (noF_fewer) 20 300 [0, 1, 7] 0 ⟨pops B49 [1, 0] 1, [.seq (sub B49 [1, 1])], [(0, .so x), (1, .so y), (7, .so x)], []⟩ (by kernel_rfl) (by kernel_rfl) ?_
  refine At.call noF_stable 71 [.so x] (.v (.bool false)) (by kernel_rfl) (by kernel_rfl) (by kernel_rfl) (fun _ _ w1 hi _ => nan_str x w1) ?_
  refine At.to (noF_stable) (noF_fewer) 20 300 [0, 1, 5, 9] 0 ⟨pops B49 [1, 1, 0] 1, [.seq (sub B49 [1, 1, 1])], [(0, .so x), (1, .so y), (5, .v (.bool false)), (9, .so y)], []⟩ (by kernel_rfl) (by kernel_rfl) ?_
  refine At.call noF_stable 71 [.so y] (.v (.bool false)) (by kernel_rfl) (by kernel_rfl) (by kernel_rfl) (fun _ _ w1 hi _ => nan_str y w1) ?_
  refine At.to (noF_stable) (noF_fewer) 20 300 [0, 1, 16] 0 ⟨.code (sub B49 [1, 1, 1, 1, 1, 0, 1]), [.seq (sub B49 [1, 1, 1, 1, 1, 1])], [(0, .so x), (1, .so y), (16, .bo (Op.bytesLess x.toList y.toList))], []⟩ (by kernel_rfl) (by kernel_rfl) ?_
  rcases Bool.eq_false_or_eq_true (Op.bytesLess x.toList y.toList) with b0 | b0
  · refine At.res 16 (Op.bytesLess x.toList y.toList) true (by kernel_rfl) b0 ?_
    refine At.to (noF_stable) (noF_fewer) 20 300 [4] 0 ⟨.exit .ret, [], [(4, .v (.int .i64 (-1)))], []⟩ (by kernel_rfl) (by kernel_rfl) ?_
    refine At.ret (by kernel_rfl) (.v (.int .i64 (-1))) (by kernel_rfl) ?_
    have hc : cmpS x y = -1 := if_pos b0
    intro ρ w9 hm' hf
    exact ⟨by rw [hc]; rfl, hm'.below⟩
  · refine At.res 16 (Op.bytesLess x.toList y.toList) false (by kernel_rfl) b0 ?_
    refine At.to (noF_stable) (noF_fewer) 20 300 [19] 0 ⟨.code (sub B49 [1, 1, 1, 1, 1, 1, 0, 1]), [.seq (sub B49 [1, 1, 1, 1, 1, 1, 1])], [(19, .bo !(Op.bytesLess x.toList y.toList || x.toList == y.toList))], []⟩ (by kernel_rfl) (by kernel_rfl) ?_
    rcases Bool.eq_false_or_eq_true (!(Op.bytesLess x.toList y.toList || x.toList == y.toList)) with b1 | b1
    · refine At.res 19 (!(Op.bytesLess x.toList y.toList || x.toList == y.toList)) true (by kernel_rfl) b1 ?_
      refine At.to (noF_stable) (noF_fewer) 20 300 [4] 0 ⟨.exit .ret, [], [(4, .v (.int .i64 1))], []⟩ (by kernel_rfl) (by kernel_rfl) ?_
      refine At.ret (by kernel_rfl) (.v (.int .i64 1)) (by kernel_rfl) ?_
      have hc : cmpS x y = 1 := (if_neg (by rw [b0]; decide)).trans (if_pos b1)
      intro ρ w9 hm' hf
      exact ⟨by rw [hc]; rfl, hm'.below⟩
    · refine At.res 19 (!(Op.bytesLess x.toList y.toList || x.toList == y.toList)) false (by kernel_rfl) b1 ?_
      refine At.to (noF_stable) (noF_fewer) 20 300 [4] 0 ⟨.exit .ret, [], [(4, .v (.int .i64 0))], []⟩ (by kernel_rfl) (by kernel_rfl) ?_
      refine At.ret (by kernel_rfl) (.v (.int .i64 0)) (by kernel_rfl) ?_
      have hc : cmpS x y = 0 := (if_neg (by rw [b0]; decide)).trans (if_neg (by rw [b1]; decide))
      intro ρ w9 hm' hf
      exact ⟨by rw [hc]; rfl, hm'.below⟩

noncomputable def B72 : Code := (Tryd.f72.body).getD .skip
set_option maxHeartbeats 4000000 in
set_option maxRecDepth 100000 in
theorem nan_int (x : Int) (w : World) :
    Calls Tryd.prog 72 #[.int .i64 x] w fun e w' => e = .returned (.bool false) ∧ Below w.heap.size w w' := by
  refine enter (fn := Tryd.f72) (c := B72) [.io .i64 x] Tryd.func72 rfl rfl ?_
  refine At.to (noF_stable) (noF_fewer) 20 300 [2] 0 ⟨.exit .ret, [], [(2, .bo (x != x))], []⟩ (by kernel_rfl) (by kernel_rfl) ?_
  refine At.ret (by kernel_rfl) (.bo (x != x)) (by kernel_rfl) ?_
  intro ρ w9 hm' hf
  exact ⟨by simp [SV.den], hm'.below⟩

noncomputable def B50 : Code := (Tryd.f50.body).getD .skip
set_option maxHeartbeats 4000000 in
set_option maxRecDepth 100000 in
theorem cmp_int (x y : Int) (w : World) :
    Calls Tryd.prog 50 #[.int .i64 x, .int .i64 y] w fun e w' => e = .returned (.int .i64 (cmpI x y)) ∧ Below w.heap.size w w' := by
  refine enter (fn := Tryd.f50) (c := B50) [.io .i64 x, .io .i64 y] Tryd.func50 rfl rfl ?_
  refine At.to (noF_stable) (noF_fewer) 20 300 [0, 1, 7] 0 ⟨pops B50 [1, 0] 1, [.seq (sub B50 [1, 1])], [(0, .io .i64 x), (1, .io .i64 y), (7, .io .i64 x)], []⟩ (by kernel_rfl) (by kernel_rfl) ?_
  refine At.call noF_stable 72 [.io .i64 x] (.v (.bool false)) (by kernel_rfl) (by kernel_rfl) (by kernel_rfl) (fun _ _ w1 hi _ => nan_int x w1) ?_
  refine At.to (noF_stable) (noF_fewer) 20 300 [0, 1, 5, 9] 0 ⟨pops B50 [1, 1, 0] 1, [.seq (sub B50 [1, 1, 1])], [(0, .io .i64 x), (1, .io .i64 y), (5, .v (.bool false)), (9, .io .i64 y)], []⟩ (by kernel_rfl) (by kernel_rfl) ?_
  refine At.call noF_stable 72 [.io .i64 y] (.v (.bool false)) (by kernel_rfl) (by kernel_rfl) (by kernel_rfl) (fun _ _ w1 hi _ => nan_int y w1) ?_
  refine At.to (noF_stable) (noF_fewer) 20 300 [0, 1, 16] 0 ⟨.code (sub B50 [1, 1, 1, 1, 1, 0, 1]), [.seq (sub B50 [1, 1, 1, 1, 1, 1])], [(0, .io .i64 x), (1, .io .i64 y), (16, .bo (decide (x < y)))], []⟩ (by kernel_rfl) (by kernel_rfl) ?_
  rcases Bool.eq_false_or_eq_true (decide (x < y)) with b0 | b0
  · refine At.res 16 (decide (x < y)) true (by kernel_rfl) b0 ?_
    refine At.to (noF_stable) (noF_fewer) 20 300 [4] 0 ⟨.exit .ret, [], [(4, .v (.int .i64 (-1)))], []⟩ (by kernel_rfl) (by kernel_rfl) ?_
    refine At.ret (by kernel_rfl) (.v (.int .i64 (-1))) (by kernel_rfl) ?_
    have h0 : x < y := of_decide_eq_true b0
    have hc : cmpI x y = -1 := if_pos h0
    intro ρ w9 hm' hf
    exact ⟨by rw [hc]; rfl, hm'.below⟩
  · refine At.res 16 (decide (x < y)) false (by kernel_rfl) b0 ?_
    refine At.to (noF_stable) (noF_fewer) 20 300 [19] 0 ⟨.code (sub B50 [1, 1, 1, 1, 1, 1, 0, 1]), [.seq (sub B50 [1, 1, 1, 1, 1, 1, 1])], [(19, .bo (decide (x > y)))], []⟩ (by kernel_rfl) (by kernel_rfl) ?_
    rcases Bool.eq_false_or_eq_true (decide (x > y)) with b1 | b1
    · refine At.res 19 (decide (x > y)) true (by kernel_rfl) b1 ?_
      refine At.to (noF_stable) (noF_fewer) 20 300 [4] 0 ⟨.exit .ret, [], [(4, .v (.int .i64 1))], []⟩ (by kernel_rfl) (by kernel_rfl) ?_
      refine At.ret (by kernel_rfl) (.v (.int .i64 1)) (by kernel_rfl) ?_
      have h0 : ¬ x < y := of_decide_eq_false b0
      have h1 : x > y := of_decide_eq_true b1
      have hc : cmpI x y = 1 := (if_neg h0).trans (if_pos h1)
      intro ρ w9 hm' hf
      exact ⟨by rw [hc]; rfl, hm'.below⟩
    · refine At.res 19 (decide (x > y)) false (by kernel_rfl) b1 ?_
      refine At.to (noF_stable) (noF_fewer) 20 300 [4] 0 ⟨.exit .ret, [], [(4, .v (.int .i64 0))], []⟩ (by kernel_rfl) (by kernel_rfl) ?_
      refine At.ret (by kernel_rfl) (.v (.int .i64 0)) (by kernel_rfl) ?_
      have h0 : ¬ x < y := of_decide_eq_false b0
      have h1 : ¬ x > y := of_decide_eq_false b1
      have hc : cmpI x y = 0 := (if_neg h0).trans (if_neg h1)
      intro ρ w9 hm' hf
      exact ⟨by rw [hc]; rfl, hm'.below⟩

noncomputable def B73 : Code := (Tryd.f73.body).getD .skip
set_option maxHeartbeats 4000000 in
set_option maxRecDepth 100000 in
theorem nan_knd (x : Int) (w : World) :
    Calls Tryd.prog 73 #[.int .i64 x] w fun e w' => e = .returned (.bool false) ∧ Below w.heap.size w w' := by
  refine enter (fn := Tryd.f73) (c := B73) [.io .i64 x] Tryd.func73 rfl rfl ?_
  refine At.to (noF_stable) (noF_fewer) 20 300 [2] 0 ⟨.exit .ret, [], [(2, .bo (x != x))], []⟩ (by kernel_rfl) (by kernel_rfl) ?_
  refine At.ret (by kernel_rfl) (.bo (x != x)) (by kernel_rfl) ?_
  intro ρ w9 hm' hf
  exact ⟨by simp [SV.den], hm'.below⟩

noncomputable def B51 : Code := (Tryd.f51.body).getD .skip
set_option maxHeartbeats 4000000 in
set_option maxRecDepth 100000 in
theorem cmp_knd (x y : Int) (w : World) :
    Calls Tryd.prog 51 #[.int .i64 x, .int .i64 y] w fun e w' => e = .returned (.int .i64 (cmpI x y)) ∧ Below w.heap.size w w' := by
  refine enter (fn := Tryd.f51) (c := B51) [.io .i64 x, .io .i64 y] Tryd.func51 rfl rfl ?_
  refine At.to (noF_stable) (noF_fewer) 20 300 [0, 1, 7] 0 ⟨pops B51 [1, 0] 1, [.seq (sub B51 [1, 1])], [(0, .io .i64 x), (1, .io .i64 y), (7, .io .i64 x)], []⟩ (by kernel_rfl) (by kernel_rfl) ?_
  refine At.call noF_stable 73 [.io .i64 x] (.v (.bool false)) (by kernel_rfl) (by kernel_rfl) (by kernel_rfl) (fun _ _ w1 hi _ => nan_knd x w1) ?_
  refine At.to (noF_stable) (noF_fewer) 20 300 [0, 1, 5, 9] 0 ⟨pops B51 [1, 1, 0] 1, [.seq (sub B51 [1, 1, 1])], [(0, .io .i64 x), (1, .io .i64 y), (5, .v (.bool false)), (9, .io .i64 y)], []⟩ (by kernel_rfl) (by kernel_rfl) ?_
  refine At.call noF_stable 73 [.io .i64 y] (.v (.bool false)) (by kernel_rfl) (by kernel_rfl) (by kernel_rfl) (fun _ _ w1 hi _ => nan_knd y w1) ?_
  refine At.to (noF_stable) (noF_fewer) 20 300 [0, 1, 16] 0 ⟨.code (sub B51 [1, 1, 1, 1, 1, 0, 1]), [.seq (sub B51 [1, 1, 1, 1, 1, 1])], [(0, .io .i64 x), (1, .io .i64 y), (16, .bo (decide (x < y)))], []⟩ (by kernel_rfl) (by kernel_rfl) ?_
  rcases Bool.eq_false_or_eq_true (decide (x < y)) with b0 | b0
  · refine At.res 16 (decide (x < y)) true (by kernel_rfl) b0 ?_
    refine At.to (noF_stable) (noF_fewer) 20 300 [4] 0 ⟨.exit .ret, [], [(4, .v (.int .i64 (-1)))], []⟩ (by kernel_rfl) (by kernel_rfl) ?_
    refine At.ret (by kernel_rfl) (.v (.int .i64 (-1))) (by kernel_rfl) ?_
    have h0 : x < y := of_decide_eq_true b0
    have hc : cmpI x y = -1 := if_pos h0
    intro ρ w9 hm' hf
    exact ⟨by rw [hc]; rfl, hm'.below⟩
  · refine At.res 16 (decide (x < y)) false (by kernel_rfl) b0 ?_
    refine At.to (noF_stable) (noF_fewer) 20 300 [19] 0 ⟨.code (sub B51 [1, 1, 1, 1, 1, 1, 0, 1]), [.seq (sub B51 [1, 1, 1, 1, 1, 1, 1])], [(19, .bo (decide (x > y)))], []⟩ (by kernel_rfl) (by kernel_rfl) ?_
    rcases Bool.eq_false_or_eq_true (decide (x > y)) with b1 | b1
    · refine At.res 19 (decide (x > y)) true (by kernel_rfl) b1 ?_
      refine At.to (noF_stable) (noF_fewer) 20 300 [4] 0 ⟨.exit .ret, [], [(4, .v (.int .i64 1))], []⟩ (by kernel_rfl) (by kernel_rfl) ?_
      refine At.ret (by kernel_rfl) (.v (.int .i64 1)) (by kernel_rfl) ?_
      have h0 : ¬ x < y := of_decide_eq_false b0
      have h1 : x > y := of_decide_eq_true b1
      have hc : cmpI x y = 1 := (if_neg h0).trans (if_pos h1)
      intro ρ w9 hm' hf
      exact ⟨by rw [hc]; rfl, hm'.below⟩
    · refine At.res 19 (decide (x > y)) false (by kernel_rfl) b1 ?_
      refine At.to (noF_stable) (noF_fewer) 20 300 [4] 0 ⟨.exit .ret, [], [(4, .v (.int .i64 0))], []⟩ (by kernel_rfl) (by kernel_rfl) ?_
      refine At.ret (by kernel_rfl) (.v (.int .i64 0)) (by kernel_rfl) ?_
      have h0 : ¬ x < y := of_decide_eq_false b0
      have h1 : ¬ x > y := of_decide_eq_false b1
      have hc : cmpI x y = 0 := (if_neg h0).trans (if_neg h1)
      intro ρ w9 hm' hf
      exact ⟨by rw [hc]; rfl, hm'.below⟩


/-- The first that is not zero. -/
def orI : List Int → Int
  | [] => 0
  | x :: l => if x = 0 then orI l else x
def cmpP (p q : Pn) : Int := orI [cmpS (mkB p.key) (mkB q.key), cmpI p.st q.st, cmpI p.en q.en, cmpI p.kd q.kd, cmpI p.nt q.nt, cmpI p.ct q.ct, cmpI p.sm q.sm, cmpI p.mn q.mn, cmpI p.mx q.mx]


theorem int_cell {b i : Nat} {t : TypeId} {l : List Int} {x : Int} {w w1 : World} (h : w.heap[b]? = some (.cells (l.map fun x => Value.int .i64 x).toArray t (0, 0))) (hb : Below w.heap.size w w1) (hx : l[i]? = some x) : w1.cell? ((⟨b, 0, none⟩ : Addr).add ((i : Int).toNat * 1)) = some (.int .i64 x) := by
  rw [add_ok, Int.toNat_natCast]
  unfold World.cell?
  rw [hb.block b (Array.getElem?_eq_some_iff.1 h).1, h]
  simp [hx]
def frO (b n : Nat) (i : Nat) : Fr := [(3, .io .i64 0), (6, .sl (some ⟨b, 0, none⟩) n n), (7, .io .i64 (n : Int)), (8, .io .i64 (i : Int))]
def locO (_ : Nat) : Sx.Loc := []

noncomputable def B48 : Code := (Tryd.f48.body).getD .skip
set_option maxHeartbeats 4000000 in
set_option maxRecDepth 100000 in
theorem or_any (b : Nat) (l : List Int) (n : Nat) (hn : l.length = n) (hbig : n ≤ 1000) {t : TypeId} (w : World) (h : w.heap[b]? = some (.cells (l.map fun x => Value.int .i64 x).toArray t (0, 0))) :
    Calls Tryd.prog 48 #[.slice (some ⟨b, 0, none⟩) n n] w fun e w' => e = .returned (.int .i64 (orI l)) ∧ Below w.heap.size w w' := by
  refine enter (fn := Tryd.f48) (c := B48) [.sl (some ⟨b, 0, none⟩) n n] Tryd.func48 rfl rfl ?_
  refine At.to (noF_stable) (noF_fewer) 0 300 [3, 6, 7, 8] 0 ⟨.code (sub B48 [1, 1, 0, 1, 4]), [.block 0, .seq (sub B48 [1, 1, 1])], [(3, .v (.int .i64 0)), (6, .sl (some (Addr.mk b 0 none)) n n), (7, .io .i64 (↑n : Int)), (8, .v (.int .i64 0))], []⟩ (by kernel_rfl) (by kernel_rfl) ?_
  generalize hR : orI l = R
  refine At.canon _ rfl ?_
  refine At.loop (σ := Nat) (sub B48 [1, 1, 0, 1, 4, 4]) (frO b n) locO (fun i _ _ => i ≤ n ∧ orI (l.drop i) = R) (fun i => n - i) 0 (by kernel_rfl) (by unfold subFr; kernel_rfl) (by kernel_rfl) (fun _ _ _ _ h => ⟨Nat.zero_le _, hR⟩) ?_
  intro i
  refine At.mono (F' := fun ρ w => noF ρ w ∧ (i ≤ n ∧ orI (l.drop i) = R)) (fun ρ w h => ⟨trivial, h⟩) ?_
  refine At.pure fun ⟨h1, h2⟩ => ?_
  refine At.to (noF_stable) (noF_fewer) 0 300 [3, 6, 7, 8, 9] 0 ⟨.code (sub B48 [1, 1, 0, 1, 4, 4, 1, 0]), [.seq (sub B48 [1, 1, 0, 1, 4, 4, 1, 1]), .next (Sx.Next w.heap.size w Tryd.f48.ntmps (frO b n) locO (fun i x x_1 => i ≤ n ∧ orI (List.drop i l) = R) (fun i => n - i) i), .block 0, .seq (sub B48 [1, 1, 1])], [(3, .io .i64 0), (6, .sl (some (Addr.mk b 0 none)) n n), (7, .io .i64 (↑n : Int)), (8, .io .i64 (↑i : Int)), (9, .bo (decide ((↑i : Int) < (↑n : Int))))], []⟩ (by kernel_rfl) (by kernel_rfl) ?_
  rcases Bool.eq_false_or_eq_true (decide ((↑i : Int) < (↑n : Int))) with b0 | b0
  · refine At.res 9 (decide ((↑i : Int) < (↑n : Int))) true (by kernel_rfl) b0 ?_
    refine At.to (noF_stable) (noF_fewer) 0 300 [3, 6, 7, 8] 0 ⟨pops B48 [1, 1, 0, 1, 4, 4, 1, 1, 0, 4, 0] 0, [.seq (sub B48 [1, 1, 0, 1, 4, 4, 1, 1, 0, 4, 1]), .block 1, .seq (sub B48 [1, 1, 0, 1, 4, 4, 1, 1, 1]), .next (Sx.Next w.heap.size w Tryd.f48.ntmps (frO b n) locO (fun i x x_1 => i ≤ n ∧ orI (List.drop i l) = R) (fun i => n - i) i), .block 0, .seq (sub B48 [1, 1, 1])], [(3, .io .i64 0), (6, .sl (some (Addr.mk b 0 none)) n n), (7, .io .i64 (↑n : Int)), (8, .io .i64 (↑i : Int))], []⟩ (by kernel_rfl) (by kernel_rfl) ?_
    have hi : i < n := by have := of_decide_eq_true b0; omega
    clear b0
    obtain ⟨x, hx⟩ : ∃ x, l[i]? = some x := ⟨_, List.getElem?_eq_getElem (by omega)⟩
    rw [drop_at hx] at h2
    simp only [orI] at h2
    refine At.idx ⟨b, 0, none⟩ n 1 (i : Int) (by kernel_rfl) (by omega) (by omega) noF_stable ?_
    refine At.ldx ((⟨b, 0, none⟩ : Addr).add ((i : Int).toNat * 1)) (.io .i64 x) (by kernel_rfl) noF_stable (fun ρ w1 hm' _ => int_cell h hm'.below hx) ?_
    refine At.to (noF_stable) (noF_fewer) 0 300 [3, 5, 6, 7, 8, 14] 0 ⟨.code (sub B48 [1, 1, 0, 1, 4, 4, 1, 1, 0, 4, 1, 1]), [.block 1, .seq (sub B48 [1, 1, 0, 1, 4, 4, 1, 1, 1]), .next (Sx.Next w.heap.size w Tryd.f48.ntmps (frO b n) locO (fun i x x_1 => i ≤ n ∧ orI (List.drop i l) = R) (fun i => n - i) i), .block 0, .seq (sub B48 [1, 1, 1])], [(3, .io .i64 0), (5, .io .i64 x), (6, .sl (some (Addr.mk b 0 none)) n n), (7, .io .i64 (↑n : Int)), (8, .io .i64 (↑i : Int)), (14, .bo (x != 0))], []⟩ (by kernel_rfl) (by kernel_rfl) ?_
    rcases Bool.eq_false_or_eq_true (x != 0) with b0 | b0
    · refine At.res 14 (x != 0) true (by kernel_rfl) b0 ?_
      refine At.to (noF_stable) (noF_fewer) 0 300 [2] 0 ⟨.exit .ret, [], [(2, .io .i64 x)], []⟩ (by kernel_rfl) (by kernel_rfl) ?_
      refine At.ret (by kernel_rfl) (.io .i64 x) (by kernel_rfl) ?_
      have hx0 : x ≠ 0 := by simpa using b0
      rw [if_neg hx0] at h2
      subst h2
      intro ρ w9 hm' hf
      exact ⟨rfl, hm'.below⟩
    · refine At.res 14 (x != 0) false (by kernel_rfl) b0 ?_
      refine At.to (noF_stable) (noF_fewer) 0 300 [3, 6, 7, 8] 0 ⟨.exit .normal, [.next (Sx.Next w.heap.size w Tryd.f48.ntmps (frO b n) locO (fun i x x_1 => i ≤ n ∧ orI (List.drop i l) = R) (fun i => n - i) i), .block 0, .seq (sub B48 [1, 1, 1])], [(3, .io .i64 0), (6, .sl (some (Addr.mk b 0 none)) n n), (7, .io .i64 (↑n : Int)), (8, .io .i64 (IntKind.i64.wrap ((↑i : Int) + 1)))], []⟩ (by kernel_rfl) (by kernel_rfl) ?_
      have hx0 : x = 0 := by simpa using b0
      rw [if_pos hx0] at h2
      have hw3 : IntKind.i64.wrap ((i : Int) + 1) = ((i + 1 : Nat) : Int) := by
        rw [wrap63 (by omega) (by omega)]
        omega
      rw [hw3]
      refine At.next (σ := Nat) (i + 1) rfl rfl (by unfold subFr; kernel_rfl) (by kernel_rfl) ?_ ?_
      · intro ρ a' w' hi' hf
        exact ⟨by omega, h2⟩
      · show n - (i + 1) < n - i
        omega
  · refine At.res 9 (decide ((↑i : Int) < (↑n : Int))) false (by kernel_rfl) b0 ?_
    refine At.to (noF_stable) (noF_fewer) 0 300 [2] 0 ⟨.exit .ret, [], [(2, .io .i64 0)], []⟩ (by kernel_rfl) (by kernel_rfl) ?_
    refine At.ret (by kernel_rfl) (.io .i64 0) (by kernel_rfl) ?_
    have hi : ¬ (i : Int) < (n : Int) := of_decide_eq_false b0
    rw [List.drop_eq_nil_of_le (by omega)] at h2
    subst h2
    intro ρ w9 hm' hf
    exact ⟨rfl, hm'.below⟩

end Go.Proofs.YtkjnbafdmjakgaaDoor
namespace Go.Proofs.YtkjnbafdmjakgaaDoor
open Go.RowKit Go.Sx

theorem cn {a b : Int} (h : decide (a < b) = true) : cmpI a b = -1 := if_pos (of_decide_eq_true h)
theorem cp {a b : Int} (h : decide (a < b) = false) (h2 : decide (a > b) = true) : cmpI a b = 1 := (if_neg (of_decide_eq_false h)).trans (if_pos (of_decide_eq_true h2))
theorem cz {a b : Int} (h : decide (a < b) = false) (h2 : decide (a > b) = false) : cmpI a b = 0 := (if_neg (of_decide_eq_false h)).trans (if_neg (of_decide_eq_false h2))
theorem sn {x y : ByteArray} (h : Op.bytesLess x.toList y.toList = true) : cmpS x y = -1 := if_pos h
theorem sp {x y : ByteArray} (h : Op.bytesLess x.toList y.toList = false) (h2 : (!(Op.bytesLess x.toList y.toList || x.toList == y.toList)) = true) : cmpS x y = 1 := (if_neg (by rw [h]; decide)).trans (if_pos h2)
theorem sz {x y : ByteArray} (h : Op.bytesLess x.toList y.toList = false) (h2 : (!(Op.bytesLess x.toList y.toList || x.toList == y.toList)) = false) : cmpS x y = 0 := (if_neg (by rw [h]; decide)).trans (if_neg (by rw [h2]; decide))

noncomputable def B22 : Code := (Tryd.f22.body).getD .skip
set_option maxHeartbeats 20000000 in
set_option maxRecDepth 100000 in
theorem rcompare_any (p q : Pn) (w : World) :
    Calls Tryd.prog 22 #[p.val, q.val] w fun e w' => e = .returned (.int .i64 (cmpP p q)) ∧ Below w.heap.size w w' := by
  refine enter (fn := Tryd.f22) (c := B22) [.agg (paneL (mkB p.key) p.st p.en p.kd p.nt p.ct p.sm p.mn p.mx), .agg (paneL (mkB q.key) q.st q.en q.kd q.nt q.ct q.sm q.mn q.mx)] Tryd.func22 rfl rfl ?_
  refine At.to (noF_stable) (noF_fewer) 20 600 [2, 3, 12] 2 ⟨.code (sub B22 [1, 0, 1]), [.seq (sub B22 [1, 1])], [(2, .lp 0 0), (3, .lp 1 0), (12, .bo (Op.bytesLess (mkB p.key).toList (mkB q.key).toList))], [([.so (mkB p.key), .io .i64 p.st, .io .i64 p.en, .io .i64 p.kd, .io .i64 p.nt, .io .i64 p.ct, .io .i64 p.sm, .io .i64 p.mn, .io .i64 p.mx], 29), ([.so (mkB q.key), .io .i64 q.st, .io .i64 q.en, .io .i64 q.kd, .io .i64 q.nt, .io .i64 q.ct, .io .i64 q.sm, .io .i64 q.mn, .io .i64 q.mx], 29)]⟩ (by kernel_rfl) (by kernel_rfl) ?_
  rcases Bool.eq_false_or_eq_true (Op.bytesLess (mkB p.key).toList (mkB q.key).toList) with b0 | b0
  · refine At.res 12 (Op.bytesLess (mkB p.key).toList (mkB q.key).toList) true (by kernel_rfl) b0 ?_
    refine At.to (noF_stable) (noF_fewer) 20 600 [4] 0 ⟨.exit .ret, [], [(4, .v (.int .i64 (-1)))], []⟩ (by kernel_rfl) (by kernel_rfl) ?_
    refine At.ret (by kernel_rfl) (.v (.int .i64 (-1))) (by kernel_rfl) ?_
    have hc : cmpP p q = (-1) := by
      unfold cmpP
      simp only [orI, sn b0]
      try rfl
    intro ρ w9 hm' hf
    exact ⟨by rw [hc]; rfl, hm'.below⟩
  · refine At.res 12 (Op.bytesLess (mkB p.key).toList (mkB q.key).toList) false (by kernel_rfl) b0 ?_
    refine At.to (noF_stable) (noF_fewer) 20 600 [2, 3, 17] 2 ⟨.code (sub B22 [1, 1, 0, 1]), [.seq (sub B22 [1, 1, 1])], [(2, .lp 0 0), (3, .lp 1 0), (17, .bo !(Op.bytesLess (mkB p.key).toList (mkB q.key).toList || (mkB p.key).toList == (mkB q.key).toList))], [([.so (mkB p.key), .io .i64 p.st, .io .i64 p.en, .io .i64 p.kd, .io .i64 p.nt, .io .i64 p.ct, .io .i64 p.sm, .io .i64 p.mn, .io .i64 p.mx], 29), ([.so (mkB q.key), .io .i64 q.st, .io .i64 q.en, .io .i64 q.kd, .io .i64 q.nt, .io .i64 q.ct, .io .i64 q.sm, .io .i64 q.mn, .io .i64 q.mx], 29)]⟩ (by kernel_rfl) (by kernel_rfl) ?_
    rcases Bool.eq_false_or_eq_true (!(Op.bytesLess (mkB p.key).toList (mkB q.key).toList || (mkB p.key).toList == (mkB q.key).toList)) with b1 | b1
    · refine At.res 17 (!(Op.bytesLess (mkB p.key).toList (mkB q.key).toList || (mkB p.key).toList == (mkB q.key).toList)) true (by kernel_rfl) b1 ?_
      refine At.to (noF_stable) (noF_fewer) 20 600 [4] 0 ⟨.exit .ret, [], [(4, .v (.int .i64 1))], []⟩ (by kernel_rfl) (by kernel_rfl) ?_
      refine At.ret (by kernel_rfl) (.v (.int .i64 1)) (by kernel_rfl) ?_
      have hc : cmpP p q = 1 := by
        unfold cmpP
        simp only [orI, sp b0 b1]
        try rfl
      intro ρ w9 hm' hf
      exact ⟨by rw [hc]; rfl, hm'.below⟩
    · refine At.res 17 (!(Op.bytesLess (mkB p.key).toList (mkB q.key).toList || (mkB p.key).toList == (mkB q.key).toList)) false (by kernel_rfl) b1 ?_
      refine At.to (noF_stable) (noF_fewer) 20 600 [5, 6, 7, 78] 4 ⟨.code (sub B22 [1, 1, 1, 1, 1, 0, 1, 4, 4, 1, 0, 4, 0, 1]), [.seq (sub B22 [1, 1, 1, 1, 1, 0, 1, 4, 4, 1, 0, 4, 1]), .block 1, .seq (sub B22 [1, 1, 1, 1, 1, 0, 1, 4, 4, 1, 1]), .rounds (sub B22 [1, 1, 1, 1, 1, 0, 1, 4, 4]) 19, .block 0, .seq (sub B22 [1, 1, 1, 1, 1, 1])], [(5, .ls 2 0 8 8), (6, .ls 3 0 8 8), (7, .v (.int .i64 0)), (78, .bo (decide (p.st < q.st)))], [([.so (mkB p.key), .io .i64 p.st, .io .i64 p.en, .io .i64 p.kd, .io .i64 p.nt, .io .i64 p.ct, .io .i64 p.sm, .io .i64 p.mn, .io .i64 p.mx], 29), ([.so (mkB q.key), .io .i64 q.st, .io .i64 q.en, .io .i64 q.kd, .io .i64 q.nt, .io .i64 q.ct, .io .i64 q.sm, .io .i64 q.mn, .io .i64 q.mx], 29), ([.io .i64 p.st, .io .i64 p.en, .io .i64 p.kd, .io .i64 p.nt, .io .i64 p.ct, .io .i64 p.sm, .io .i64 p.mn, .io .i64 p.mx], 2), ([.io .i64 q.st, .io .i64 q.en, .io .i64 q.kd, .io .i64 q.nt, .io .i64 q.ct, .io .i64 q.sm, .io .i64 q.mn, .io .i64 q.mx], 2)]⟩ (by kernel_rfl) (by kernel_rfl) ?_
      rcases Bool.eq_false_or_eq_true (decide (p.st < q.st)) with b2 | b2
      · refine At.res 78 (decide (p.st < q.st)) true (by kernel_rfl) b2 ?_
        refine At.to (noF_stable) (noF_fewer) 20 600 [4] 0 ⟨.exit .ret, [], [(4, .v (.int .i64 (-1)))], []⟩ (by kernel_rfl) (by kernel_rfl) ?_
        refine At.ret (by kernel_rfl) (.v (.int .i64 (-1))) (by kernel_rfl) ?_
        have hc : cmpP p q = (-1) := by
          unfold cmpP
          simp only [orI, sz b0 b1, cn b2]
          try rfl
        intro ρ w9 hm' hf
        exact ⟨by rw [hc]; rfl, hm'.below⟩
      · refine At.res 78 (decide (p.st < q.st)) false (by kernel_rfl) b2 ?_
        refine At.to (noF_stable) (noF_fewer) 20 600 [5, 6, 7, 87] 4 ⟨.code (sub B22 [1, 1, 1, 1, 1, 0, 1, 4, 4, 1, 0, 4, 1, 1]), [.block 1, .seq (sub B22 [1, 1, 1, 1, 1, 0, 1, 4, 4, 1, 1]), .rounds (sub B22 [1, 1, 1, 1, 1, 0, 1, 4, 4]) 19, .block 0, .seq (sub B22 [1, 1, 1, 1, 1, 1])], [(5, .ls 2 0 8 8), (6, .ls 3 0 8 8), (7, .v (.int .i64 0)), (87, .bo (decide (p.st > q.st)))], [([.so (mkB p.key), .io .i64 p.st, .io .i64 p.en, .io .i64 p.kd, .io .i64 p.nt, .io .i64 p.ct, .io .i64 p.sm, .io .i64 p.mn, .io .i64 p.mx], 29), ([.so (mkB q.key), .io .i64 q.st, .io .i64 q.en, .io .i64 q.kd, .io .i64 q.nt, .io .i64 q.ct, .io .i64 q.sm, .io .i64 q.mn, .io .i64 q.mx], 29), ([.io .i64 p.st, .io .i64 p.en, .io .i64 p.kd, .io .i64 p.nt, .io .i64 p.ct, .io .i64 p.sm, .io .i64 p.mn, .io .i64 p.mx], 2), ([.io .i64 q.st, .io .i64 q.en, .io .i64 q.kd, .io .i64 q.nt, .io .i64 q.ct, .io .i64 q.sm, .io .i64 q.mn, .io .i64 q.mx], 2)]⟩ (by kernel_rfl) (by kernel_rfl) ?_
        rcases Bool.eq_false_or_eq_true (decide (p.st > q.st)) with b3 | b3
        · refine At.res 87 (decide (p.st > q.st)) true (by kernel_rfl) b3 ?_
          refine At.to (noF_stable) (noF_fewer) 20 600 [4] 0 ⟨.exit .ret, [], [(4, .v (.int .i64 1))], []⟩ (by kernel_rfl) (by kernel_rfl) ?_
          refine At.ret (by kernel_rfl) (.v (.int .i64 1)) (by kernel_rfl) ?_
          have hc : cmpP p q = 1 := by
            unfold cmpP
            simp only [orI, sz b0 b1, cp b2 b3]
            try rfl
          intro ρ w9 hm' hf
          exact ⟨by rw [hc]; rfl, hm'.below⟩
        · refine At.res 87 (decide (p.st > q.st)) false (by kernel_rfl) b3 ?_
          refine At.to (noF_stable) (noF_fewer) 20 600 [5, 6, 7, 78] 4 ⟨.code (sub B22 [1, 1, 1, 1, 1, 0, 1, 4, 4, 1, 0, 4, 0, 1]), [.seq (sub B22 [1, 1, 1, 1, 1, 0, 1, 4, 4, 1, 0, 4, 1]), .block 1, .seq (sub B22 [1, 1, 1, 1, 1, 0, 1, 4, 4, 1, 1]), .rounds (sub B22 [1, 1, 1, 1, 1, 0, 1, 4, 4]) 18, .block 0, .seq (sub B22 [1, 1, 1, 1, 1, 1])], [(5, .ls 2 0 8 8), (6, .ls 3 0 8 8), (7, .v (.int .i64 1)), (78, .bo (decide (p.en < q.en)))], [([.so (mkB p.key), .io .i64 p.st, .io .i64 p.en, .io .i64 p.kd, .io .i64 p.nt, .io .i64 p.ct, .io .i64 p.sm, .io .i64 p.mn, .io .i64 p.mx], 29), ([.so (mkB q.key), .io .i64 q.st, .io .i64 q.en, .io .i64 q.kd, .io .i64 q.nt, .io .i64 q.ct, .io .i64 q.sm, .io .i64 q.mn, .io .i64 q.mx], 29), ([.io .i64 p.st, .io .i64 p.en, .io .i64 p.kd, .io .i64 p.nt, .io .i64 p.ct, .io .i64 p.sm, .io .i64 p.mn, .io .i64 p.mx], 2), ([.io .i64 q.st, .io .i64 q.en, .io .i64 q.kd, .io .i64 q.nt, .io .i64 q.ct, .io .i64 q.sm, .io .i64 q.mn, .io .i64 q.mx], 2)]⟩ (by kernel_rfl) (by kernel_rfl) ?_
          rcases Bool.eq_false_or_eq_true (decide (p.en < q.en)) with b4 | b4
          · refine At.res 78 (decide (p.en < q.en)) true (by kernel_rfl) b4 ?_
            refine At.to (noF_stable) (noF_fewer) 20 600 [4] 0 ⟨.exit .ret, [], [(4, .v (.int .i64 (-1)))], []⟩ (by kernel_rfl) (by kernel_rfl) ?_
            refine At.ret (by kernel_rfl) (.v (.int .i64 (-1))) (by kernel_rfl) ?_
            have hc : cmpP p q = (-1) := by
              unfold cmpP
              simp only [orI, sz b0 b1, cz b2 b3, cn b4]
              try rfl
            intro ρ w9 hm' hf
            exact ⟨by rw [hc]; rfl, hm'.below⟩
          · refine At.res 78 (decide (p.en < q.en)) false (by kernel_rfl) b4 ?_
            refine At.to (noF_stable) (noF_fewer) 20 600 [5, 6, 7, 87] 4 ⟨.code (sub B22 [1, 1, 1, 1, 1, 0, 1, 4, 4, 1, 0, 4, 1, 1]), [.block 1, .seq (sub B22 [1, 1, 1, 1, 1, 0, 1, 4, 4, 1, 1]), .rounds (sub B22 [1, 1, 1, 1, 1, 0, 1, 4, 4]) 18, .block 0, .seq (sub B22 [1, 1, 1, 1, 1, 1])], [(5, .ls 2 0 8 8), (6, .ls 3 0 8 8), (7, .v (.int .i64 1)), (87, .bo (decide (p.en > q.en)))], [([.so (mkB p.key), .io .i64 p.st, .io .i64 p.en, .io .i64 p.kd, .io .i64 p.nt, .io .i64 p.ct, .io .i64 p.sm, .io .i64 p.mn, .io .i64 p.mx], 29), ([.so (mkB q.key), .io .i64 q.st, .io .i64 q.en, .io .i64 q.kd, .io .i64 q.nt, .io .i64 q.ct, .io .i64 q.sm, .io .i64 q.mn, .io .i64 q.mx], 29), ([.io .i64 p.st, .io .i64 p.en, .io .i64 p.kd, .io .i64 p.nt, .io .i64 p.ct, .io .i64 p.sm, .io .i64 p.mn, .io .i64 p.mx], 2), ([.io .i64 q.st, .io .i64 q.en, .io .i64 q.kd, .io .i64 q.nt, .io .i64 q.ct, .io .i64 q.sm, .io .i64 q.mn, .io .i64 q.mx], 2)]⟩ (by kernel_rfl) (by kernel_rfl) ?_
            rcases Bool.eq_false_or_eq_true (decide (p.en > q.en)) with b5 | b5
            · refine At.res 87 (decide (p.en > q.en)) true (by kernel_rfl) b5 ?_
              refine At.to (noF_stable) (noF_fewer) 20 600 [4] 0 ⟨.exit .ret, [], [(4, .v (.int .i64 1))], []⟩ (by kernel_rfl) (by kernel_rfl) ?_
              refine At.ret (by kernel_rfl) (.v (.int .i64 1)) (by kernel_rfl) ?_
              have hc : cmpP p q = 1 := by
                unfold cmpP
                simp only [orI, sz b0 b1, cz b2 b3, cp b4 b5]
                try rfl
              intro ρ w9 hm' hf
              exact ⟨by rw [hc]; rfl, hm'.below⟩
            · refine At.res 87 (decide (p.en > q.en)) false (by kernel_rfl) b5 ?_
              refine At.to (noF_stable) (noF_fewer) 20 600 [5, 6, 7, 78] 4 ⟨.code (sub B22 [1, 1, 1, 1, 1, 0, 1, 4, 4, 1, 0, 4, 0, 1]), [.seq (sub B22 [1, 1, 1, 1, 1, 0, 1, 4, 4, 1, 0, 4, 1]), .block 1, .seq (sub B22 [1, 1, 1, 1, 1, 0, 1, 4, 4, 1, 1]), .rounds (sub B22 [1, 1, 1, 1, 1, 0, 1, 4, 4]) 17, .block 0, .seq (sub B22 [1, 1, 1, 1, 1, 1])], [(5, .ls 2 0 8 8), (6, .ls 3 0 8 8), (7, .v (.int .i64 2)), (78, .bo (decide (p.kd < q.kd)))], [([.so (mkB p.key), .io .i64 p.st, .io .i64 p.en, .io .i64 p.kd, .io .i64 p.nt, .io .i64 p.ct, .io .i64 p.sm, .io .i64 p.mn, .io .i64 p.mx], 29), ([.so (mkB q.key), .io .i64 q.st, .io .i64 q.en, .io .i64 q.kd, .io .i64 q.nt, .io .i64 q.ct, .io .i64 q.sm, .io .i64 q.mn, .io .i64 q.mx], 29), ([.io .i64 p.st, .io .i64 p.en, .io .i64 p.kd, .io .i64 p.nt, .io .i64 p.ct, .io .i64 p.sm, .io .i64 p.mn, .io .i64 p.mx], 2), ([.io .i64 q.st, .io .i64 q.en, .io .i64 q.kd, .io .i64 q.nt, .io .i64 q.ct, .io .i64 q.sm, .io .i64 q.mn, .io .i64 q.mx], 2)]⟩ (by kernel_rfl) (by kernel_rfl) ?_
              rcases Bool.eq_false_or_eq_true (decide (p.kd < q.kd)) with b6 | b6
              · refine At.res 78 (decide (p.kd < q.kd)) true (by kernel_rfl) b6 ?_
                refine At.to (noF_stable) (noF_fewer) 20 600 [4] 0 ⟨.exit .ret, [], [(4, .v (.int .i64 (-1)))], []⟩ (by kernel_rfl) (by kernel_rfl) ?_
                refine At.ret (by kernel_rfl) (.v (.int .i64 (-1))) (by kernel_rfl) ?_
                have hc : cmpP p q = (-1) := by
                  unfold cmpP
                  simp only [orI, sz b0 b1, cz b2 b3, cz b4 b5, cn b6]
                  try rfl
                intro ρ w9 hm' hf
                exact ⟨by rw [hc]; rfl, hm'.below⟩
              · refine At.res 78 (decide (p.kd < q.kd)) false (by kernel_rfl) b6 ?_
                refine At.to (noF_stable) (noF_fewer) 20 600 [5, 6, 7, 87] 4 ⟨.code (sub B22 [1, 1, 1, 1, 1, 0, 1, 4, 4, 1, 0, 4, 1, 1]), [.block 1, .seq (sub B22 [1, 1, 1, 1, 1, 0, 1, 4, 4, 1, 1]), .rounds (sub B22 [1, 1, 1, 1, 1, 0, 1, 4, 4]) 17, .block 0, .seq (sub B22 [1, 1, 1, 1, 1, 1])], [(5, .ls 2 0 8 8), (6, .ls 3 0 8 8), (7, .v (.int .i64 2)), (87, .bo (decide (p.kd > q.kd)))], [([.so (mkB p.key), .io .i64 p.st, .io .i64 p.en, .io .i64 p.kd, .io .i64 p.nt, .io .i64 p.ct, .io .i64 p.sm, .io .i64 p.mn, .io .i64 p.mx], 29), ([.so (mkB q.key), .io .i64 q.st, .io .i64 q.en, .io .i64 q.kd, .io .i64 q.nt, .io .i64 q.ct, .io .i64 q.sm, .io .i64 q.mn, .io .i64 q.mx], 29), ([.io .i64 p.st, .io .i64 p.en, .io .i64 p.kd, .io .i64 p.nt, .io .i64 p.ct, .io .i64 p.sm, .io .i64 p.mn, .io .i64 p.mx], 2), ([.io .i64 q.st, .io .i64 q.en, .io .i64 q.kd, .io .i64 q.nt, .io .i64 q.ct, .io .i64 q.sm, .io .i64 q.mn, .io .i64 q.mx], 2)]⟩ (by kernel_rfl) (by kernel_rfl) ?_
                rcases Bool.eq_false_or_eq_true (decide (p.kd > q.kd)) with b7 | b7
                · refine At.res 87 (decide (p.kd > q.kd)) true (by kernel_rfl) b7 ?_
                  refine At.to (noF_stable) (noF_fewer) 20 600 [4] 0 ⟨.exit .ret, [], [(4, .v (.int .i64 1))], []⟩ (by kernel_rfl) (by kernel_rfl) ?_
                  refine At.ret (by kernel_rfl) (.v (.int .i64 1)) (by kernel_rfl) ?_
                  have hc : cmpP p q = 1 := by
                    unfold cmpP
                    simp only [orI, sz b0 b1, cz b2 b3, cz b4 b5, cp b6 b7]
                    try rfl
                  intro ρ w9 hm' hf
                  exact ⟨by rw [hc]; rfl, hm'.below⟩
                · refine At.res 87 (decide (p.kd > q.kd)) false (by kernel_rfl) b7 ?_
                  refine At.to (noF_stable) (noF_fewer) 20 600 [5, 6, 7, 78] 4 ⟨.code (sub B22 [1, 1, 1, 1, 1, 0, 1, 4, 4, 1, 0, 4, 0, 1]), [.seq (sub B22 [1, 1, 1, 1, 1, 0, 1, 4, 4, 1, 0, 4, 1]), .block 1, .seq (sub B22 [1, 1, 1, 1, 1, 0, 1, 4, 4, 1, 1]), .rounds (sub B22 [1, 1, 1, 1, 1, 0, 1, 4, 4]) 16, .block 0, .seq (sub B22 [1, 1, 1, 1, 1, 1])], [(5, .ls 2 0 8 8), (6, .ls 3 0 8 8), (7, .v (.int .i64 3)), (78, .bo (decide (p.nt < q.nt)))], [([.so (mkB p.key), .io .i64 p.st, .io .i64 p.en, .io .i64 p.kd, .io .i64 p.nt, .io .i64 p.ct, .io .i64 p.sm, .io .i64 p.mn, .io .i64 p.mx], 29), ([.so (mkB q.key), .io .i64 q.st, .io .i64 q.en, .io .i64 q.kd, .io .i64 q.nt, .io .i64 q.ct, .io .i64 q.sm, .io .i64 q.mn, .io .i64 q.mx], 29), ([.io .i64 p.st, .io .i64 p.en, .io .i64 p.kd, .io .i64 p.nt, .io .i64 p.ct, .io .i64 p.sm, .io .i64 p.mn, .io .i64 p.mx], 2), ([.io .i64 q.st, .io .i64 q.en, .io .i64 q.kd, .io .i64 q.nt, .io .i64 q.ct, .io .i64 q.sm, .io .i64 q.mn, .io .i64 q.mx], 2)]⟩ (by kernel_rfl) (by kernel_rfl) ?_
                  rcases Bool.eq_false_or_eq_true (decide (p.nt < q.nt)) with b8 | b8
                  · refine At.res 78 (decide (p.nt < q.nt)) true (by kernel_rfl) b8 ?_
                    refine At.to (noF_stable) (noF_fewer) 20 600 [4] 0 ⟨.exit .ret, [], [(4, .v (.int .i64 (-1)))], []⟩ (by kernel_rfl) (by kernel_rfl) ?_
                    refine At.ret (by kernel_rfl) (.v (.int .i64 (-1))) (by kernel_rfl) ?_
                    have hc : cmpP p q = (-1) := by
                      unfold cmpP
                      simp only [orI, sz b0 b1, cz b2 b3, cz b4 b5, cz b6 b7, cn b8]
                      try rfl
                    intro ρ w9 hm' hf
                    exact ⟨by rw [hc]; rfl, hm'.below⟩
                  · refine At.res 78 (decide (p.nt < q.nt)) false (by kernel_rfl) b8 ?_
                    refine At.to (noF_stable) (noF_fewer) 20 600 [5, 6, 7, 87] 4 ⟨.code (sub B22 [1, 1, 1, 1, 1, 0, 1, 4, 4, 1, 0, 4, 1, 1]), [.block 1, .seq (sub B22 [1, 1, 1, 1, 1, 0, 1, 4, 4, 1, 1]), .rounds (sub B22 [1, 1, 1, 1, 1, 0, 1, 4, 4]) 16, .block 0, .seq (sub B22 [1, 1, 1, 1, 1, 1])], [(5, .ls 2 0 8 8), (6, .ls 3 0 8 8), (7, .v (.int .i64 3)), (87, .bo (decide (p.nt > q.nt)))], [([.so (mkB p.key), .io .i64 p.st, .io .i64 p.en, .io .i64 p.kd, .io .i64 p.nt, .io .i64 p.ct, .io .i64 p.sm, .io .i64 p.mn, .io .i64 p.mx], 29), ([.so (mkB q.key), .io .i64 q.st, .io .i64 q.en, .io .i64 q.kd, .io .i64 q.nt, .io .i64 q.ct, .io .i64 q.sm, .io .i64 q.mn, .io .i64 q.mx], 29), ([.io .i64 p.st, .io .i64 p.en, .io .i64 p.kd, .io .i64 p.nt, .io .i64 p.ct, .io .i64 p.sm, .io .i64 p.mn, .io .i64 p.mx], 2), ([.io .i64 q.st, .io .i64 q.en, .io .i64 q.kd, .io .i64 q.nt, .io .i64 q.ct, .io .i64 q.sm, .io .i64 q.mn, .io .i64 q.mx], 2)]⟩ (by kernel_rfl) (by kernel_rfl) ?_
                    rcases Bool.eq_false_or_eq_true (decide (p.nt > q.nt)) with b9 | b9
                    · refine At.res 87 (decide (p.nt > q.nt)) true (by kernel_rfl) b9 ?_
                      refine At.to (noF_stable) (noF_fewer) 20 600 [4] 0 ⟨.exit .ret, [], [(4, .v (.int .i64 1))], []⟩ (by kernel_rfl) (by kernel_rfl) ?_
                      refine At.ret (by kernel_rfl) (.v (.int .i64 1)) (by kernel_rfl) ?_
                      have hc : cmpP p q = 1 := by
                        unfold cmpP
                        simp only [orI, sz b0 b1, cz b2 b3, cz b4 b5, cz b6 b7, cp b8 b9]
                        try rfl
                      intro ρ w9 hm' hf
                      exact ⟨by rw [hc]; rfl, hm'.below⟩
                    · refine At.res 87 (decide (p.nt > q.nt)) false (by kernel_rfl) b9 ?_
                      refine At.to (noF_stable) (noF_fewer) 20 600 [5, 6, 7, 78] 4 ⟨.code (sub B22 [1, 1, 1, 1, 1, 0, 1, 4, 4, 1, 0, 4, 0, 1]), [.seq (sub B22 [1, 1, 1, 1, 1, 0, 1, 4, 4, 1, 0, 4, 1]), .block 1, .seq (sub B22 [1, 1, 1, 1, 1, 0, 1, 4, 4, 1, 1]), .rounds (sub B22 [1, 1, 1, 1, 1, 0, 1, 4, 4]) 15, .block 0, .seq (sub B22 [1, 1, 1, 1, 1, 1])], [(5, .ls 2 0 8 8), (6, .ls 3 0 8 8), (7, .v (.int .i64 4)), (78, .bo (decide (p.ct < q.ct)))], [([.so (mkB p.key), .io .i64 p.st, .io .i64 p.en, .io .i64 p.kd, .io .i64 p.nt, .io .i64 p.ct, .io .i64 p.sm, .io .i64 p.mn, .io .i64 p.mx], 29), ([.so (mkB q.key), .io .i64 q.st, .io .i64 q.en, .io .i64 q.kd, .io .i64 q.nt, .io .i64 q.ct, .io .i64 q.sm, .io .i64 q.mn, .io .i64 q.mx], 29), ([.io .i64 p.st, .io .i64 p.en, .io .i64 p.kd, .io .i64 p.nt, .io .i64 p.ct, .io .i64 p.sm, .io .i64 p.mn, .io .i64 p.mx], 2), ([.io .i64 q.st, .io .i64 q.en, .io .i64 q.kd, .io .i64 q.nt, .io .i64 q.ct, .io .i64 q.sm, .io .i64 q.mn, .io .i64 q.mx], 2)]⟩ (by kernel_rfl) (by kernel_rfl) ?_
                      rcases Bool.eq_false_or_eq_true (decide (p.ct < q.ct)) with b10 | b10
                      · refine At.res 78 (decide (p.ct < q.ct)) true (by kernel_rfl) b10 ?_
                        refine At.to (noF_stable) (noF_fewer) 20 600 [4] 0 ⟨.exit .ret, [], [(4, .v (.int .i64 (-1)))], []⟩ (by kernel_rfl) (by kernel_rfl) ?_
                        refine At.ret (by kernel_rfl) (.v (.int .i64 (-1))) (by kernel_rfl) ?_
                        have hc : cmpP p q = (-1) := by
                          unfold cmpP
                          simp only [orI, sz b0 b1, cz b2 b3, cz b4 b5, cz b6 b7, cz b8 b9, cn b10]
                          try rfl
                        intro ρ w9 hm' hf
                        exact ⟨by rw [hc]; rfl, hm'.below⟩
                      · refine At.res 78 (decide (p.ct < q.ct)) false (by kernel_rfl) b10 ?_
                        refine At.to (noF_stable) (noF_fewer) 20 600 [5, 6, 7, 87] 4 ⟨.code (sub B22 [1, 1, 1, 1, 1, 0, 1, 4, 4, 1, 0, 4, 1, 1]), [.block 1, .seq (sub B22 [1, 1, 1, 1, 1, 0, 1, 4, 4, 1, 1]), .rounds (sub B22 [1, 1, 1, 1, 1, 0, 1, 4, 4]) 15, .block 0, .seq (sub B22 [1, 1, 1, 1, 1, 1])], [(5, .ls 2 0 8 8), (6, .ls 3 0 8 8), (7, .v (.int .i64 4)), (87, .bo (decide (p.ct > q.ct)))], [([.so (mkB p.key), .io .i64 p.st, .io .i64 p.en, .io .i64 p.kd, .io .i64 p.nt, .io .i64 p.ct, .io .i64 p.sm, .io .i64 p.mn, .io .i64 p.mx], 29), ([.so (mkB q.key), .io .i64 q.st, .io .i64 q.en, .io .i64 q.kd, .io .i64 q.nt, .io .i64 q.ct, .io .i64 q.sm, .io .i64 q.mn, .io .i64 q.mx], 29), ([.io .i64 p.st, .io .i64 p.en, .io .i64 p.kd, .io .i64 p.nt, .io .i64 p.ct, .io .i64 p.sm, .io .i64 p.mn, .io .i64 p.mx], 2), ([.io .i64 q.st, .io .i64 q.en, .io .i64 q.kd, .io .i64 q.nt, .io .i64 q.ct, .io .i64 q.sm, .io .i64 q.mn, .io .i64 q.mx], 2)]⟩ (by kernel_rfl) (by kernel_rfl) ?_
                        rcases Bool.eq_false_or_eq_true (decide (p.ct > q.ct)) with b11 | b11
                        · refine At.res 87 (decide (p.ct > q.ct)) true (by kernel_rfl) b11 ?_
                          refine At.to (noF_stable) (noF_fewer) 20 600 [4] 0 ⟨.exit .ret, [], [(4, .v (.int .i64 1))], []⟩ (by kernel_rfl) (by kernel_rfl) ?_
                          refine At.ret (by kernel_rfl) (.v (.int .i64 1)) (by kernel_rfl) ?_
                          have hc : cmpP p q = 1 := by
                            unfold cmpP
                            simp only [orI, sz b0 b1, cz b2 b3, cz b4 b5, cz b6 b7, cz b8 b9, cp b10 b11]
                            try rfl
                          intro ρ w9 hm' hf
                          exact ⟨by rw [hc]; rfl, hm'.below⟩
                        · refine At.res 87 (decide (p.ct > q.ct)) false (by kernel_rfl) b11 ?_
                          refine At.to (noF_stable) (noF_fewer) 20 600 [5, 6, 7, 78] 4 ⟨.code (sub B22 [1, 1, 1, 1, 1, 0, 1, 4, 4, 1, 0, 4, 0, 1]), [.seq (sub B22 [1, 1, 1, 1, 1, 0, 1, 4, 4, 1, 0, 4, 1]), .block 1, .seq (sub B22 [1, 1, 1, 1, 1, 0, 1, 4, 4, 1, 1]), .rounds (sub B22 [1, 1, 1, 1, 1, 0, 1, 4, 4]) 14, .block 0, .seq (sub B22 [1, 1, 1, 1, 1, 1])], [(5, .ls 2 0 8 8), (6, .ls 3 0 8 8), (7, .v (.int .i64 5)), (78, .bo (decide (p.sm < q.sm)))], [([.so (mkB p.key), .io .i64 p.st, .io .i64 p.en, .io .i64 p.kd, .io .i64 p.nt, .io .i64 p.ct, .io .i64 p.sm, .io .i64 p.mn, .io .i64 p.mx], 29), ([.so (mkB q.key), .io .i64 q.st, .io .i64 q.en, .io .i64 q.kd, .io .i64 q.nt, .io .i64 q.ct, .io .i64 q.sm, .io .i64 q.mn, .io .i64 q.mx], 29), ([.io .i64 p.st, .io .i64 p.en, .io .i64 p.kd, .io .i64 p.nt, .io .i64 p.ct, .io .i64 p.sm, .io .i64 p.mn, .io .i64 p.mx], 2), ([.io .i64 q.st, .io .i64 q.en, .io .i64 q.kd, .io .i64 q.nt, .io .i64 q.ct, .io .i64 q.sm, .io .i64 q.mn, .io .i64 q.mx], 2)]⟩ (by kernel_rfl) (by kernel_rfl) ?_
                          rcases Bool.eq_false_or_eq_true (decide (p.sm < q.sm)) with b12 | b12
                          · refine At.res 78 (decide (p.sm < q.sm)) true (by kernel_rfl) b12 ?_
                            refine At.to (noF_stable) (noF_fewer) 20 600 [4] 0 ⟨.exit .ret, [], [(4, .v (.int .i64 (-1)))], []⟩ (by kernel_rfl) (by kernel_rfl) ?_
                            refine At.ret (by kernel_rfl) (.v (.int .i64 (-1))) (by kernel_rfl) ?_
                            have hc : cmpP p q = (-1) := by
                              unfold cmpP
                              simp only [orI, sz b0 b1, cz b2 b3, cz b4 b5, cz b6 b7, cz b8 b9, cz b10 b11, cn b12]
                              try rfl
                            intro ρ w9 hm' hf
                            exact ⟨by rw [hc]; rfl, hm'.below⟩
                          · refine At.res 78 (decide (p.sm < q.sm)) false (by kernel_rfl) b12 ?_
                            refine At.to (noF_stable) (noF_fewer) 20 600 [5, 6, 7, 87] 4 ⟨.code (sub B22 [1, 1, 1, 1, 1, 0, 1, 4, 4, 1, 0, 4, 1, 1]), [.block 1, .seq (sub B22 [1, 1, 1, 1, 1, 0, 1, 4, 4, 1, 1]), .rounds (sub B22 [1, 1, 1, 1, 1, 0, 1, 4, 4]) 14, .block 0, .seq (sub B22 [1, 1, 1, 1, 1, 1])], [(5, .ls 2 0 8 8), (6, .ls 3 0 8 8), (7, .v (.int .i64 5)), (87, .bo (decide (p.sm > q.sm)))], [([.so (mkB p.key), .io .i64 p.st, .io .i64 p.en, .io .i64 p.kd, .io .i64 p.nt, .io .i64 p.ct, .io .i64 p.sm, .io .i64 p.mn, .io .i64 p.mx], 29), ([.so (mkB q.key), .io .i64 q.st, .io .i64 q.en, .io .i64 q.kd, .io .i64 q.nt, .io .i64 q.ct, .io .i64 q.sm, .io .i64 q.mn, .io .i64 q.mx], 29), ([.io .i64 p.st, .io .i64 p.en, .io .i64 p.kd, .io .i64 p.nt, .io .i64 p.ct, .io .i64 p.sm, .io .i64 p.mn, .io .i64 p.mx], 2), ([.io .i64 q.st, .io .i64 q.en, .io .i64 q.kd, .io .i64 q.nt, .io .i64 q.ct, .io .i64 q.sm, .io .i64 q.mn, .io .i64 q.mx], 2)]⟩ (by kernel_rfl) (by kernel_rfl) ?_
                            rcases Bool.eq_false_or_eq_true (decide (p.sm > q.sm)) with b13 | b13
                            · refine At.res 87 (decide (p.sm > q.sm)) true (by kernel_rfl) b13 ?_
                              refine At.to (noF_stable) (noF_fewer) 20 600 [4] 0 ⟨.exit .ret, [], [(4, .v (.int .i64 1))], []⟩ (by kernel_rfl) (by kernel_rfl) ?_
                              refine At.ret (by kernel_rfl) (.v (.int .i64 1)) (by kernel_rfl) ?_
                              have hc : cmpP p q = 1 := by
                                unfold cmpP
                                simp only [orI, sz b0 b1, cz b2 b3, cz b4 b5, cz b6 b7, cz b8 b9, cz b10 b11, cp b12 b13]
                                try rfl
                              intro ρ w9 hm' hf
                              exact ⟨by rw [hc]; rfl, hm'.below⟩
                            · refine At.res 87 (decide (p.sm > q.sm)) false (by kernel_rfl) b13 ?_
                              refine At.to (noF_stable) (noF_fewer) 20 600 [5, 6, 7, 78] 4 ⟨.code (sub B22 [1, 1, 1, 1, 1, 0, 1, 4, 4, 1, 0, 4, 0, 1]), [.seq (sub B22 [1, 1, 1, 1, 1, 0, 1, 4, 4, 1, 0, 4, 1]), .block 1, .seq (sub B22 [1, 1, 1, 1, 1, 0, 1, 4, 4, 1, 1]), .rounds (sub B22 [1, 1, 1, 1, 1, 0, 1, 4, 4]) 13, .block 0, .seq (sub B22 [1, 1, 1, 1, 1, 1])], [(5, .ls 2 0 8 8), (6, .ls 3 0 8 8), (7, .v (.int .i64 6)), (78, .bo (decide (p.mn < q.mn)))], [([.so (mkB p.key), .io .i64 p.st, .io .i64 p.en, .io .i64 p.kd, .io .i64 p.nt, .io .i64 p.ct, .io .i64 p.sm, .io .i64 p.mn, .io .i64 p.mx], 29), ([.so (mkB q.key), .io .i64 q.st, .io .i64 q.en, .io .i64 q.kd, .io .i64 q.nt, .io .i64 q.ct, .io .i64 q.sm, .io .i64 q.mn, .io .i64 q.mx], 29), ([.io .i64 p.st, .io .i64 p.en, .io .i64 p.kd, .io .i64 p.nt, .io .i64 p.ct, .io .i64 p.sm, .io .i64 p.mn, .io .i64 p.mx], 2), ([.io .i64 q.st, .io .i64 q.en, .io .i64 q.kd, .io .i64 q.nt, .io .i64 q.ct, .io .i64 q.sm, .io .i64 q.mn, .io .i64 q.mx], 2)]⟩ (by kernel_rfl) (by kernel_rfl) ?_
                              rcases Bool.eq_false_or_eq_true (decide (p.mn < q.mn)) with b14 | b14
                              · refine At.res 78 (decide (p.mn < q.mn)) true (by kernel_rfl) b14 ?_
                                refine At.to (noF_stable) (noF_fewer) 20 600 [4] 0 ⟨.exit .ret, [], [(4, .v (.int .i64 (-1)))], []⟩ (by kernel_rfl) (by kernel_rfl) ?_
                                refine At.ret (by kernel_rfl) (.v (.int .i64 (-1))) (by kernel_rfl) ?_
                                have hc : cmpP p q = (-1) := by
                                  unfold cmpP
                                  simp only [orI, sz b0 b1, cz b2 b3, cz b4 b5, cz b6 b7, cz b8 b9, cz b10 b11, cz b12 b13, cn b14]
                                  try rfl
                                intro ρ w9 hm' hf
                                exact ⟨by rw [hc]; rfl, hm'.below⟩
                              · refine At.res 78 (decide (p.mn < q.mn)) false (by kernel_rfl) b14 ?_
                                refine At.to (noF_stable) (noF_fewer) 20 600 [5, 6, 7, 87] 4 ⟨.code (sub B22 [1, 1, 1, 1, 1, 0, 1, 4, 4, 1, 0, 4, 1, 1]), [.block 1, .seq (sub B22 [1, 1, 1, 1, 1, 0, 1, 4, 4, 1, 1]), .rounds (sub B22 [1, 1, 1, 1, 1, 0, 1, 4, 4]) 13, .block 0, .seq (sub B22 [1, 1, 1, 1, 1, 1])], [(5, .ls 2 0 8 8), (6, .ls 3 0 8 8), (7, .v (.int .i64 6)), (87, .bo (decide (p.mn > q.mn)))], [([.so (mkB p.key), .io .i64 p.st, .io .i64 p.en, .io .i64 p.kd, .io .i64 p.nt, .io .i64 p.ct, .io .i64 p.sm, .io .i64 p.mn, .io .i64 p.mx], 29), ([.so (mkB q.key), .io .i64 q.st, .io .i64 q.en, .io .i64 q.kd, .io .i64 q.nt, .io .i64 q.ct, .io .i64 q.sm, .io .i64 q.mn, .io .i64 q.mx], 29), ([.io .i64 p.st, .io .i64 p.en, .io .i64 p.kd, .io .i64 p.nt, .io .i64 p.ct, .io .i64 p.sm, .io .i64 p.mn, .io .i64 p.mx], 2), ([.io .i64 q.st, .io .i64 q.en, .io .i64 q.kd, .io .i64 q.nt, .io .i64 q.ct, .io .i64 q.sm, .io .i64 q.mn, .io .i64 q.mx], 2)]⟩ (by kernel_rfl) (by kernel_rfl) ?_
                                rcases Bool.eq_false_or_eq_true (decide (p.mn > q.mn)) with b15 | b15
                                · refine At.res 87 (decide (p.mn > q.mn)) true (by kernel_rfl) b15 ?_
                                  refine At.to (noF_stable) (noF_fewer) 20 600 [4] 0 ⟨.exit .ret, [], [(4, .v (.int .i64 1))], []⟩ (by kernel_rfl) (by kernel_rfl) ?_
                                  refine At.ret (by kernel_rfl) (.v (.int .i64 1)) (by kernel_rfl) ?_
                                  have hc : cmpP p q = 1 := by
                                    unfold cmpP
                                    simp only [orI, sz b0 b1, cz b2 b3, cz b4 b5, cz b6 b7, cz b8 b9, cz b10 b11, cz b12 b13, cp b14 b15]
                                    try rfl
                                  intro ρ w9 hm' hf
                                  exact ⟨by rw [hc]; rfl, hm'.below⟩
                                · refine At.res 87 (decide (p.mn > q.mn)) false (by kernel_rfl) b15 ?_
                                  refine At.to (noF_stable) (noF_fewer) 20 600 [5, 6, 7, 78] 4 ⟨.code (sub B22 [1, 1, 1, 1, 1, 0, 1, 4, 4, 1, 0, 4, 0, 1]), [.seq (sub B22 [1, 1, 1, 1, 1, 0, 1, 4, 4, 1, 0, 4, 1]), .block 1, .seq (sub B22 [1, 1, 1, 1, 1, 0, 1, 4, 4, 1, 1]), .rounds (sub B22 [1, 1, 1, 1, 1, 0, 1, 4, 4]) 12, .block 0, .seq (sub B22 [1, 1, 1, 1, 1, 1])], [(5, .ls 2 0 8 8), (6, .ls 3 0 8 8), (7, .v (.int .i64 7)), (78, .bo (decide (p.mx < q.mx)))], [([.so (mkB p.key), .io .i64 p.st, .io .i64 p.en, .io .i64 p.kd, .io .i64 p.nt, .io .i64 p.ct, .io .i64 p.sm, .io .i64 p.mn, .io .i64 p.mx], 29), ([.so (mkB q.key), .io .i64 q.st, .io .i64 q.en, .io .i64 q.kd, .io .i64 q.nt, .io .i64 q.ct, .io .i64 q.sm, .io .i64 q.mn, .io .i64 q.mx], 29), ([.io .i64 p.st, .io .i64 p.en, .io .i64 p.kd, .io .i64 p.nt, .io .i64 p.ct, .io .i64 p.sm, .io .i64 p.mn, .io .i64 p.mx], 2), ([.io .i64 q.st, .io .i64 q.en, .io .i64 q.kd, .io .i64 q.nt, .io .i64 q.ct, .io .i64 q.sm, .io .i64 q.mn, .io .i64 q.mx], 2)]⟩ (by kernel_rfl) (by kernel_rfl) ?_
                                  rcases Bool.eq_false_or_eq_true (decide (p.mx < q.mx)) with b16 | b16
                                  · refine At.res 78 (decide (p.mx < q.mx)) true (by kernel_rfl) b16 ?_
                                    refine At.to (noF_stable) (noF_fewer) 20 600 [4] 0 ⟨.exit .ret, [], [(4, .v (.int .i64 (-1)))], []⟩ (by kernel_rfl) (by kernel_rfl) ?_
                                    refine At.ret (by kernel_rfl) (.v (.int .i64 (-1))) (by kernel_rfl) ?_
                                    have hc : cmpP p q = (-1) := by
                                      unfold cmpP
                                      simp only [orI, sz b0 b1, cz b2 b3, cz b4 b5, cz b6 b7, cz b8 b9, cz b10 b11, cz b12 b13, cz b14 b15, cn b16]
                                      try rfl
                                    intro ρ w9 hm' hf
                                    exact ⟨by rw [hc]; rfl, hm'.below⟩
                                  · refine At.res 78 (decide (p.mx < q.mx)) false (by kernel_rfl) b16 ?_
                                    refine At.to (noF_stable) (noF_fewer) 20 600 [5, 6, 7, 87] 4 ⟨.code (sub B22 [1, 1, 1, 1, 1, 0, 1, 4, 4, 1, 0, 4, 1, 1]), [.block 1, .seq (sub B22 [1, 1, 1, 1, 1, 0, 1, 4, 4, 1, 1]), .rounds (sub B22 [1, 1, 1, 1, 1, 0, 1, 4, 4]) 12, .block 0, .seq (sub B22 [1, 1, 1, 1, 1, 1])], [(5, .ls 2 0 8 8), (6, .ls 3 0 8 8), (7, .v (.int .i64 7)), (87, .bo (decide (p.mx > q.mx)))], [([.so (mkB p.key), .io .i64 p.st, .io .i64 p.en, .io .i64 p.kd, .io .i64 p.nt, .io .i64 p.ct, .io .i64 p.sm, .io .i64 p.mn, .io .i64 p.mx], 29), ([.so (mkB q.key), .io .i64 q.st, .io .i64 q.en, .io .i64 q.kd, .io .i64 q.nt, .io .i64 q.ct, .io .i64 q.sm, .io .i64 q.mn, .io .i64 q.mx], 29), ([.io .i64 p.st, .io .i64 p.en, .io .i64 p.kd, .io .i64 p.nt, .io .i64 p.ct, .io .i64 p.sm, .io .i64 p.mn, .io .i64 p.mx], 2), ([.io .i64 q.st, .io .i64 q.en, .io .i64 q.kd, .io .i64 q.nt, .io .i64 q.ct, .io .i64 q.sm, .io .i64 q.mn, .io .i64 q.mx], 2)]⟩ (by kernel_rfl) (by kernel_rfl) ?_
                                    rcases Bool.eq_false_or_eq_true (decide (p.mx > q.mx)) with b17 | b17
                                    · refine At.res 87 (decide (p.mx > q.mx)) true (by kernel_rfl) b17 ?_
                                      refine At.to (noF_stable) (noF_fewer) 20 600 [4] 0 ⟨.exit .ret, [], [(4, .v (.int .i64 1))], []⟩ (by kernel_rfl) (by kernel_rfl) ?_
                                      refine At.ret (by kernel_rfl) (.v (.int .i64 1)) (by kernel_rfl) ?_
                                      have hc : cmpP p q = 1 := by
                                        unfold cmpP
                                        simp only [orI, sz b0 b1, cz b2 b3, cz b4 b5, cz b6 b7, cz b8 b9, cz b10 b11, cz b12 b13, cz b14 b15, cp b16 b17]
                                        try rfl
                                      intro ρ w9 hm' hf
                                      exact ⟨by rw [hc]; rfl, hm'.below⟩
                                    · refine At.res 87 (decide (p.mx > q.mx)) false (by kernel_rfl) b17 ?_
                                      refine At.to (noF_stable) (noF_fewer) 20 600 [4] 0 ⟨.exit .ret, [], [(4, .v (.int .i64 0))], []⟩ (by kernel_rfl) (by kernel_rfl) ?_
                                      refine At.ret (by kernel_rfl) (.v (.int .i64 0)) (by kernel_rfl) ?_
                                      have hc : cmpP p q = 0 := by
                                        unfold cmpP
                                        simp only [orI, sz b0 b1, cz b2 b3, cz b4 b5, cz b6 b7, cz b8 b9, cz b10 b11, cz b12 b13, cz b14 b15, cz b16 b17]
                                        try rfl
                                      intro ρ w9 hm' hf
                                      exact ⟨by rw [hc]; rfl, hm'.below⟩

end Go.Proofs.YtkjnbafdmjakgaaDoor
namespace Go.Proofs.YtkjnbafdmjakgaaDoor
open Go.RowKit Go.Sx
noncomputable def B21 : Code := (Tryd.f21.body).getD .skip
set_option maxHeartbeats 20000000 in
set_option maxRecDepth 100000 in
theorem compare_any (p q : Pn) (w : World) :
    Calls Tryd.prog 21 #[p.val, q.val] w fun e w' => e = .returned (.int .i64 (cmpP p q)) ∧ Below w.heap.size w w' := by
  refine enter (fn := Tryd.f21) (c := B21) [.agg (paneL (mkB p.key) p.st p.en p.kd p.nt p.ct p.sm p.mn p.mx), .agg (paneL (mkB q.key) q.st q.en q.kd q.nt q.ct q.sm q.mn q.mx)] Tryd.func21 rfl rfl ?_
  refine At.to (noF_stable) (noF_fewer) 20 300 [2, 3, 6, 8] 2 ⟨.qops (opsOf (sub B21 [1, 0])) (((opsOf (sub B21 [1, 0])).toList.take 57).drop 4), [.tail (opsOf (sub B21 [1, 0])) ((opsOf (sub B21 [1, 0])).toList.drop 57), .seq (sub B21 [1, 1])], [(2, .lp 0 0), (3, .lp 1 0), (6, .so (mkB p.key)), (8, .so (mkB q.key))], [([.so (mkB p.key), .io .i64 p.st, .io .i64 p.en, .io .i64 p.kd, .io .i64 p.nt, .io .i64 p.ct, .io .i64 p.sm, .io .i64 p.mn, .io .i64 p.mx], 29), ([.so (mkB q.key), .io .i64 q.st, .io .i64 q.en, .io .i64 q.kd, .io .i64 q.nt, .io .i64 q.ct, .io .i64 q.sm, .io .i64 q.mn, .io .i64 q.mx], 29)]⟩ (by kernel_rfl) (by kernel_rfl) ?_
  refine At.call noF_stable 49 [.so (mkB p.key), .so (mkB q.key)] (.io .i64 (cmpS (mkB p.key) (mkB q.key))) (by kernel_rfl) (by kernel_rfl) (by kernel_rfl) (fun _ _ w1 hi _ => cmp_str (mkB p.key) (mkB q.key) w1) ?_
  refine At.to (noF_stable) (noF_fewer) 20 300 [2, 3, 9, 12, 15] 2 ⟨.qops (opsOf (sub B21 [1, 0])) (((opsOf (sub B21 [1, 0])).toList.take 57).drop 11), [.tail (opsOf (sub B21 [1, 0])) ((opsOf (sub B21 [1, 0])).toList.drop 57), .seq (sub B21 [1, 1])], [(2, .lp 0 0), (3, .lp 1 0), (9, .io .i64 (cmpS (mkB p.key) (mkB q.key))), (12, .io .i64 p.st), (15, .io .i64 q.st)], [([.so (mkB p.key), .io .i64 p.st, .io .i64 p.en, .io .i64 p.kd, .io .i64 p.nt, .io .i64 p.ct, .io .i64 p.sm, .io .i64 p.mn, .io .i64 p.mx], 29), ([.so (mkB q.key), .io .i64 q.st, .io .i64 q.en, .io .i64 q.kd, .io .i64 q.nt, .io .i64 q.ct, .io .i64 q.sm, .io .i64 q.mn, .io .i64 q.mx], 29)]⟩ (by kernel_rfl) (by kernel_rfl) ?_
  refine At.call noF_stable 50 [.io .i64 p.st, .io .i64 q.st] (.io .i64 (cmpI p.st q.st)) (by kernel_rfl) (by kernel_rfl) (by kernel_rfl) (fun _ _ w1 hi _ => cmp_int p.st q.st w1) ?_
  refine At.to (noF_stable) (noF_fewer) 20 300 [2, 3, 9, 16, 19, 22] 2 ⟨.qops (opsOf (sub B21 [1, 0])) (((opsOf (sub B21 [1, 0])).toList.take 57).drop 18), [.tail (opsOf (sub B21 [1, 0])) ((opsOf (sub B21 [1, 0])).toList.drop 57), .seq (sub B21 [1, 1])], [(2, .lp 0 0), (3, .lp 1 0), (9, .io .i64 (cmpS (mkB p.key) (mkB q.key))), (16, .io .i64 (cmpI p.st q.st)), (19, .io .i64 p.en), (22, .io .i64 q.en)], [([.so (mkB p.key), .io .i64 p.st, .io .i64 p.en, .io .i64 p.kd, .io .i64 p.nt, .io .i64 p.ct, .io .i64 p.sm, .io .i64 p.mn, .io .i64 p.mx], 29), ([.so (mkB q.key), .io .i64 q.st, .io .i64 q.en, .io .i64 q.kd, .io .i64 q.nt, .io .i64 q.ct, .io .i64 q.sm, .io .i64 q.mn, .io .i64 q.mx], 29)]⟩ (by kernel_rfl) (by kernel_rfl) ?_
  refine At.call noF_stable 50 [.io .i64 p.en, .io .i64 q.en] (.io .i64 (cmpI p.en q.en)) (by kernel_rfl) (by kernel_rfl) (by kernel_rfl) (fun _ _ w1 hi _ => cmp_int p.en q.en w1) ?_
  refine At.to (noF_stable) (noF_fewer) 20 300 [2, 3, 9, 16, 23, 25, 27] 2 ⟨.qops (opsOf (sub B21 [1, 0])) (((opsOf (sub B21 [1, 0])).toList.take 57).drop 23), [.tail (opsOf (sub B21 [1, 0])) ((opsOf (sub B21 [1, 0])).toList.drop 57), .seq (sub B21 [1, 1])], [(2, .lp 0 0), (3, .lp 1 0), (9, .io .i64 (cmpS (mkB p.key) (mkB q.key))), (16, .io .i64 (cmpI p.st q.st)), (23, .io .i64 (cmpI p.en q.en)), (25, .io .i64 p.kd), (27, .io .i64 q.kd)], [([.so (mkB p.key), .io .i64 p.st, .io .i64 p.en, .io .i64 p.kd, .io .i64 p.nt, .io .i64 p.ct, .io .i64 p.sm, .io .i64 p.mn, .io .i64 p.mx], 29), ([.so (mkB q.key), .io .i64 q.st, .io .i64 q.en, .io .i64 q.kd, .io .i64 q.nt, .io .i64 q.ct, .io .i64 q.sm, .io .i64 q.mn, .io .i64 q.mx], 29)]⟩ (by kernel_rfl) (by kernel_rfl) ?_
  refine At.call noF_stable 51 [.io .i64 p.kd, .io .i64 q.kd] (.io .i64 (cmpI p.kd q.kd)) (by kernel_rfl) (by kernel_rfl) (by kernel_rfl) (fun _ _ w1 hi _ => cmp_knd p.kd q.kd w1) ?_
  refine At.to (noF_stable) (noF_fewer) 20 300 [2, 3, 9, 16, 23, 28, 30, 32] 2 ⟨.qops (opsOf (sub B21 [1, 0])) (((opsOf (sub B21 [1, 0])).toList.take 57).drop 28), [.tail (opsOf (sub B21 [1, 0])) ((opsOf (sub B21 [1, 0])).toList.drop 57), .seq (sub B21 [1, 1])], [(2, .lp 0 0), (3, .lp 1 0), (9, .io .i64 (cmpS (mkB p.key) (mkB q.key))), (16, .io .i64 (cmpI p.st q.st)), (23, .io .i64 (cmpI p.en q.en)), (28, .io .i64 (cmpI p.kd q.kd)), (30, .io .i64 p.nt), (32, .io .i64 q.nt)], [([.so (mkB p.key), .io .i64 p.st, .io .i64 p.en, .io .i64 p.kd, .io .i64 p.nt, .io .i64 p.ct, .io .i64 p.sm, .io .i64 p.mn, .io .i64 p.mx], 29), ([.so (mkB q.key), .io .i64 q.st, .io .i64 q.en, .io .i64 q.kd, .io .i64 q.nt, .io .i64 q.ct, .io .i64 q.sm, .io .i64 q.mn, .io .i64 q.mx], 29)]⟩ (by kernel_rfl) (by kernel_rfl) ?_
  refine At.call noF_stable 50 [.io .i64 p.nt, .io .i64 q.nt] (.io .i64 (cmpI p.nt q.nt)) (by kernel_rfl) (by kernel_rfl) (by kernel_rfl) (fun _ _ w1 hi _ => cmp_int p.nt q.nt w1) ?_
  refine At.to (noF_stable) (noF_fewer) 20 300 [2, 3, 9, 16, 23, 28, 33, 36, 39] 2 ⟨.qops (opsOf (sub B21 [1, 0])) (((opsOf (sub B21 [1, 0])).toList.take 57).drop 35), [.tail (opsOf (sub B21 [1, 0])) ((opsOf (sub B21 [1, 0])).toList.drop 57), .seq (sub B21 [1, 1])], [(2, .lp 0 0), (3, .lp 1 0), (9, .io .i64 (cmpS (mkB p.key) (mkB q.key))), (16, .io .i64 (cmpI p.st q.st)), (23, .io .i64 (cmpI p.en q.en)), (28, .io .i64 (cmpI p.kd q.kd)), (33, .io .i64 (cmpI p.nt q.nt)), (36, .io .i64 p.ct), (39, .io .i64 q.ct)], [([.so (mkB p.key), .io .i64 p.st, .io .i64 p.en, .io .i64 p.kd, .io .i64 p.nt, .io .i64 p.ct, .io .i64 p.sm, .io .i64 p.mn, .io .i64 p.mx], 29), ([.so (mkB q.key), .io .i64 q.st, .io .i64 q.en, .io .i64 q.kd, .io .i64 q.nt, .io .i64 q.ct, .io .i64 q.sm, .io .i64 q.mn, .io .i64 q.mx], 29)]⟩ (by kernel_rfl) (by kernel_rfl) ?_
  refine At.call noF_stable 50 [.io .i64 p.ct, .io .i64 q.ct] (.io .i64 (cmpI p.ct q.ct)) (by kernel_rfl) (by kernel_rfl) (by kernel_rfl) (fun _ _ w1 hi _ => cmp_int p.ct q.ct w1) ?_
  refine At.to (noF_stable) (noF_fewer) 20 300 [2, 3, 9, 16, 23, 28, 33, 40, 43, 46] 2 ⟨.qops (opsOf (sub B21 [1, 0])) (((opsOf (sub B21 [1, 0])).toList.take 57).drop 42), [.tail (opsOf (sub B21 [1, 0])) ((opsOf (sub B21 [1, 0])).toList.drop 57), .seq (sub B21 [1, 1])], [(2, .lp 0 0), (3, .lp 1 0), (9, .io .i64 (cmpS (mkB p.key) (mkB q.key))), (16, .io .i64 (cmpI p.st q.st)), (23, .io .i64 (cmpI p.en q.en)), (28, .io .i64 (cmpI p.kd q.kd)), (33, .io .i64 (cmpI p.nt q.nt)), (40, .io .i64 (cmpI p.ct q.ct)), (43, .io .i64 p.sm), (46, .io .i64 q.sm)], [([.so (mkB p.key), .io .i64 p.st, .io .i64 p.en, .io .i64 p.kd, .io .i64 p.nt, .io .i64 p.ct, .io .i64 p.sm, .io .i64 p.mn, .io .i64 p.mx], 29), ([.so (mkB q.key), .io .i64 q.st, .io .i64 q.en, .io .i64 q.kd, .io .i64 q.nt, .io .i64 q.ct, .io .i64 q.sm, .io .i64 q.mn, .io .i64 q.mx], 29)]⟩ (by kernel_rfl) (by kernel_rfl) ?_
  refine At.call noF_stable 50 [.io .i64 p.sm, .io .i64 q.sm] (.io .i64 (cmpI p.sm q.sm)) (by kernel_rfl) (by kernel_rfl) (by kernel_rfl) (fun _ _ w1 hi _ => cmp_int p.sm q.sm w1) ?_
  refine At.to (noF_stable) (noF_fewer) 20 300 [2, 3, 9, 16, 23, 28, 33, 40, 47, 50, 53] 2 ⟨.qops (opsOf (sub B21 [1, 0])) (((opsOf (sub B21 [1, 0])).toList.take 57).drop 49), [.tail (opsOf (sub B21 [1, 0])) ((opsOf (sub B21 [1, 0])).toList.drop 57), .seq (sub B21 [1, 1])], [(2, .lp 0 0), (3, .lp 1 0), (9, .io .i64 (cmpS (mkB p.key) (mkB q.key))), (16, .io .i64 (cmpI p.st q.st)), (23, .io .i64 (cmpI p.en q.en)), (28, .io .i64 (cmpI p.kd q.kd)), (33, .io .i64 (cmpI p.nt q.nt)), (40, .io .i64 (cmpI p.ct q.ct)), (47, .io .i64 (cmpI p.sm q.sm)), (50, .io .i64 p.mn), (53, .io .i64 q.mn)], [([.so (mkB p.key), .io .i64 p.st, .io .i64 p.en, .io .i64 p.kd, .io .i64 p.nt, .io .i64 p.ct, .io .i64 p.sm, .io .i64 p.mn, .io .i64 p.mx], 29), ([.so (mkB q.key), .io .i64 q.st, .io .i64 q.en, .io .i64 q.kd, .io .i64 q.nt, .io .i64 q.ct, .io .i64 q.sm, .io .i64 q.mn, .io .i64 q.mx], 29)]⟩ (by kernel_rfl) (by kernel_rfl) ?_
  refine At.call noF_stable 50 [.io .i64 p.mn, .io .i64 q.mn] (.io .i64 (cmpI p.mn q.mn)) (by kernel_rfl) (by kernel_rfl) (by kernel_rfl) (fun _ _ w1 hi _ => cmp_int p.mn q.mn w1) ?_
  refine At.to (noF_stable) (noF_fewer) 20 300 [9, 16, 23, 28, 33, 40, 47, 54, 57, 60] 0 ⟨.qops (opsOf (sub B21 [1, 0])) (((opsOf (sub B21 [1, 0])).toList.take 57).drop 56), [.tail (opsOf (sub B21 [1, 0])) ((opsOf (sub B21 [1, 0])).toList.drop 57), .seq (sub B21 [1, 1])], [(9, .io .i64 (cmpS (mkB p.key) (mkB q.key))), (16, .io .i64 (cmpI p.st q.st)), (23, .io .i64 (cmpI p.en q.en)), (28, .io .i64 (cmpI p.kd q.kd)), (33, .io .i64 (cmpI p.nt q.nt)), (40, .io .i64 (cmpI p.ct q.ct)), (47, .io .i64 (cmpI p.sm q.sm)), (54, .io .i64 (cmpI p.mn q.mn)), (57, .io .i64 p.mx), (60, .io .i64 q.mx)], []⟩ (by kernel_rfl) (by kernel_rfl) ?_
  refine At.call noF_stable 50 [.io .i64 p.mx, .io .i64 q.mx] (.io .i64 (cmpI p.mx q.mx)) (by kernel_rfl) (by kernel_rfl) (by kernel_rfl) (fun _ _ w1 hi _ => cmp_int p.mx q.mx w1) ?_
  refine At.to (noF_stable) (noF_fewer) 20 300 [62] 1 ⟨pops B21 [1, 0] 58, [.seq (sub B21 [1, 1])], [(62, .ls 0 0 9 9)], [([.io .i64 (cmpS (mkB p.key) (mkB q.key)), .io .i64 (cmpI p.st q.st), .io .i64 (cmpI p.en q.en), .io .i64 (cmpI p.kd q.kd), .io .i64 (cmpI p.nt q.nt), .io .i64 (cmpI p.ct q.ct), .io .i64 (cmpI p.sm q.sm), .io .i64 (cmpI p.mn q.mn), .io .i64 (cmpI p.mx q.mx)], 3)]⟩ (by kernel_rfl) (by kernel_rfl) ?_
  refine At.call noF_stable 48 [.ls 0 0 9 9] (.io .i64 (cmpP p q)) (by kernel_rfl) (by kernel_rfl) (by kernel_rfl) (fun ρ _ w1 hi _ => or_any (nth ρ 0) [cmpS (mkB p.key) (mkB q.key), cmpI p.st q.st, cmpI p.en q.en, cmpI p.kd q.kd, cmpI p.nt q.nt, cmpI p.ct q.ct, cmpI p.sm q.sm, cmpI p.mn q.mn, cmpI p.mx q.mx] 9 rfl (by decide) w1 (hi.mem.cells 0 _ _ rfl)) ?_
  refine At.to (noF_stable) (noF_fewer) 20 300 [4] 0 ⟨.exit .ret, [], [(4, .io .i64 (cmpP p q))], []⟩ (by kernel_rfl) (by kernel_rfl) ?_
  refine At.ret (by kernel_rfl) (.io .i64 (cmpP p q)) (by kernel_rfl) ?_
  intro ρ w9 hm' hf
  exact ⟨rfl, hm'.below⟩

end Go.Proofs.YtkjnbafdmjakgaaDoor
namespace Go.Proofs.YtkjnbafdmjakgaaDoor
open Go.RowKit Go.Sx

def Pn.nums (p : Pn) : List Int := [p.st, p.en, p.nt, p.ct, p.sm, p.mn, p.mx]
def IntsF (b : Nat) (l : List Int) (ρ : List Nat) (w : World) : Prop := (∃ t, w.heap[b]? = some (.cells (l.map fun x => Value.int .i64 x).toArray t (0, 0))) ∧ b ∉ ρ
theorem IntsF.stable {b : Nat} {l : List Int} : Stable (IntsF b l) := fun ρ w ρ' w' hg hk ⟨⟨t, h1⟩, h2⟩ => by
  have hlt := (Array.getElem?_eq_some_iff.1 h1).1
  refine ⟨⟨t, (hk.block b hlt h2).trans h1⟩, fun hm => ?_⟩
  rcases hg.of_mem hm with h | h
  · exact h2 h
  · omega
theorem IntsF.fewer {b : Nat} {l : List Int} : FewerK 0 (IntsF b l) := fun ρ w k _ h => ⟨h.1, fun hm => h.2 (List.mem_of_mem_take hm)⟩
theorem IntsF.cell {b i : Nat} {l : List Int} {x : Int} {ρ : List Nat} {w : World} (h : IntsF b l ρ w) (hx : l[i]? = some x) : w.cell? ((⟨b, 0, none⟩ : Addr).add ((i : Int).toNat * 1)) = some (.int .i64 x) := by
  obtain ⟨⟨t, h1⟩, _⟩ := h
  rw [add_ok, Int.toNat_natCast]
  unfold World.cell?
  rw [h1]
  simp [hx]

noncomputable def B46 : Code := (Tryd.f46.body).getD .skip
set_option maxHeartbeats 4000000 in
set_option maxRecDepth 100000 in
theorem rnumbers_any (p : Pn) (w : World) :
    Calls Tryd.prog 46 #[p.val] w fun e w' => ∃ b, e = .returned (.slice (some ⟨b, 0, none⟩) 7 7) ∧ w'.heap[b]? = some (.cells (p.nums.map fun x => Value.int .i64 x).toArray 2 (0, 0)) ∧ w.heap.size ≤ b ∧ Below w.heap.size w w' := by
  refine enter (fn := Tryd.f46) (c := B46) [.agg (paneL (mkB p.key) p.st p.en p.kd p.nt p.ct p.sm p.mn p.mx)] Tryd.func46 rfl rfl ?_
  refine At.to (noF_stable) (noF_fewer) 20 300 [2] 2 ⟨.exit .ret, [], [(2, .ls 1 0 7 7)], [([.so (mkB p.key), .io .i64 p.st, .io .i64 p.en, .io .i64 p.kd, .io .i64 p.nt, .io .i64 p.ct, .io .i64 p.sm, .io .i64 p.mn, .io .i64 p.mx], 29), ([.io .i64 p.st, .io .i64 p.en, .io .i64 p.nt, .io .i64 p.ct, .io .i64 p.sm, .io .i64 p.mn, .io .i64 p.mx], 2)]⟩ (by kernel_rfl) (by kernel_rfl) ?_
  refine At.ret (by kernel_rfl) (.ls 1 0 7 7) (by kernel_rfl) ?_
  intro ρ w9 hm' hf
  exact ⟨nth ρ 1, rfl, hm'.cells 1 _ _ rfl, (hm'.ge (nth ρ 1) (nth_mem (by rw [hm'.len]; exact Nat.lt_succ_self 1))).1, hm'.below⟩


def rlineV (p : Pn) : Bool → Value
  | true => .tuple #[.string (mkB p.line), .int .i64 0]
  | false => .tuple #[.string ⟨#[]⟩, .int .i64 2]
theorem nums_in {p : Pn} (h : p.in64) {x : Int} (hx : x ∈ p.nums) : in64 x := by
  obtain ⟨h1, h2, h3, h4, h5, h6, h7⟩ := h
  simp only [Pn.nums, List.mem_cons, List.not_mem_nil, or_false] at hx
  rcases hx with rfl | rfl | rfl | rfl | rfl | rfl | rfl <;> assumption
def frL (b : Nat) : Nat × List UInt8 → Fr
  | (i, acc) => [(5, .so (mkB acc)), (6, .sl (some ⟨b, 0, none⟩) 7 7), (7, .io .i64 (i : Int))]
def locL (_ : Nat × List UInt8) : Sx.Loc := []

noncomputable def B18 : Code := (Tryd.f18.body).getD .skip
set_option maxHeartbeats 20000000 in
set_option maxRecDepth 100000 in
theorem rline_any (p : Pn) (hin : p.in64) (w : World) :
    Calls Tryd.prog 18 #[p.val] w fun e w' => e = .returned (rlineV p p.may) ∧ Below w.heap.size w w' := by
  generalize hv : rlineV p p.may = V
  have hv := hv.symm
  refine enter (fn := Tryd.f18) (c := B18) [.agg (paneL (mkB p.key) p.st p.en p.kd p.nt p.ct p.sm p.mn p.mx)] Tryd.func18 rfl rfl ?_
  refine At.to (noF_stable) (noF_fewer) 20 300 [1, 8] 1 ⟨pops B18 [1, 0] 1, [.seq (sub B18 [1, 1])], [(1, .lp 0 0), (8, .agg [.so (mkB p.key), .io .i64 p.st, .io .i64 p.en, .io .i64 p.kd, .io .i64 p.nt, .io .i64 p.ct, .io .i64 p.sm, .io .i64 p.mn, .io .i64 p.mx])], [([.so (mkB p.key), .io .i64 p.st, .io .i64 p.en, .io .i64 p.kd, .io .i64 p.nt, .io .i64 p.ct, .io .i64 p.sm, .io .i64 p.mn, .io .i64 p.mx], 29)]⟩ (by kernel_rfl) (by kernel_rfl) ?_
  cases hmay : p.may with
  | false =>
    refine At.call noF_stable 38 [.agg (paneL (mkB p.key) p.st p.en p.kd p.nt p.ct p.sm p.mn p.mx)] (.v (.bool false)) (by kernel_rfl) (by kernel_rfl) (by kernel_rfl) (fun _ _ w1 hi _ => (rmay_any (mkB p.key) p.st p.en p.kd p.nt p.ct p.sm p.mn p.mx w1).mono fun e w2 h => ⟨h.1.trans (by rw [show mayP (mkB p.key) p.kd = false from hmay]; rfl), h.2⟩) ?_
    refine At.to (noF_stable) (noF_fewer) 20 300 [2, 3] 0 ⟨.exit .ret, [], [(2, .v (.string (ByteArray.mk #[]))), (3, .v (.int .i64 2))], []⟩ (by kernel_rfl) (by kernel_rfl) ?_
    refine At.ret (by kernel_rfl) (.tup [.v (.string (ByteArray.mk #[])), .v (.int .i64 2)]) (by kernel_rfl) ?_
    rw [hv, hmay]
    intro ρ w9 hm' hf
    exact ⟨rfl, hm'.below⟩
  | true =>
    refine At.call noF_stable 38 [.agg (paneL (mkB p.key) p.st p.en p.kd p.nt p.ct p.sm p.mn p.mx)] (.v (.bool true)) (by kernel_rfl) (by kernel_rfl) (by kernel_rfl) (fun _ _ w1 hi _ => (rmay_any (mkB p.key) p.st p.en p.kd p.nt p.ct p.sm p.mn p.mx w1).mono fun e w2 h => ⟨h.1.trans (by rw [show mayP (mkB p.key) p.kd = true from hmay]; rfl), h.2⟩) ?_
    refine At.to (noF_stable) (noF_fewer) 20 300 [1, 13] 1 ⟨pqops B18 [1, 1, 1, 0] 2, [.seq (sub B18 [1, 1, 1, 1])], [(1, .lp 0 0), (13, .so (mkB p.key))], [([.so (mkB p.key), .io .i64 p.st, .io .i64 p.en, .io .i64 p.kd, .io .i64 p.nt, .io .i64 p.ct, .io .i64 p.sm, .io .i64 p.mn, .io .i64 p.mx], 29)]⟩ (by kernel_rfl) (by kernel_rfl) ?_
    rw [hv, hmay]
    obtain ⟨hk, hkd⟩ := may_spec hmay
    have hql := quote_len p.key
    refine At.call noF_stable 45 [.so (mkB p.key)] (.so (mkB (quoteB p.key))) (by kernel_rfl) (by kernel_rfl) (by kernel_rfl) (fun _ _ w1 hi _ => rquote_any p.key (by omega) w1) ?_
    refine At.to (noF_stable) (noF_fewer) 20 300 [1, 14] 1 ⟨pqops B18 [1, 1, 1, 0] 3, [.seq (sub B18 [1, 1, 1, 1])], [(1, .lp 0 0), (14, .so (mkB (quoteB p.key)))], [([.so (mkB p.key), .io .i64 p.st, .io .i64 p.en, .io .i64 p.kd, .io .i64 p.nt, .io .i64 p.ct, .io .i64 p.sm, .io .i64 p.mn, .io .i64 p.mx], 29)]⟩ (by kernel_rfl) (by kernel_rfl) ?_
    refine At.cat (mkB (quoteB p.key)) (mkB [32]) (by kernel_rfl) (by rw [mkB_size, mkB_size, List.length_singleton]; omega) noF_stable ?_
    rw [mkB_app]
    refine At.to (noF_stable) (noF_fewer) 20 300 [1, 15, 17] 1 ⟨pqops B18 [1, 1, 1, 0] 6, [.seq (sub B18 [1, 1, 1, 1])], [(1, .lp 0 0), (15, .so (mkB (quoteB p.key ++ [32]))), (17, .io .i64 p.kd)], [([.so (mkB p.key), .io .i64 p.st, .io .i64 p.en, .io .i64 p.kd, .io .i64 p.nt, .io .i64 p.ct, .io .i64 p.sm, .io .i64 p.mn, .io .i64 p.mx], 29)]⟩ (by kernel_rfl) (by kernel_rfl) ?_
    refine At.call noF_stable 36 [.io .i64 p.kd] (.so (mkB (kindN p.kd))) (by kernel_rfl) (by kernel_rfl) (by kernel_rfl) (fun _ _ w1 hi _ => rname_any p.kd w1) ?_
    refine At.to (noF_stable) (noF_fewer) 20 300 [1, 15, 18] 1 ⟨pqops B18 [1, 1, 1, 0] 7, [.seq (sub B18 [1, 1, 1, 1])], [(1, .lp 0 0), (15, .so (mkB (quoteB p.key ++ [32]))), (18, .so (mkB (kindN p.kd)))], [([.so (mkB p.key), .io .i64 p.st, .io .i64 p.en, .io .i64 p.kd, .io .i64 p.nt, .io .i64 p.ct, .io .i64 p.sm, .io .i64 p.mn, .io .i64 p.mx], 29)]⟩ (by kernel_rfl) (by kernel_rfl) ?_
    have hkn : (kindN p.kd).length ≤ 6 := by rcases hkd with h | h | h <;> rw [h] <;> decide
    refine At.cat (mkB (quoteB p.key ++ [32])) (mkB (kindN p.kd)) (by kernel_rfl) (by rw [mkB_size, mkB_size, List.length_append, List.length_singleton]; omega) noF_stable ?_
    rw [mkB_app]
    refine At.to (noF_stable) (noF_fewer) 20 300 [5, 20] 0 ⟨pops B18 [1, 1, 1, 1, 0] 1, [.seq (sub B18 [1, 1, 1, 1, 1])], [(5, .so (mkB (quoteB p.key ++ [32] ++ kindN p.kd))), (20, .agg [.so (mkB p.key), .io .i64 p.st, .io .i64 p.en, .io .i64 p.kd, .io .i64 p.nt, .io .i64 p.ct, .io .i64 p.sm, .io .i64 p.mn, .io .i64 p.mx])], []⟩ (by kernel_rfl) (by kernel_rfl) ?_
    refine At.callx noF_stable (X := Nat) 46 [.agg (paneL (mkB p.key) p.st p.en p.kd p.nt p.ct p.sm p.mn p.mx)] (fun b => .sl (some ⟨b, 0, none⟩) 7 7) (fun b => IntsF b p.nums) (fun b => IntsF.stable) (by kernel_rfl) (by kernel_rfl) (by kernel_rfl) rfl (fun ρ a w1 hi _ => (rnumbers_any p w1).mono fun e w2 ⟨b, h1, h2, h3, h4⟩ => ⟨b, h1, h4, ⟨_, h2⟩, fun hb => by have := (hi.mem.ge b hb).2; omega⟩) (fun b => ?_)
    refine At.mono (F' := IntsF b p.nums) (fun ρ w1 h => h.2) ?_
    refine At.toJ (IntsF.stable) IntsF.fewer 0 300 [5, 6, 7] 0 ⟨.code (sub B18 [1, 1, 1, 1, 1, 0, 1, 4]), [.block 0, .seq (sub B18 [1, 1, 1, 1, 1, 1])], [(5, .so (mkB (quoteB p.key ++ [32] ++ kindN p.kd))), (6, .sl (some (Addr.mk b 0 none)) 7 7), (7, .v (.int .i64 0))], []⟩ (by kernel_rfl) (by kernel_rfl) ?_
    have hll := line_len hmay hin
    have h0 : quoteB p.key ++ [32] ++ kindN p.kd ++ (p.nums.drop 0).flatMap (fun n => 32 :: Lib.itoa n) = p.line := by simp [Pn.line, lineB, Pn.nums]
    generalize quoteB p.key ++ [32] ++ kindN p.kd = acc0 at h0 ⊢
    refine At.canon _ rfl ?_
    refine At.loop (σ := Nat × List UInt8) (sub B18 [1, 1, 1, 1, 1, 0, 1, 4, 4]) (frL b) locL (fun x ρ w1 => IntsF b p.nums ρ w1 ∧ (x.1 ≤ 7 ∧ x.2 ++ (p.nums.drop x.1).flatMap (fun n => 32 :: Lib.itoa n) = p.line)) (fun x => 7 - x.1) (0, acc0) (by kernel_rfl) (by unfold subFr; kernel_rfl) (by kernel_rfl) (fun _ _ _ _ h => ⟨h, Nat.zero_le _, h0⟩) ?_
    clear h0
    rintro ⟨i, acc⟩
    refine At.pure fun ⟨h1, h2⟩ => ?_
    simp only at h1 h2
    have hacc : acc.length ≤ 1300 := by have := congrArg List.length h2; rw [List.length_append] at this; omega
    refine At.toJ (IntsF.stable) IntsF.fewer 0 300 [5, 6, 7, 25] 0 ⟨.code (sub B18 [1, 1, 1, 1, 1, 0, 1, 4, 4, 0, 1]), [.seq (sub B18 [1, 1, 1, 1, 1, 0, 1, 4, 4, 1]), .next (Sx.Next w.heap.size w Tryd.f18.ntmps (frL b) locL (fun x ρ w1 => IntsF b p.nums ρ w1 ∧ x.fst ≤ 7 ∧ x.snd ++ List.flatMap (fun n => 32 :: Lib.itoa n) (List.drop x.fst p.nums) = p.line) (fun x => 7 - x.fst) (i, acc)), .block 0, .seq (sub B18 [1, 1, 1, 1, 1, 1])], [(5, .so (mkB acc)), (6, .sl (some (Addr.mk b 0 none)) 7 7), (7, .io .i64 (↑i : Int)), (25, .bo (decide ((↑i : Int) < (↑7 : Int))))], []⟩ (by kernel_rfl) (by kernel_rfl) ?_
    rcases Bool.eq_false_or_eq_true (decide ((↑i : Int) < 7)) with b0 | b0
    · refine At.res 25 (decide ((↑i : Int) < 7)) true (by kernel_rfl) b0 ?_
      refine At.toJ (IntsF.stable) IntsF.fewer 0 300 [6, 7, 28] 0 ⟨pops B18 [1, 1, 1, 1, 1, 0, 1, 4, 4, 1, 0, 4] 1, [.block 1, .seq (sub B18 [1, 1, 1, 1, 1, 0, 1, 4, 4, 1, 1]), .next (Sx.Next w.heap.size w Tryd.f18.ntmps (frL b) locL (fun x ρ w1 => IntsF b p.nums ρ w1 ∧ x.fst ≤ 7 ∧ x.snd ++ List.flatMap (fun n => 32 :: Lib.itoa n) (List.drop x.fst p.nums) = p.line) (fun x => 7 - x.fst) (i, acc)), .block 0, .seq (sub B18 [1, 1, 1, 1, 1, 1])], [(6, .sl (some (Addr.mk b 0 none)) 7 7), (7, .io .i64 (↑i : Int)), (28, .so (mkB acc))], []⟩ (by kernel_rfl) (by kernel_rfl) ?_
      have hi : i < 7 := by have := of_decide_eq_true b0; omega
      clear b0
      obtain ⟨x, hx⟩ : ∃ x, p.nums[i]? = some x := ⟨_, List.getElem?_eq_getElem (show i < 7 from hi)⟩
      have hx64 : in64 x := nums_in hin (List.mem_of_getElem? hx)
      have hxl := itoa_short hx64
      rw [drop_at hx, List.flatMap_cons] at h2
      refine At.cat (mkB acc) (mkB [32]) (by kernel_rfl) (by rw [mkB_size, mkB_size, List.length_singleton]; omega) IntsF.stable ?_
      rw [mkB_app]
      refine At.toJ (IntsF.stable) IntsF.fewer 0 300 [6, 7, 29, 30, 31] 0 ⟨pops B18 [1, 1, 1, 1, 1, 0, 1, 4, 4, 1, 0, 4] 4, [.block 1, .seq (sub B18 [1, 1, 1, 1, 1, 0, 1, 4, 4, 1, 1]), .next (Sx.Next w.heap.size w Tryd.f18.ntmps (frL b) locL (fun x ρ w1 => IntsF b p.nums ρ w1 ∧ x.fst ≤ 7 ∧ x.snd ++ List.flatMap (fun n => 32 :: Lib.itoa n) (List.drop x.fst p.nums) = p.line) (fun x => 7 - x.fst) (i, acc)), .block 0, .seq (sub B18 [1, 1, 1, 1, 1, 1])], [(6, .sl (some (Addr.mk b 0 none)) 7 7), (7, .io .i64 (↑i : Int)), (29, .so (mkB (acc ++ [32]))), (30, .sl (some (Addr.mk b 0 none)) 7 7), (31, .io .i64 (↑i : Int))], []⟩ (by kernel_rfl) (by kernel_rfl) ?_
      refine At.idx ⟨b, 0, none⟩ 7 1 (i : Int) (by kernel_rfl) (by omega) (by omega) IntsF.stable ?_
      refine At.ldx ((⟨b, 0, none⟩ : Addr).add ((i : Int).toNat * 1)) (.io .i64 x) (by kernel_rfl) IntsF.stable (fun ρ w1 _ hf => hf.cell hx) ?_
      refine At.toJ (IntsF.stable) IntsF.fewer 0 300 [6, 7, 29, 33] 0 ⟨pops B18 [1, 1, 1, 1, 1, 0, 1, 4, 4, 1, 0, 4] 6, [.block 1, .seq (sub B18 [1, 1, 1, 1, 1, 0, 1, 4, 4, 1, 1]), .next (Sx.Next w.heap.size w Tryd.f18.ntmps (frL b) locL (fun x ρ w1 => IntsF b p.nums ρ w1 ∧ x.fst ≤ 7 ∧ x.snd ++ List.flatMap (fun n => 32 :: Lib.itoa n) (List.drop x.fst p.nums) = p.line) (fun x => 7 - x.fst) (i, acc)), .block 0, .seq (sub B18 [1, 1, 1, 1, 1, 1])], [(6, .sl (some (Addr.mk b 0 none)) 7 7), (7, .io .i64 (↑i : Int)), (29, .so (mkB (acc ++ [32]))), (33, .io .i64 x)], []⟩ (by kernel_rfl) (by kernel_rfl) ?_
      refine At.call IntsF.stable 47 [.io .i64 x] (.so (mkB (Lib.itoa x))) (by kernel_rfl) (by kernel_rfl) (by kernel_rfl) (fun _ _ w1 hi _ => rdigits_any x hx64 w1) ?_
      refine At.toJ (IntsF.stable) IntsF.fewer 0 300 [6, 7, 29, 34] 0 ⟨pops B18 [1, 1, 1, 1, 1, 0, 1, 4, 4, 1, 0, 4] 7, [.block 1, .seq (sub B18 [1, 1, 1, 1, 1, 0, 1, 4, 4, 1, 1]), .next (Sx.Next w.heap.size w Tryd.f18.ntmps (frL b) locL (fun x ρ w1 => IntsF b p.nums ρ w1 ∧ x.fst ≤ 7 ∧ x.snd ++ List.flatMap (fun n => 32 :: Lib.itoa n) (List.drop x.fst p.nums) = p.line) (fun x => 7 - x.fst) (i, acc)), .block 0, .seq (sub B18 [1, 1, 1, 1, 1, 1])], [(6, .sl (some (Addr.mk b 0 none)) 7 7), (7, .io .i64 (↑i : Int)), (29, .so (mkB (acc ++ [32]))), (34, .so (mkB (Lib.itoa x)))], []⟩ (by kernel_rfl) (by kernel_rfl) ?_
      refine At.cat (mkB (acc ++ [32])) (mkB (Lib.itoa x)) (by kernel_rfl) (by rw [mkB_size, mkB_size, List.length_append, List.length_singleton]; omega) IntsF.stable ?_
      rw [mkB_app]
      refine At.toJ (IntsF.stable) IntsF.fewer 0 300 [5, 6, 7] 0 ⟨.exit .normal, [.next (Sx.Next w.heap.size w Tryd.f18.ntmps (frL b) locL (fun x ρ w1 => IntsF b p.nums ρ w1 ∧ x.fst ≤ 7 ∧ x.snd ++ List.flatMap (fun n => 32 :: Lib.itoa n) (List.drop x.fst p.nums) = p.line) (fun x => 7 - x.fst) (i, acc)), .block 0, .seq (sub B18 [1, 1, 1, 1, 1, 1])], [(5, .so (mkB (acc ++ [32] ++ Lib.itoa x))), (6, .sl (some (Addr.mk b 0 none)) 7 7), (7, .io .i64 (IntKind.i64.wrap ((↑i : Int) + 1)))], []⟩ (by kernel_rfl) (by kernel_rfl) ?_
      have hw3 : IntKind.i64.wrap ((i : Int) + 1) = ((i + 1 : Nat) : Int) := by
        rw [wrap63 (by omega) (by omega)]
        omega
      rw [hw3]
      refine At.next (σ := Nat × List UInt8) (i + 1, acc ++ [32] ++ Lib.itoa x) rfl rfl (by unfold subFr; kernel_rfl) (by kernel_rfl) ?_ ?_
      · intro ρ a' w' hi' hf
        exact ⟨hf, by simp only; omega, by rw [← h2]; simp⟩
      · show 7 - (i + 1) < 7 - i
        omega
    · refine At.res 25 (decide ((↑i : Int) < 7)) false (by kernel_rfl) b0 ?_
      refine At.toJ (IntsF.stable) IntsF.fewer 0 300 [2, 3] 0 ⟨.exit .ret, [], [(2, .so (mkB acc)), (3, .v (.int .i64 0))], []⟩ (by kernel_rfl) (by kernel_rfl) ?_
      refine At.ret (by kernel_rfl) (.tup [.so (mkB acc), .v (.int .i64 0)]) (by kernel_rfl) ?_
      have hi : ¬ i < 7 := by have := of_decide_eq_false b0; omega
      rw [List.drop_eq_nil_of_le (show 7 ≤ i by omega), List.flatMap_nil, List.append_nil] at h2
      rw [h2]
      intro ρ w9 hm' hf
      exact ⟨rfl, hm'.below⟩

end Go.Proofs.YtkjnbafdmjakgaaDoor
