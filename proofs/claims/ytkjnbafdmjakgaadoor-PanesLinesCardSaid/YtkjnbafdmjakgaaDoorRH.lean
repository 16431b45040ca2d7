import Derived.Test.YtkjnbafdmjakgaaDoorRG
set_option linter.unusedSimpArgs false
set_option linter.unusedVariables false
namespace Go.Proofs.YtkjnbafdmjakgaaDoor
open Go.RowKit Go.Sx

theorem row_some {w : World} {base e size n c : Nat} {A : Option Addr} {xs : List Value} (h : w.ownsRow base e size (.slice A n c) n xs) (hn : 0 < n) : ∃ a, A = some a := by
  rcases h.2 with ⟨_, h'⟩ | ⟨g, cap, cur, hv, _⟩
  · omega
  · injection hv with hv _ _
    exact ⟨_, hv⟩
theorem cells_len (p : Pn) : p.cells.length = 9 := rfl
theorem pv_at : ∀ {ps : List Pn} {i : Nat} {p : Pn} {j : Nat} {v : Value}, ps[i]? = some p → p.cells[j]? = some v → (pv ps)[i * 9 + j]? = some v
  | [], i, p, j, v, h, _ => by simp at h
  | x :: ps, 0, p, j, v, h, hj => by
    simp only [List.getElem?_cons_zero, Option.some.injEq] at h
    subst h
    have hl := (List.getElem?_eq_some_iff.1 hj).1
    rw [show pv (x :: ps) = x.cells ++ pv ps by simp [pv], Nat.zero_mul, Nat.zero_add, List.getElem?_append_left hl]
    exact hj
  | x :: ps, i + 1, p, j, v, h, hj => by
    rw [show pv (x :: ps) = x.cells ++ pv ps by simp [pv], List.getElem?_append_right (by rw [cells_len]; omega), cells_len, show (i + 1) * 9 + j - 9 = i * 9 + j by omega]
    exact pv_at (by simpa using h) hj
theorem row_pane {w w1 : World} {base e n c i j : Nat} {a : Addr} {ps : List Pn} {p : Pn} {ρ : List Nat} {v : Value} (h : w.ownsRow base e 9 (.slice (some a) n c) n (pv ps)) (hb : Below w.heap.size w w1) (hp : ps[i]? = some p)
    (hj : (SV.denL ρ (paneL (mkB p.key) p.st p.en p.kd p.nt p.ct p.sm p.mn p.mx))[j]? = some v) : w1.cell? ((a.add ((i : Int).toNat * 9)).add j) = some v := by
  have hj : p.cells[j]? = some v := hj
  have hjl := (List.getElem?_eq_some_iff.1 hj).1
  have hx := pv_at hp hj
  have hlt := (List.getElem?_eq_some_iff.1 hx).1
  rw [h.1] at hlt
  have ha : a = ⟨a.block, 0, none⟩ := by
    rcases h.2 with ⟨h', _⟩ | ⟨g, cap, cur, hv, _⟩
    · cases h'
    · injection hv with hv _ _
      injection hv with hv
      rw [hv]
  generalize hg : a.block = g at ha
  subst ha
  rw [add_ok, add_ok, Int.toNat_natCast, Nat.zero_add]
  exact cell_below ((h.cellAt (i * 9 + j) hlt).trans hx) hb
def frS (A B : Option Addr) (n c d i : Nat) : Fr := [(0, .sl A n c), (1, .sl B n d), (5, .io .i64 (i : Int))]
def locS (_ : Nat) : Sx.Loc := []
instance : DecidableEq Pn := fun p q => decidable_of_iff (p.key = q.key ∧ p.st = q.st ∧ p.en = q.en ∧ p.kd = q.kd ∧ p.nt = q.nt ∧ p.ct = q.ct ∧ p.sm = q.sm ∧ p.mn = q.mn ∧ p.mx = q.mx) (by cases p; cases q; simp)
theorem pane_beq (p q : Pn) : ((mkB p.key).toList == (mkB q.key).toList && (p.st == q.st && (p.en == q.en && true) && (p.kd == q.kd && (p.nt == q.nt && (p.ct == q.ct && (p.sm == q.sm && (p.mn == q.mn && (p.mx == q.mx && true))) && true))))) = decide (p = q) := by
  rw [str_beq, Bool.eq_iff_iff]
  cases p
  cases q
  simp [and_assoc]

noncomputable def B12 : Code := (Tryd.f12.body).getD .skip
set_option maxHeartbeats 20000000 in
set_option maxRecDepth 100000 in
theorem same_any {A B : Option Addr} {n m c d base1 base2 : Nat} {ps qs : List Pn} (w : World) (hA : w.ownsRow base1 29 9 (.slice A n c) n (pv ps)) (hB : w.ownsRow base2 29 9 (.slice B m d) m (pv qs)) (hn : n = ps.length) (hm : m = qs.length) (hbig : n ≤ 1048576) :
    Calls Tryd.prog 12 #[.slice A n c, .slice B m d] w fun e w' => e = .returned (.bool (decide (ps = qs))) ∧ Below w.heap.size w w' := by
  refine enter (fn := Tryd.f12) (c := B12) [.sl A n c, .sl B m d] Tryd.func12 rfl rfl ?_
  refine At.to (noF_stable) (noF_fewer) 0 300 [0, 1, 10] 0 ⟨.code (sub B12 [1, 0, 1]), [.seq (sub B12 [1, 1])], [(0, .sl A n c), (1, .sl B m d), (10, .bo ((↑n : Int) != (↑m : Int)))], []⟩ (by kernel_rfl) (by kernel_rfl) ?_
  rcases Bool.eq_false_or_eq_true ((↑n : Int) != (↑m : Int)) with b0 | b0
  · refine At.res 10 ((↑n : Int) != (↑m : Int)) true (by kernel_rfl) b0 ?_
    refine At.to (noF_stable) (noF_fewer) 0 300 [4] 0 ⟨.exit .ret, [], [(4, .v (.bool false))], []⟩ (by kernel_rfl) (by kernel_rfl) ?_
    refine At.ret (by kernel_rfl) (.v (.bool false)) (by kernel_rfl) ?_
    have hne : n ≠ m := fun e => by simp [e] at b0
    intro ρ w9 hm' hf
    exact ⟨by rw [show decide (ps = qs) = false from decide_eq_false fun e => hne (by rw [hn, hm, e])]; rfl, hm'.below⟩
  · refine At.res 10 ((↑n : Int) != (↑m : Int)) false (by kernel_rfl) b0 ?_
    refine At.to (noF_stable) (noF_fewer) 0 300 [0, 1, 5] 0 ⟨.code (sub B12 [1, 1, 0, 1, 4]), [.block 0, .seq (sub B12 [1, 1, 1])], [(0, .sl A n c), (1, .sl B m d), (5, .v (.int .i64 0))], []⟩ (by kernel_rfl) (by kernel_rfl) ?_
    have hnm : n = m := Int.ofNat.inj (show (n : Int) = (m : Int) by simpa using b0)
    clear b0
    subst hnm
    refine At.canon _ rfl ?_
    refine At.loop (σ := Nat) (sub B12 [1, 1, 0, 1, 4, 4]) (frS A B n c d) locS (fun i _ _ => i ≤ n ∧ ∀ k, k < i → ps[k]? = qs[k]?) (fun i => n - i) 0 (by kernel_rfl) (by unfold subFr; kernel_rfl) (by kernel_rfl) (fun _ _ _ _ h => ⟨Nat.zero_le _, fun k hk => absurd hk (Nat.not_lt_zero k)⟩) ?_
    intro i
    refine At.mono (F' := fun ρ w => noF ρ w ∧ (i ≤ n ∧ ∀ k, k < i → ps[k]? = qs[k]?)) (fun ρ w h => ⟨trivial, h⟩) ?_
    refine At.pure fun ⟨h1, h2⟩ => ?_
    refine At.to (noF_stable) (noF_fewer) 0 300 [0, 1, 5, 14] 0 ⟨.code (sub B12 [1, 1, 0, 1, 4, 4, 0, 1]), [.seq (sub B12 [1, 1, 0, 1, 4, 4, 1]), .next (Sx.Next w.heap.size w Tryd.f12.ntmps (frS A B n c d) locS (fun i x x_1 => i ≤ n ∧ ∀ (k : Nat), k < i → ps[k]? = qs[k]?) (fun i => n - i) i), .block 0, .seq (sub B12 [1, 1, 1])], [(0, .sl A n c), (1, .sl B n d), (5, .io .i64 (↑i : Int)), (14, .bo (decide ((↑i : Int) < (↑n : Int))))], []⟩ (by kernel_rfl) (by kernel_rfl) ?_
    rcases Bool.eq_false_or_eq_true (decide ((↑i : Int) < (↑n : Int))) with b0 | b0
    · refine At.res 14 (decide ((↑i : Int) < (↑n : Int))) true (by kernel_rfl) b0 ?_
      refine At.to (noF_stable) (noF_fewer) 0 300 [0, 1, 5, 17, 18] 0 ⟨pqops B12 [1, 1, 0, 1, 4, 4, 1, 0, 4, 0] 2, [.seq (sub B12 [1, 1, 0, 1, 4, 4, 1, 0, 4, 1]), .block 1, .seq (sub B12 [1, 1, 0, 1, 4, 4, 1, 1]), .next (Sx.Next w.heap.size w Tryd.f12.ntmps (frS A B n c d) locS (fun i x x_1 => i ≤ n ∧ ∀ (k : Nat), k < i → ps[k]? = qs[k]?) (fun i => n - i) i), .block 0, .seq (sub B12 [1, 1, 1])], [(0, .sl A n c), (1, .sl B n d), (5, .io .i64 (↑i : Int)), (17, .sl A n c), (18, .io .i64 (↑i : Int))], []⟩ (by kernel_rfl) (by kernel_rfl) ?_
      have hi : i < n := by have := of_decide_eq_true b0; omega
      clear b0
      obtain ⟨p, hp⟩ : ∃ p, ps[i]? = some p := ⟨_, List.getElem?_eq_getElem (by omega)⟩
      obtain ⟨q, hq⟩ : ∃ q, qs[i]? = some q := ⟨_, List.getElem?_eq_getElem (by omega)⟩
      obtain ⟨a, rfl⟩ := row_some hA (by omega)
      obtain ⟨b, rfl⟩ := row_some hB (by omega)
      refine At.idx a n 9 (i : Int) (by kernel_rfl) (by omega) (by omega) noF_stable ?_
      refine At.lda (a.add ((i : Int).toNat * 9)) 9 (paneL (mkB p.key) p.st p.en p.kd p.nt p.ct p.sm p.mn p.mx) (by kernel_rfl) rfl noF_stable (fun ρ w1 hm' hf j v hj => row_pane hA hm'.below hp hj) ?_
      refine At.to (noF_stable) (noF_fewer) 0 300 [0, 1, 5, 20, 21, 22] 0 ⟨pqops B12 [1, 1, 0, 1, 4, 4, 1, 0, 4, 0] 6, [.seq (sub B12 [1, 1, 0, 1, 4, 4, 1, 0, 4, 1]), .block 1, .seq (sub B12 [1, 1, 0, 1, 4, 4, 1, 1]), .next (Sx.Next w.heap.size w Tryd.f12.ntmps (frS (some a) (some b) n c d) locS (fun i x x_1 => i ≤ n ∧ ∀ (k : Nat), k < i → ps[k]? = qs[k]?) (fun i => n - i) i), .block 0, .seq (sub B12 [1, 1, 1])], [(0, .sl (some a) n c), (1, .sl (some b) n d), (5, .io .i64 (↑i : Int)), (20, .agg [.so (mkB p.key), .io .i64 p.st, .io .i64 p.en, .io .i64 p.kd, .io .i64 p.nt, .io .i64 p.ct, .io .i64 p.sm, .io .i64 p.mn, .io .i64 p.mx]), (21, .sl (some b) n d), (22, .io .i64 (↑i : Int))], []⟩ (by kernel_rfl) (by kernel_rfl) ?_
      refine At.idx b n 9 (i : Int) (by kernel_rfl) (by omega) (by omega) noF_stable ?_
      refine At.lda (b.add ((i : Int).toNat * 9)) 9 (paneL (mkB q.key) q.st q.en q.kd q.nt q.ct q.sm q.mn q.mx) (by kernel_rfl) rfl noF_stable (fun ρ w1 hm' hf j v hj => row_pane hB hm'.below hq hj) ?_
      refine At.to (noF_stable) (noF_fewer) 0 300 [0, 1, 5, 25] 0 ⟨.code (sub B12 [1, 1, 0, 1, 4, 4, 1, 0, 4, 1]), [.block 1, .seq (sub B12 [1, 1, 0, 1, 4, 4, 1, 1]), .next (Sx.Next w.heap.size w Tryd.f12.ntmps (frS (some a) (some b) n c d) locS (fun i x x_1 => i ≤ n ∧ ∀ (k : Nat), k < i → ps[k]? = qs[k]?) (fun i => n - i) i), .block 0, .seq (sub B12 [1, 1, 1])], [(0, .sl (some a) n c), (1, .sl (some b) n d), (5, .io .i64 (↑i : Int)), (25, .bo !((mkB p.key).toList == (mkB q.key).toList && (p.st == q.st && (p.en == q.en && true) && (p.kd == q.kd && (p.nt == q.nt && (p.ct == q.ct && (p.sm == q.sm && (p.mn == q.mn && (p.mx == q.mx && true))) && true))))))], []⟩ (by kernel_rfl) (by kernel_rfl) ?_
      rcases Bool.eq_false_or_eq_true (!((mkB p.key).toList == (mkB q.key).toList && (p.st == q.st && (p.en == q.en && true) && (p.kd == q.kd && (p.nt == q.nt && (p.ct == q.ct && (p.sm == q.sm && (p.mn == q.mn && (p.mx == q.mx && true))) && true)))))) with b0 | b0
      · refine At.res 25 (!((mkB p.key).toList == (mkB q.key).toList && (p.st == q.st && (p.en == q.en && true) && (p.kd == q.kd && (p.nt == q.nt && (p.ct == q.ct && (p.sm == q.sm && (p.mn == q.mn && (p.mx == q.mx && true))) && true)))))) true (by kernel_rfl) b0 ?_
        refine At.to (noF_stable) (noF_fewer) 0 300 [4] 0 ⟨.exit .ret, [], [(4, .v (.bool false))], []⟩ (by kernel_rfl) (by kernel_rfl) ?_
        refine At.ret (by kernel_rfl) (.v (.bool false)) (by kernel_rfl) ?_
        rw [pane_beq] at b0
        have hne : p ≠ q := by simpa using b0
        intro ρ w9 hm' hf
        exact ⟨by rw [show decide (ps = qs) = false from decide_eq_false fun e => hne (by rw [e, hq] at hp; exact (Option.some.inj hp).symm)]; rfl, hm'.below⟩
      · refine At.res 25 (!((mkB p.key).toList == (mkB q.key).toList && (p.st == q.st && (p.en == q.en && true) && (p.kd == q.kd && (p.nt == q.nt && (p.ct == q.ct && (p.sm == q.sm && (p.mn == q.mn && (p.mx == q.mx && true))) && true)))))) false (by kernel_rfl) b0 ?_
        refine At.to (noF_stable) (noF_fewer) 0 300 [0, 1, 5] 0 ⟨.exit .normal, [.next (Sx.Next w.heap.size w Tryd.f12.ntmps (frS (some a) (some b) n c d) locS (fun i x x_1 => i ≤ n ∧ ∀ (k : Nat), k < i → ps[k]? = qs[k]?) (fun i => n - i) i), .block 0, .seq (sub B12 [1, 1, 1])], [(0, .sl (some a) n c), (1, .sl (some b) n d), (5, .io .i64 (IntKind.i64.wrap ((↑i : Int) + 1)))], []⟩ (by kernel_rfl) (by kernel_rfl) ?_
        rw [pane_beq] at b0
        have heq : p = q := by simpa using b0
        subst heq
        have hw3 : IntKind.i64.wrap ((i : Int) + 1) = ((i + 1 : Nat) : Int) := by
          rw [wrap63 (by omega) (by omega)]
          omega
        rw [hw3]
        refine At.next (σ := Nat) (i + 1) rfl rfl (by unfold subFr; kernel_rfl) (by kernel_rfl) ?_ ?_
        · intro ρ a' w' hi' hf
          refine ⟨by omega, fun k hk => ?_⟩
          by_cases hki : k = i
          · subst hki
            rw [hp, hq]
          · exact h2 k (by omega)
        · show n - (i + 1) < n - i
          omega
    · refine At.res 14 (decide ((↑i : Int) < (↑n : Int))) false (by kernel_rfl) b0 ?_
      refine At.to (noF_stable) (noF_fewer) 0 300 [4] 0 ⟨.exit .ret, [], [(4, .v (.bool true))], []⟩ (by kernel_rfl) (by kernel_rfl) ?_
      refine At.ret (by kernel_rfl) (.v (.bool true)) (by kernel_rfl) ?_
      have hi : ¬ (i : Int) < (n : Int) := of_decide_eq_false b0
      intro ρ w9 hm' hf
      exact ⟨by rw [show decide (ps = qs) = true from decide_eq_true (List.ext_getElem? fun k => if hk : k < i then h2 k hk else by rw [List.getElem?_eq_none (by omega), List.getElem?_eq_none (by omega)])]; rfl, hm'.below⟩

end Go.Proofs.YtkjnbafdmjakgaaDoor
