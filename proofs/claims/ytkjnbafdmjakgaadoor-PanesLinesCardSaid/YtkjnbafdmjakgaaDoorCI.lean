/- Joined texts: CG, CH, CI. -/
import Derived.Test.YtkjnbafdmjakgaaDoorCC
import Derived.Test.YtkjnbafdmjakgaaDoorBS
set_option linter.unusedSimpArgs false
set_option linter.unusedVariables false
namespace Go.Proofs.YtkjnbafdmjakgaaDoor
open Go.RowKit Go.Sx

theorem row_sl {w : World} {base n c : Nat} {A : Option Addr} {ps : List Pn} (h : w.ownsRow base 29 9 (.slice A n c) n (pv ps)) : SlP w A n ps := by
  have hl := h.1
  rw [pv_len] at hl
  refine ⟨by omega, fun e => ?_, fun a ha j u hj => ?_⟩
  · rcases h.2 with ⟨_, h0⟩ | ⟨g, cap, cur, hv, _⟩
    · exact List.length_eq_zero_iff.1 (by omega)
    · rw [e] at hv; injection hv with hv _ _; cases hv
  · subst ha
    have hlt := (List.getElem?_eq_some_iff.1 hj).1
    rw [h.1] at hlt
    have ha : a = ⟨a.block, 0, none⟩ := by
      rcases h.2 with ⟨h', _⟩ | ⟨g, cap, cur, hv, _⟩
      · cases h'
      · injection hv with hv _ _
        injection hv with hv
        rw [hv]
    generalize hg : a.block = g at ha
    subst ha
    rw [add_ok, Nat.zero_add]
    exact (h.cellAt j hlt).trans hj
theorem SlP.below {w w' : World} {A : Option Addr} {n : Nat} {ps : List Pn} (h : SlP w A n ps) (hb : Below w.heap.size w w') : SlP w' A n ps := ⟨h.1, h.2.1, fun a ha => src_low (h.2.2 a ha) hb⟩

set_option maxHeartbeats 20000000 in
set_option maxRecDepth 100000 in
theorem same_sl {A B : Option Addr} {n m c d : Nat} {ps qs : List Pn} (w : World) (hA : SlP w A n ps) (hB : SlP w B m qs) (hbig : n ≤ 1048576) :
    Calls Tryd.prog 12 #[.slice A n c, .slice B m d] w fun e w' => e = .returned (.bool (decide (ps = qs))) ∧ Below w.heap.size w w' := by
  refine enter (fn := Tryd.f12) (c := B12) [.sl A n c, .sl B m d] Tryd.func12 rfl rfl ?_
  refine At.to (noF_stable) (noF_fewer) 0 300 [0, 1, 10] 0 ⟨.code (sub B12 [1, 0, 1]), [.seq (sub B12 [1, 1])], [(0, .sl A n c), (1, .sl B m d), (10, .bo ((↑n : Int) != (↑m : Int)))], []⟩ (by kernel_rfl) (by kernel_rfl) ?_
  rcases Bool.eq_false_or_eq_true ((↑n : Int) != (↑m : Int)) with b0 | b0
  · refine At.res 10 ((↑n : Int) != (↑m : Int)) true (by kernel_rfl) b0 ?_
    refine At.to (noF_stable) (noF_fewer) 0 300 [4] 0 ⟨.exit .ret, [], [(4, .v (.bool false))], []⟩ (by kernel_rfl) (by kernel_rfl) ?_
    refine At.ret (by kernel_rfl) (.v (.bool false)) (by kernel_rfl) ?_
    have hne : n ≠ m := fun e => by simp [e] at b0
    intro ρ w9 hm' hf
    exact ⟨by rw [show decide (ps = qs) = false from decide_eq_false fun e => hne (by rw [← hA.1, ← hB.1, e])]; rfl, hm'.below⟩
  · refine At.res 10 ((↑n : Int) != (↑m : Int)) false (by kernel_rfl) b0 ?_
    refine At.to (noF_stable) (noF_fewer) 0 300 [0, 1, 5] 0 ⟨.code (sub B12 [1, 1, 0, 1, 4]), [.block 0, .seq (sub B12 [1, 1, 1])], [(0, .sl A n c), (1, .sl B m d), (5, .v (.int .i64 0))], []⟩ (by kernel_rfl) (by kernel_rfl) ?_
    have hnm : n = m := Int.ofNat.inj (show (n : Int) = (m : Int) by simpa using b0)
    clear b0
    subst hnm
    refine At.canon _ rfl ?_
    refine At.loop (σ := Nat) (sub B12 [1, 1, 0, 1, 4, 4]) (frS A B n c d) locS (fun i _ _ => i ≤ n ∧ ∀ k, k < i → ps[k]? = qs[k]?) (fun i => n - i) 0 (by kernel_rfl) (by unfold subFr; kernel_rfl) (by kernel_rfl) (fun _ _ _ _ h => ⟨Nat.zero_le _, fun k hk => absurd hk (Nat.not_lt_zero k)⟩) ?_
    intro i
    refine At.mono (F' := fun ρ w => noF ρ w ∧ (i ≤ n ∧ ∀ k, k < i → ps[k]? = qs[k]?)) (fun ρ w h => ⟨trivial, h⟩) ?_
    refine At.pure fun ⟨h1, h2⟩ => ?_
    refine At.to (noF_stable) (noF_fewer) 0 300 [0, 1, 5, 14] 0 ⟨.code (sub B12 [1, 1, 0, 1, 4, 4, 0, 1]), [.seq (sub B12 [1, 1, 0, 1, 4, 4, 1]), .next (Sx.Next w.heap.size w Tryd.f12.ntmps (frS A B n c d) locS (fun i x x_1 => i ≤ n ∧ ∀ (k : Nat), k < i → ps[k]? = qs[k]?) (fun i => n - i) i), .block 0, .seq (sub B12 [1, 1, 1])], [(0, .sl A n c), (1, .sl B n d), (5, .io .i64 (↑i : Int)), (14, .bo (decide ((↑i : Int) < (↑n : Int))))], []⟩ (by kernel_rfl) (by kernel_rfl) ?_
    rcases Bool.eq_false_or_eq_true (decide ((↑i : Int) < (↑n : Int))) with b0 | b0
    · refine At.res 14 (decide ((↑i : Int) < (↑n : Int))) true (by kernel_rfl) b0 ?_
      refine At.to (noF_stable) (noF_fewer) 0 300 [0, 1, 5, 17, 18] 0 ⟨pqops B12 [1, 1, 0, 1, 4, 4, 1, 0, 4, 0] 2, [.seq (sub B12 [1, 1, 0, 1, 4, 4, 1, 0, 4, 1]), .block 1, .seq (sub B12 [1, 1, 0, 1, 4, 4, 1, 1]), .next (Sx.Next w.heap.size w Tryd.f12.ntmps (frS A B n c d) locS (fun i x x_1 => i ≤ n ∧ ∀ (k : Nat), k < i → ps[k]? = qs[k]?) (fun i => n - i) i), .block 0, .seq (sub B12 [1, 1, 1])], [(0, .sl A n c), (1, .sl B n d), (5, .io .i64 (↑i : Int)), (17, .sl A n c), (18, .io .i64 (↑i : Int))], []⟩ (by kernel_rfl) (by kernel_rfl) ?_
      have hi : i < n := by have := of_decide_eq_true b0; omega
      clear b0
      obtain ⟨p, hp⟩ : ∃ p, ps[i]? = some p := ⟨_, List.getElem?_eq_getElem (by rw [hA.1]; exact hi)⟩
      obtain ⟨q, hq⟩ : ∃ q, qs[i]? = some q := ⟨_, List.getElem?_eq_getElem (by rw [hB.1]; exact hi)⟩
      obtain ⟨a, rfl⟩ := hA.some (by omega)
      obtain ⟨b, rfl⟩ := hB.some (by omega)
      refine At.idx a n 9 (i : Int) (by kernel_rfl) (by omega) (by omega) noF_stable ?_
      refine At.lda (a.add ((i : Int).toNat * 9)) 9 (paneL (mkB p.key) p.st p.en p.kd p.nt p.ct p.sm p.mn p.mx) (by kernel_rfl) rfl noF_stable (fun ρ w1 hm' hf j v hj => hA.cell hm'.below hp hj) ?_
      refine At.to (noF_stable) (noF_fewer) 0 300 [0, 1, 5, 20, 21, 22] 0 ⟨pqops B12 [1, 1, 0, 1, 4, 4, 1, 0, 4, 0] 6, [.seq (sub B12 [1, 1, 0, 1, 4, 4, 1, 0, 4, 1]), .block 1, .seq (sub B12 [1, 1, 0, 1, 4, 4, 1, 1]), .next (Sx.Next w.heap.size w Tryd.f12.ntmps (frS (some a) (some b) n c d) locS (fun i x x_1 => i ≤ n ∧ ∀ (k : Nat), k < i → ps[k]? = qs[k]?) (fun i => n - i) i), .block 0, .seq (sub B12 [1, 1, 1])], [(0, .sl (some a) n c), (1, .sl (some b) n d), (5, .io .i64 (↑i : Int)), (20, .agg [.so (mkB p.key), .io .i64 p.st, .io .i64 p.en, .io .i64 p.kd, .io .i64 p.nt, .io .i64 p.ct, .io .i64 p.sm, .io .i64 p.mn, .io .i64 p.mx]), (21, .sl (some b) n d), (22, .io .i64 (↑i : Int))], []⟩ (by kernel_rfl) (by kernel_rfl) ?_
      refine At.idx b n 9 (i : Int) (by kernel_rfl) (by omega) (by omega) noF_stable ?_
      refine At.lda (b.add ((i : Int).toNat * 9)) 9 (paneL (mkB q.key) q.st q.en q.kd q.nt q.ct q.sm q.mn q.mx) (by kernel_rfl) rfl noF_stable (fun ρ w1 hm' hf j v hj => hB.cell hm'.below hq hj) ?_
      refine At.to (noF_stable) (noF_fewer) 0 300 [0, 1, 5, 25] 0 ⟨.code (sub B12 [1, 1, 0, 1, 4, 4, 1, 0, 4, 1]), [.block 1, .seq (sub B12 [1, 1, 0, 1, 4, 4, 1, 1]), .next (Sx.Next w.heap.size w Tryd.f12.ntmps (frS (some a) (some b) n c d) locS (fun i x x_1 => i ≤ n ∧ ∀ (k : Nat), k < i → ps[k]? = qs[k]?) (fun i => n - i) i), .block 0, .seq (sub B12 [1, 1, 1])], [(0, .sl (some a) n c), (1, .sl (some b) n d), (5, .io .i64 (↑i : Int)), (25, .bo !((mkB p.key).toList == (mkB q.key).toList && (p.st == q.st && (p.en == q.en && true) && (p.kd == q.kd && (p.nt == q.nt && (p.ct == q.ct && (p.sm == q.sm && (p.mn == q.mn && (p.mx == q.mx && true))) && true))))))], []⟩ (by kernel_rfl) (by kernel_rfl) ?_
      rcases Bool.eq_false_or_eq_true (!((mkB p.key).toList == (mkB q.key).toList && (p.st == q.st && (p.en == q.en && true) && (p.kd == q.kd && (p.nt == q.nt && (p.ct == q.ct && (p.sm == q.sm && (p.mn == q.mn && (p.mx == q.mx && true))) && true)))))) with b0 | b0
      · refine At.res 25 (!((mkB p.key).toList == (mkB q.key).toList && (p.st == q.st && (p.en == q.en && true) && (p.kd == q.kd && (p.nt == q.nt && (p.ct == q.ct && (p.sm == q.sm && (p.mn == q.mn && (p.mx == q.mx && true))) && true)))))) true (by kernel_rfl) b0 ?_
        refine At.to (noF_stable) (noF_fewer) 0 300 [4] 0 ⟨.exit .ret, [], [(4, .v (.bool false))], []⟩ (by kernel_rfl) (by kernel_rfl) ?_
        refine At.ret (by kernel_rfl) (.v (.bool false)) (by kernel_rfl) ?_
        rw [pane_beq] at b0
        have hne : p ≠ q := by simpa using b0
        intro ρ w9 hm' hf
        exact ⟨by rw [show decide (ps = qs) = false from decide_eq_false fun e => hne (by rw [e, hq] at hp; exact (Option.some.inj hp).symm)]; rfl, hm'.below⟩
      · refine At.res 25 (!((mkB p.key).toList == (mkB q.key).toList && (p.st == q.st && (p.en == q.en && true) && (p.kd == q.kd && (p.nt == q.nt && (p.ct == q.ct && (p.sm == q.sm && (p.mn == q.mn && (p.mx == q.mx && true))) && true)))))) false (by kernel_rfl) b0 ?_
        refine At.to (noF_stable) (noF_fewer) 0 300 [0, 1, 5] 0 ⟨.exit .normal, [.next (Sx.Next w.heap.size w Tryd.f12.ntmps (frS (some a) (some b) n c d) locS (fun i x x_1 => i ≤ n ∧ ∀ (k : Nat), k < i → ps[k]? = qs[k]?) (fun i => n - i) i), .block 0, .seq (sub B12 [1, 1, 1])], [(0, .sl (some a) n c), (1, .sl (some b) n d), (5, .io .i64 (IntKind.i64.wrap ((↑i : Int) + 1)))], []⟩ (by kernel_rfl) (by kernel_rfl) ?_
        rw [pane_beq] at b0
        have heq : p = q := by simpa using b0
        subst heq
        have hw3 : IntKind.i64.wrap ((i : Int) + 1) = ((i + 1 : Nat) : Int) := by
          rw [wrap63 (by omega) (by omega)]
          omega
        rw [hw3]
        refine At.next (σ := Nat) (i + 1) rfl rfl (by unfold subFr; kernel_rfl) (by kernel_rfl) ?_ ?_
        · intro ρ a' w' hi' hf
          refine ⟨by omega, fun k hk => ?_⟩
          by_cases hki : k = i
          · subst hki
            rw [hp, hq]
          · exact h2 k (by omega)
        · show n - (i + 1) < n - i
          omega
    · refine At.res 14 (decide ((↑i : Int) < (↑n : Int))) false (by kernel_rfl) b0 ?_
      refine At.to (noF_stable) (noF_fewer) 0 300 [4] 0 ⟨.exit .ret, [], [(4, .v (.bool true))], []⟩ (by kernel_rfl) (by kernel_rfl) ?_
      refine At.ret (by kernel_rfl) (.v (.bool true)) (by kernel_rfl) ?_
      have hi : ¬ (i : Int) < (n : Int) := of_decide_eq_false b0
      have ha := hA.1
      have hb := hB.1
      intro ρ w9 hm' hf
      exact ⟨by rw [show decide (ps = qs) = true from decide_eq_true (List.ext_getElem? fun k => if hk : k < i then h2 k hk else by rw [List.getElem?_eq_none (by omega), List.getElem?_eq_none (by omega)])]; rfl, hm'.below⟩


theorem bw_cells (l : List UInt8) : bw l = Lib.byteCells l := by simp [bw, Lib.byteCells]
section
variable {P : Program} {Q : Exit → Act → World → Prop} {N : Nat} {w0 : World} {ntm : Nat}
/-- A string put behind a row of one's own, no local block standing. -/
theorem At.apF {s : S} {wb : World} {A : Option Addr} {n c : Nat} {xs : List Value} (t u e : TypeId) (sv : SV) (str : ByteArray) (hq : apsI ntm s = some (t, u, .sl A n c, sv)) (hsv : ∀ ρ, sv.den ρ = .string str) (ht : P.underlying t = some (.slice e)) (hu : P.underlying u = some .string)
    (hinfo : (P.info? e).map (fun i => (i.zero, i.size, i.bytes)) = some (some (.int .u8 0), 1, 1)) (hlen : n + str.size ≤ 140737488355328) (hN : N ≤ wb.heap.size) (hloc : s.loc = [])
    (h : ∀ A' c', At P Q N w0 ntm (RowF wb (fun _ => False) [] wb.heap.size e 1 A' (n + str.size) c' (xs ++ Lib.strCells str)) (s.tail ntm (.sl A' (n + str.size) c'))) : At P Q N w0 ntm (RowF wb (fun _ => False) [] wb.heap.size e 1 A n c xs) s := by
  unfold apsI at hq
  split at hq
  · rename_i o ho hd hp
    refine At.opx (X := Option Addr × Nat) o (fun x => .sl x.1 (n + str.size) x.2) (fun x => RowF wb (fun _ => False) [] wb.heap.size e 1 x.1 (n + str.size) x.2 (xs ++ Lib.strCells str)) ho hd hp ?_ (fun x => h x.1 x.2)
    intro ρ a w hi hf
    have hρ : ρ = [] := List.length_eq_zero_iff.1 (by rw [hi.mem.len, hloc]; rfl)
    obtain ⟨i, hi1, hi2⟩ := Option.map_eq_some_iff.1 hinfo
    simp only [Prod.mk.injEq] at hi2
    obtain ⟨⟨hrow, hb⟩, hfr, hblk⟩ := hf
    obtain ⟨v', w', hrun, hown, hg, _⟩ := Lib.run_append_own_string (P := P) w wb.heap.size t u o.type e i ht hu hi1 hi2.1 hi2.2.1 hi2.2.2 (.slice A n c) n xs hrow.1 str (by simp only [maxLen]; omega) hlen hb
    obtain ⟨A', c', rfl⟩ : ∃ A' c', v' = .slice A' (n + str.size) c' := by
      rcases hown.2 with ⟨hv, h0⟩ | ⟨g, cap, cur, hv, _⟩
      · exact ⟨none, 0, by rw [hv, h0]⟩
      · exact ⟨_, _, hv⟩
    refine ⟨(A', c'), w', run_apsQ hi.act hq (by rw [hsv]; exact hrun), hi.mem.grown hg (fun g hgo => ⟨Nat.le_trans hN (hrow.1.lt g hgo).1, hrow.2 g hgo⟩), ⟨⟨hown, fun g _ => by rw [hρ]; simp⟩, Nat.le_trans hb hg.size⟩, hfr.grown hg (fun k hk => hblk k hk), fun g hgo => .inr (hown.lt g hgo).1⟩
  · cases hq
end
def frX (Al : Option Addr) (nl cl : Nat) : Option Addr × Nat × Nat × Nat × List UInt8 → Fr
  | (A, n, c, i, _) => [(0, .sl Al nl cl), (4, .sl A n c), (5, .io .i64 (i : Int))]
def locX (_ : Option Addr × Nat × Nat × Nat × List UInt8) : Sx.Loc := []
def GX (w : World) (ps : List Pn) (R : Option (List UInt8)) : Option Addr × Nat × Nat × Nat × List UInt8 → List Nat → World → Prop
  | (A, n, c, i, acc), ρ, w1 => RowF w (fun _ => False) [] w.heap.size 5 1 A n c (Lib.byteCells acc) ρ w1 ∧ (textP (ps.drop i) acc = R ∧ i ≤ ps.length ∧ n = acc.length ∧ acc.length ≤ i * 1301)

noncomputable def B19 : Code := (Tryd.f19.body).getD .skip
set_option maxHeartbeats 20000000 in
set_option maxRecDepth 100000 in
theorem rtext_any {Al : Option Addr} {nl cl : Nat} {ps : List Pn} (w : World) (hl : SlP w Al nl ps) (hbig : nl ≤ 200) (hok : ∀ p ∈ ps, p.in64) :
    Calls Tryd.prog 19 #[.slice Al nl cl] w fun e w' => e = .returned (textV (textP ps [])) ∧ Below w.heap.size w w' := by
  have hn := hl.1
  refine enterF (N := w.heap.size) (F := RowF w (fun _ => False) [] w.heap.size 5 1 none 0 0 []) (fn := Tryd.f19) (c := B19) [.sl Al nl cl] Tryd.func19 rfl rfl (Nat.le_refl _) ⟨⟨⟨World.ownsRow_nil _ _ _ _, by simp [Value.ownBlock]⟩, Nat.le_refl _⟩, FrameR.start _ [] (by simp), by simp [Value.ownBlock]⟩ ?_
  refine At.toJ (RowF.stable) RowF.fewer 0 300 [0, 4, 5] 0 ⟨.code (sub B19 [1, 1, 0, 1, 4]), [.block 0, .seq (sub B19 [1, 1, 1])], [(0, .sl Al nl cl), (4, .v (.slice none 0 0)), (5, .v (.int .i64 0))], []⟩ (by kernel_rfl) (by kernel_rfl) ?_
  generalize hR : textP ps [] = R
  refine At.canon _ rfl ?_
  refine At.slFr _ rfl ?_
  refine At.loop (σ := Option Addr × Nat × Nat × Nat × List UInt8) (sub B19 [1, 1, 0, 1, 4, 4]) (frX Al nl cl) locX (GX w ps R) (fun x => nl - x.2.2.2.1) (none, 0, 0, 0, []) (by kernel_rfl) (by unfold subFr; kernel_rfl) (by kernel_rfl) (fun _ _ _ _ h => ⟨h, hR, Nat.zero_le _, rfl, Nat.zero_le _⟩) ?_
  clear hR
  rintro ⟨A, n, c, i, acc⟩
  refine At.pure fun ⟨h1, h2, h3, h4⟩ => ?_
  refine At.toJ (RowF.stable) RowF.fewer 0 300 [0, 4, 5, 11] 0 ⟨.code (sub B19 [1, 1, 0, 1, 4, 4, 0, 1]), [.seq (sub B19 [1, 1, 0, 1, 4, 4, 1]), .next (Sx.Next w.heap.size w Tryd.f19.ntmps (frX Al nl cl) locX (GX w ps R) (fun x => nl - x.snd.snd.snd.fst) (A, n, c, i, acc)), .block 0, .seq (sub B19 [1, 1, 1])], [(0, .sl Al nl cl), (4, .sl A n c), (5, .io .i64 (↑i : Int)), (11, .bo (decide ((↑i : Int) < (↑nl : Int))))], []⟩ (by kernel_rfl) (by kernel_rfl) ?_
  rcases Bool.eq_false_or_eq_true (decide ((↑i : Int) < (↑nl : Int))) with b0 | b0
  · refine At.res 11 (decide ((↑i : Int) < (↑nl : Int))) true (by kernel_rfl) b0 ?_
    refine At.toJ (RowF.stable) RowF.fewer 0 300 [0, 4, 5, 15, 16] 0 ⟨pops B19 [1, 1, 0, 1, 4, 4, 1, 0, 4, 0] 2, [.seq (sub B19 [1, 1, 0, 1, 4, 4, 1, 0, 4, 1]), .block 1, .seq (sub B19 [1, 1, 0, 1, 4, 4, 1, 1]), .next (Sx.Next w.heap.size w Tryd.f19.ntmps (frX Al nl cl) locX (GX w ps R) (fun x => nl - x.snd.snd.snd.fst) (A, n, c, i, acc)), .block 0, .seq (sub B19 [1, 1, 1])], [(0, .sl Al nl cl), (4, .sl A n c), (5, .io .i64 (↑i : Int)), (15, .sl Al nl cl), (16, .io .i64 (↑i : Int))], []⟩ (by kernel_rfl) (by kernel_rfl) ?_
    have hi : i < nl := by have := of_decide_eq_true b0; omega
    clear b0
    obtain ⟨p, hp⟩ : ∃ p, ps[i]? = some p := ⟨_, List.getElem?_eq_getElem (by omega)⟩
    have hpi := hok p (List.mem_of_getElem? hp)
    obtain ⟨al, rfl⟩ := hl.some (by omega)
    rw [drop_at hp] at h1
    simp only [textP] at h1
    refine At.idx al nl 9 (i : Int) (by kernel_rfl) (by omega) (by omega) RowF.stable ?_
    refine At.lda (al.add ((i : Int).toNat * 9)) 9 (paneL (mkB p.key) p.st p.en p.kd p.nt p.ct p.sm p.mn p.mx) (by kernel_rfl) rfl RowF.stable (fun ρ w1 hm' hf j v hj => hl.cell hm'.below hp hj) ?_
    refine At.toJ (RowF.stable) RowF.fewer 0 300 [0, 4, 5, 18] 0 ⟨pops B19 [1, 1, 0, 1, 4, 4, 1, 0, 4, 0] 4, [.seq (sub B19 [1, 1, 0, 1, 4, 4, 1, 0, 4, 1]), .block 1, .seq (sub B19 [1, 1, 0, 1, 4, 4, 1, 1]), .next (Sx.Next w.heap.size w Tryd.f19.ntmps (frX (some al) nl cl) locX (GX w ps R) (fun x => nl - x.snd.snd.snd.fst) (A, n, c, i, acc)), .block 0, .seq (sub B19 [1, 1, 1])], [(0, .sl (some al) nl cl), (4, .sl A n c), (5, .io .i64 (↑i : Int)), (18, .agg [.so (mkB p.key), .io .i64 p.st, .io .i64 p.en, .io .i64 p.kd, .io .i64 p.nt, .io .i64 p.ct, .io .i64 p.sm, .io .i64 p.mn, .io .i64 p.mx])], []⟩ (by kernel_rfl) (by kernel_rfl) ?_
    cases hmay : p.may with
    | false =>
      rw [hmay] at h1
      simp only [Bool.false_eq_true, if_false] at h1
      subst h1
      refine At.call RowF.stable 18 [.agg (paneL (mkB p.key) p.st p.en p.kd p.nt p.ct p.sm p.mn p.mx)] (.tup [.v (.string ⟨#[]⟩), .v (.int .i64 2)]) (by kernel_rfl) (by kernel_rfl) (by kernel_rfl) (fun _ _ w1 hi _ => (rline_any p hpi w1).mono fun e w2 h => ⟨h.1.trans (by rw [hmay]; rfl), h.2⟩) ?_
      refine At.toJ (RowF.stable) RowF.fewer 0 300 [2, 3] 0 ⟨.exit .ret, [], [(2, .v (.string (ByteArray.mk #[]))), (3, .v (.int .i64 2))], []⟩ (by kernel_rfl) (by kernel_rfl) ?_
      refine At.ret (by kernel_rfl) (.tup [.v (.string (ByteArray.mk #[])), .v (.int .i64 2)]) (by kernel_rfl) ?_
      intro ρ w9 hm' hf
      exact ⟨rfl, hm'.below⟩
    | true =>
      rw [hmay] at h1
      simp only [if_true] at h1
      refine At.call RowF.stable 18 [.agg (paneL (mkB p.key) p.st p.en p.kd p.nt p.ct p.sm p.mn p.mx)] (.tup [.so (mkB p.line), .v (.int .i64 0)]) (by kernel_rfl) (by kernel_rfl) (by kernel_rfl) (fun _ _ w1 hi _ => (rline_any p hpi w1).mono fun e w2 h => ⟨h.1.trans (by rw [hmay]; rfl), h.2⟩) ?_
      refine At.toJ (RowF.stable) RowF.fewer 0 300 [0, 5, 25, 26] 0 ⟨pops B19 [1, 1, 0, 1, 4, 4, 1, 0, 4, 1, 1, 0] 2, [.seq (sub B19 [1, 1, 0, 1, 4, 4, 1, 0, 4, 1, 1, 1]), .block 1, .seq (sub B19 [1, 1, 0, 1, 4, 4, 1, 1]), .next (Sx.Next w.heap.size w Tryd.f19.ntmps (frX (some al) nl cl) locX (GX w ps R) (fun x => nl - x.snd.snd.snd.fst) (A, n, c, i, acc)), .block 0, .seq (sub B19 [1, 1, 1])], [(0, .sl (some al) nl cl), (5, .io .i64 (↑i : Int)), (25, .sl A n c), (26, .so (mkB p.line))], []⟩ (by kernel_rfl) (by kernel_rfl) ?_
      have hll := line_len hmay hpi
      refine At.apF 83 9 5 (.so (mkB p.line)) (mkB p.line) (by kernel_rfl) (fun _ => rfl) Tryd.underlying83 Tryd.underlying9 info5 (by rw [mkB_size]; omega) (Nat.le_refl _) rfl (fun A' c' => ?_)
      rw [mkB_size]
      refine At.toJ (RowF.stable) RowF.fewer 0 300 [0, 5, 28, 29] 1 ⟨pops B19 [1, 1, 0, 1, 4, 4, 1, 0, 4, 1, 1, 1] 2, [.block 1, .seq (sub B19 [1, 1, 0, 1, 4, 4, 1, 1]), .next (Sx.Next w.heap.size w Tryd.f19.ntmps (frX (some al) nl cl) locX (GX w ps R) (fun x => nl - x.snd.snd.snd.fst) (A, n, c, i, acc)), .block 0, .seq (sub B19 [1, 1, 1])], [(0, .sl (some al) nl cl), (5, .io .i64 (↑i : Int)), (28, .sl A' (n + p.line.length) c'), (29, .ls 0 0 1 1)], [([.v (.int IntKind.u8 10)], 5)]⟩ (by kernel_rfl) (by kernel_rfl) ?_
      refine At.app (83) (5) (1) (1) (A') (n + p.line.length) (c') (1) ([.v (.int IntKind.u8 10)]) _ _ _ _ ([.int IntKind.u8 10]) (by kernel_rfl) (fun ρ => by kernel_rfl) (by first | omega | (simp only [Go.maxLen]; omega)) (by first | omega | (simp only [Go.maxLen]; omega)) (by first | omega | (simp only [Go.maxLen]; omega)) fun A0 c0 => ?_
      refine At.toJ (RowF.stable) RowF.fewer 0 300 [0, 4, 5] 0 ⟨.exit .normal, [.next (Sx.Next w.heap.size w Tryd.f19.ntmps (frX (some al) nl cl) locX (GX w ps R) (fun x => nl - x.snd.snd.snd.fst) (A, n, c, i, acc)), .block 0, .seq (sub B19 [1, 1, 1])], [(0, .sl (some al) nl cl), (4, .sl A0 (n + p.line.length + 1) c0), (5, .io .i64 (IntKind.i64.wrap ((↑i : Int) + 1)))], []⟩ (by kernel_rfl) (by kernel_rfl) ?_
      have hw3 : IntKind.i64.wrap ((i : Int) + 1) = ((i + 1 : Nat) : Int) := by
        rw [wrap63 (by omega) (by omega)]
        omega
      rw [hw3]
      refine At.next (σ := Option Addr × Nat × Nat × Nat × List UInt8) (A0, n + p.line.length + 1, c0, i + 1, acc ++ p.line ++ [10]) rfl rfl (by unfold subFr; kernel_rfl) (by kernel_rfl) ?_ ?_
      · intro ρ a' w' hi' hf
        exact ⟨by rw [← cells_app]; exact hf, h1, by omega, by simp only [List.length_append, List.length_singleton]; omega, by simp only [List.length_append, List.length_singleton]; omega⟩
      · show nl - (i + 1) < nl - i
        omega
  · refine At.res 11 (decide ((↑i : Int) < (↑nl : Int))) false (by kernel_rfl) b0 ?_
    refine At.toJ (RowF.stable) RowF.fewer 0 300 [31] 0 ⟨pops B19 [1, 1, 1, 0] 1, [.seq (sub B19 [1, 1, 0, 1, 4, 4, 1, 0, 4, 1, 0, 1, 2, 1])], [(31, .sl A n c)], []⟩ (by kernel_rfl) (by kernel_rfl) ?_
    have hi : ¬ (i : Int) < (nl : Int) := of_decide_eq_false b0
    rw [List.drop_eq_nil_of_le (by omega)] at h1
    simp only [textP] at h1
    subst h1
    refine At.cvy A n c (acc.map UInt8.toNat) (.so (mkB acc)) (by kernel_rfl) RowF.stable (fun ρ => by rw [strOf_map]; rfl) (fun ρ w1 hm hf => row_cw (by rw [bw_cells]; exact hf.1.1)) ?_
    refine At.toJ (RowF.stable) RowF.fewer 20 300 [2, 3] 0 ⟨.exit .ret, [], [(2, .so (mkB acc)), (3, .v (.int .i64 0))], []⟩ (by kernel_rfl) (by kernel_rfl) ?_
    refine At.ret (by kernel_rfl) (.tup [.so (mkB acc), .v (.int .i64 0)]) (by kernel_rfl) ?_
    intro ρ w9 hm' hf
    exact ⟨rfl, hm'.below⟩

end Go.Proofs.YtkjnbafdmjakgaaDoor
namespace Go.Proofs.YtkjnbafdmjakgaaDoor
open Go.RowKit Go.Sx

/-- The mark behind panes that are lent. -/
def markV : List Value := [.string ⟨#[]⟩, .int .i64 0, .int .i64 0, .int .i64 0, .int .i64 4242, .int .i64 0, .int .i64 0, .int .i64 0, .int .i64 0]
theorem add0 (a : Addr) : a.add 0 = a := by simp [Addr.add]
theorem map_add0 (A : Option Addr) : A.map (fun a => a.add 0) = A := by cases A <;> simp [Addr.add]
theorem pv_one (ls : List Pn) : ∀ u ∈ pv ls, u.oneCell' = true := by
  intro u hu
  obtain ⟨p, _, hp⟩ := List.mem_flatMap.1 hu
  simp only [Pn.cells, List.mem_cons, List.not_mem_nil, or_false] at hp
  rcases hp with rfl | rfl | rfl | rfl | rfl | rfl | rfl | rfl | rfl <;> rfl
section
variable {w : World} {base nl c : Nat} {ls : List Pn}
theorem row_cap {A : Option Addr} (h : w.ownsRow base 29 9 (.slice A (nl + 1) c) (nl + 1) (pv ls ++ markV)) : nl + 1 ≤ c := by
  rcases h.2 with ⟨_, h'⟩ | ⟨g, cap, cur, hv, _, _, hnc, _⟩
  · omega
  · injection hv with _ _ hcc
    omega
theorem own_head {A : Option Addr} (h : w.ownsRow base 29 9 (.slice A (nl + 1) c) (nl + 1) (pv ls ++ markV)) : w.ownsRow base 29 9 (.slice A nl c) nl (pv ls) := by
  have hl : (pv ls).length = nl * 9 := by
    have := h.1
    rw [List.length_append, show markV.length = 9 from rfl] at this
    omega
  refine ⟨hl, ?_⟩
  rcases h.2 with ⟨_, h'⟩ | ⟨g, cap, cur, hv, hb, hg, hnc, hcm, hsz, ht⟩
  · omega
  · injection hv with h1 _ h2
    subst h1 h2
    refine .inr ⟨g, c, cur, rfl, hb, hg, by omega, hcm, hsz, ?_⟩
    have := congrArg (List.take (nl * 9)) ht
    rw [List.take_take, Nat.min_eq_left (by omega), List.take_left' hl] at this
    exact this
theorem row_head {A : Option Addr} (h : w.ownsRow base 29 9 (.slice A (nl + 1) c) (nl + 1) (pv ls ++ markV)) : SlP w A nl ls := row_sl (own_head h)
theorem row_mark {a : Addr} (h : w.ownsRow base 29 9 (.slice (some a) (nl + 1) c) (nl + 1) (pv ls ++ markV)) (hl : ls.length = nl) : w.cell? ((a.add ((nl : Int).toNat * 9)).add 4) = some (.int .i64 4242) := by
  have ha : a = ⟨a.block, 0, none⟩ := by
    rcases h.2 with ⟨h', _⟩ | ⟨g, cap, cur, hv, _⟩
    · cases h'
    · injection hv with hv _ _
      injection hv with hv
      rw [hv]
  generalize hg : a.block = g at ha
  subst ha
  rw [add_ok, add_ok, Int.toNat_natCast, Nat.zero_add, h.cellAt (nl * 9 + 4) (by omega), List.getElem?_append_right (by rw [pv_len]; omega), pv_len, hl, Nat.add_sub_cancel_left]
  rfl
end

noncomputable def B17 : Code := (Tryd.f17.body).getD .skip
set_option maxHeartbeats 20000000 in
set_option maxRecDepth 100000 in
theorem lent_any {Al : Option Addr} {nl cl : Nat} {ls : List Pn} (w : World) (hl : SlP w Al nl ls) (hbig : nl ≤ 200) :
    Calls Tryd.prog 17 #[.slice Al nl cl] w fun e w' => ∃ A c, e = .returned (.slice A nl c) ∧ RowF w (fun _ => False) [] w.heap.size 29 9 A (nl + 1) c (pv ls ++ markV) [] w' := by
  refine enterF (N := w.heap.size) (F := RowF w (fun _ => False) [] w.heap.size 29 9 none 0 0 []) (fn := Tryd.f17) (c := B17) [.sl Al nl cl] Tryd.func17 rfl rfl (Nat.le_refl _) ⟨⟨⟨World.ownsRow_nil _ _ _ _, by simp [Value.ownBlock]⟩, Nat.le_refl _⟩, FrameR.start _ [] (by simp), by simp [Value.ownBlock]⟩ ?_
  refine At.toJ (RowF.stable) RowF.fewer 20 300 [0, 3] 0 ⟨pops B17 [1, 0] 1, [.seq (sub B17 [1, 1])], [(0, .sl Al nl cl), (3, .sl Al nl cl)], []⟩ (by kernel_rfl) (by kernel_rfl) ?_
  refine At.appAny 29 9 80 none 0 0 Al nl cl (fun _ => False) [] w.heap.size [] (pv ls) (by kernel_rfl) (by rw [pv_len, hl.1]) (pv_one ls) (fun e => by rw [← hl.1, hl.2.1 e]; rfl) (fun b hb ρ w1 hm => src_low (hl.2.2 b hb) hm.below) (by omega) (by simp only [maxLen]; omega) (Nat.le_refl _) (fun A' c' => ?_)
  rw [Nat.zero_add, List.nil_append]
  refine At.toJ (RowF.stable) RowF.fewer 20 300 [0, 4, 6] 1 ⟨pops B17 [1, 0] 4, [.seq (sub B17 [1, 1])], [(0, .sl Al nl cl), (4, .sl A' nl c'), (6, .ls 0 0 1 1)], [([.v (.string (ByteArray.mk #[])), .v (.int .i64 0), .v (.int .i64 0), .v (.int .i64 0), .v (.int .i64 4242), .v (.int .i64 0), .v (.int .i64 0), .v (.int .i64 0), .v (.int .i64 0)], 29)]⟩ (by kernel_rfl) (by kernel_rfl) ?_
  refine At.app (35) (29) (9) (80) (A') (nl) (c') (1) ([.v (.string (ByteArray.mk #[])), .v (.int .i64 0), .v (.int .i64 0), .v (.int .i64 0), .v (.int .i64 4242), .v (.int .i64 0), .v (.int .i64 0), .v (.int .i64 0), .v (.int .i64 0)]) _ _ _ _ ([.string (ByteArray.mk #[]), .int .i64 0, .int .i64 0, .int .i64 0, .int .i64 4242, .int .i64 0, .int .i64 0, .int .i64 0, .int .i64 0]) (by kernel_rfl) (fun ρ => by kernel_rfl) (by first | omega | (simp only [Go.maxLen]; omega)) (by first | omega | (simp only [Go.maxLen]; omega)) (by first | omega | (simp only [Go.maxLen]; omega)) fun A0 c0 => ?_
  refine At.toJ (RowF.stable) RowF.fewer 20 300 [7, 9] 0 ⟨pops B17 [1, 0] 7, [.seq (sub B17 [1, 1])], [(7, .sl A0 (nl + 1) c0), (9, .io .i64 (↑nl : Int))], []⟩ (by kernel_rfl) (by kernel_rfl) ?_
  refine At.slx A0 (nl + 1) c0 none (nl : Int) 9 (.sl A0 nl c0) (by kernel_rfl) RowF.stable (by decide) (by simp) (fun ρ w1 _ hf => ⟨by have := (row_is hf.1.1 (by omega)).2; omega, by simp [SV.den, map_add0]⟩) ?_
  refine At.toJ (RowF.stable) RowF.fewer 20 300 [2] 0 ⟨.exit .ret, [], [(2, .sl A0 nl c0)], []⟩ (by kernel_rfl) (by kernel_rfl) ?_
  refine At.ret (by kernel_rfl) (.sl A0 nl c0) (by kernel_rfl) ?_
  intro ρ w9 hm' hf
  exact ⟨A0, c0, rfl, RowF.fewer _ _ 0 (Nat.zero_le _) hf⟩

noncomputable def B20 : Code := (Tryd.f20.body).getD .skip
set_option maxHeartbeats 20000000 in
set_option maxRecDepth 100000 in
theorem kept_any {A Al : Option Addr} {nl c cl base : Nat} {ls : List Pn} (w : World) (hm : w.ownsRow base 29 9 (.slice A (nl + 1) c) (nl + 1) (pv ls ++ markV)) (hl : SlP w Al nl ls) (hbig : nl ≤ 200) :
    Calls Tryd.prog 20 #[.slice A nl c, .slice Al nl cl] w fun e w' => e = .returned (.bool true) ∧ Below w.heap.size w w' := by
  obtain ⟨a, rfl⟩ := row_some hm (by omega)
  refine enter (fn := Tryd.f20) (c := B20) [.sl (some a) nl c, .sl Al nl cl] Tryd.func20 rfl rfl ?_
  refine At.to (noF_stable) (noF_fewer) 20 300 [0, 1, 5, 6] 0 ⟨pops B20 [1, 0] 2, [.seq (sub B20 [1, 1])], [(0, .sl (some a) nl c), (1, .sl Al nl cl), (5, .sl (some a) nl c), (6, .sl Al nl cl)], []⟩ (by kernel_rfl) (by kernel_rfl) ?_
  refine At.call noF_stable 12 [.sl (some a) nl c, .sl Al nl cl] (.v (.bool true)) (by kernel_rfl) (by kernel_rfl) (by kernel_rfl) (fun _ _ w1 hi _ => (same_sl w1 ((row_head hm).below hi.mem.below) (hl.below hi.mem.below) (by omega)).mono fun e w2 h => ⟨h.1.trans (by rw [decide_eq_true rfl]; rfl), h.2⟩) ?_
  refine At.to (noF_stable) (noF_fewer) 20 300 [1, 8, 9, 12] 0 ⟨pops B20 [1, 0] 8, [.seq (sub B20 [1, 1])], [(1, .sl Al nl cl), (8, .v (.bool true)), (9, .sl (some a) nl c), (12, .io .i64 (IntKind.i64.wrap ((↑nl : Int) + 1)))], []⟩ (by kernel_rfl) (by kernel_rfl) ?_
  have hw3 : IntKind.i64.wrap ((nl : Int) + 1) = ((nl + 1 : Nat) : Int) := by
    rw [wrap63 (by omega) (by omega)]
    omega
  rw [hw3]
  refine At.slx (some a) nl c none ((nl + 1 : Nat) : Int) 9 (.sl (some a) (nl + 1) c) (by kernel_rfl) noF_stable (by decide) (by simp; omega) (fun ρ w1 _ hf => ⟨by have := row_cap hm; omega, by simp [SV.den, add0]⟩) ?_
  refine At.to (noF_stable) (noF_fewer) 20 300 [8, 13, 15] 0 ⟨pops B20 [1, 0] 11, [.seq (sub B20 [1, 1])], [(8, .v (.bool true)), (13, .sl (some a) (nl + 1) c), (15, .io .i64 (↑nl : Int))], []⟩ (by kernel_rfl) (by kernel_rfl) ?_
  refine At.idx a (nl + 1) 9 (nl : Int) (by kernel_rfl) (by omega) (by omega) noF_stable ?_
  refine At.fax (a.add ((nl : Int).toNat * 9)) 4 (by kernel_rfl) noF_stable ?_
  refine At.ldx ((a.add ((nl : Int).toNat * 9)).add 4) (.v (.int .i64 4242)) (by kernel_rfl) noF_stable (fun ρ w1 hm' hf => cell_below (row_mark hm (by have := hl.1; omega)) hm'.below) ?_
  refine At.to (noF_stable) (noF_fewer) 20 300 [4] 0 ⟨.exit .ret, [], [(4, .v (.bool true))], []⟩ (by kernel_rfl) (by kernel_rfl) ?_
  refine At.ret (by kernel_rfl) (.v (.bool true)) (by kernel_rfl) ?_
  intro ρ w9 hm' hf
  exact ⟨rfl, hm'.below⟩

end Go.Proofs.YtkjnbafdmjakgaaDoor
namespace Go.Proofs.YtkjnbafdmjakgaaDoor
open Go.RowKit Go.Sx

theorem bl_self : ∀ l : List UInt8, Op.bytesLess l l = false
  | [] => rfl
  | x :: l => by
    have := bl_self l
    simp [Op.bytesLess, this]
theorem cmpI_self (a : Int) : cmpI a a = 0 := by simp [cmpI]
theorem cmpS_self (s : ByteArray) : cmpS s s = 0 := by simp [cmpS, bl_self]
theorem cmpP_self (p : Pn) : cmpP p p = 0 := by simp [cmpP, orI, cmpI_self, cmpS_self]
def frC (Al : Option Addr) (nl cl : Nat) (i : Nat) : Fr := [(0, .sl Al nl cl), (3, .lp 0 0), (14, .io .i64 (i : Int))]
def locC (x : Pn) (_ : Nat) : Sx.Loc := [(paneL (mkB x.key) x.st x.en x.kd x.nt x.ct x.sm x.mn x.mx, 29)]
def Pn.lineS (p : Pn) : List UInt8 := bif p.may then p.line else []
def Pn.lineE (p : Pn) : Int := bif p.may then 0 else 2
theorem line_val (p : Pn) (hi : p.in64) (w : World) (htp : Lib.TabIs Tryd.prog w "internal/strconv.uint64pow10" .u64 Lib.pow10Tab) :
    Calls Tryd.prog 15 #[p.val] w fun e w' => e = .returned (.tuple #[.string (mkB p.lineS), .int .i64 p.lineE]) ∧ Below w.heap.size w w' := by
  unfold Pn.lineS Pn.lineE
  cases h : p.may with
  | true => exact line_yes p h hi w htp
  | false => exact line_no p h w
theorem rline_val (p : Pn) (hi : p.in64) (w : World) :
    Calls Tryd.prog 18 #[p.val] w fun e w' => e = .returned (.tuple #[.string (mkB p.lineS), .int .i64 p.lineE]) ∧ Below w.heap.size w w' :=
  (rline_any p hi w).mono fun e w' h => ⟨h.1.trans (by unfold Pn.lineS Pn.lineE; cases p.may <;> rfl), h.2⟩
def textS (o : Option (List UInt8)) : List UInt8 := o.getD []
def textE (o : Option (List UInt8)) : Int := match o with
  | some _ => 0
  | none => 2
theorem textV_eq (o : Option (List UInt8)) : textV o = .tuple #[.string (mkB (textS o)), .int .i64 (textE o)] := by cases o <;> rfl

noncomputable def B5 : Code := (Tryd.f5.body).getD .skip
set_option maxHeartbeats 20000000 in
set_option maxRecDepth 100000 in
theorem lines_ok (Al : Option Addr) (nl cl : Nat) (ls : List Pn) (x : Pn) (hx : x.in64) (hls : ∀ p ∈ ls, p.in64) (w : World) (hl : SlP w Al nl ls) (htp : Lib.TabIs Tryd.prog w "internal/strconv.uint64pow10" .u64 Lib.pow10Tab)
    {tp1 tp2 : TypeId} {q1 q2 : Value} (hs1 : w.var? Tryd.prog "strconv.ErrSyntax" = some #[.iface tp1 q1]) (hs2 : w.var? Tryd.prog "strconv.ErrRange" = some #[.iface tp2 q2]) {m : Int} (hm : w.cell? ⟨3, 0, none⟩ = some (.int .i64 m)) :
    Calls Tryd.prog 5 #[.slice Al nl cl, x.val] w fun e w' => e = .returned (.bool true) ∧ Below w.heap.size w w' := by
  refine enter (fn := Tryd.f5) (c := B5) [.sl Al nl cl, .agg (paneL (mkB x.key) x.st x.en x.kd x.nt x.ct x.sm x.mn x.mx)] Tryd.func5 rfl rfl ?_
  refine At.to (noF_stable) (noF_fewer) 20 300 [0, 3, 17] 1 ⟨.code (sub B5 [1, 0, 1]), [.seq (sub B5 [1, 1])], [(0, .sl Al nl cl), (3, .lp 0 0), (17, .bo (decide ((↑nl : Int) > 200)))], [([.so (mkB x.key), .io .i64 x.st, .io .i64 x.en, .io .i64 x.kd, .io .i64 x.nt, .io .i64 x.ct, .io .i64 x.sm, .io .i64 x.mn, .io .i64 x.mx], 29)]⟩ (by kernel_rfl) (by kernel_rfl) ?_
  rcases Bool.eq_false_or_eq_true (decide ((↑nl : Int) > 200)) with b0 | b0
  · refine At.res 17 (decide ((↑nl : Int) > 200)) true (by kernel_rfl) b0 ?_
    refine At.to (noF_stable) (noF_fewer) 20 300 [] 0 ⟨pops B5 [1, 0, 1, 2, 0] 0, [.seq (sub B5 [1, 0, 1, 2, 1]), .seq (sub B5 [1, 1])], [], []⟩ (by kernel_rfl) (by kernel_rfl) ?_
    refine At.call noF_stable 7 [] (.v (.bool true)) (by kernel_rfl) (by kernel_rfl) (by kernel_rfl) (fun _ _ w1 hi _ => known_any w1 (tab_below htp hi.mem.below rfl) (var_below hs1 hi.mem.below) (var_below hs2 hi.mem.below) (cell_below hm hi.mem.below)) ?_
    refine At.to (noF_stable) (noF_fewer) 20 300 [4] 0 ⟨.exit .ret, [], [(4, .v (.bool true))], []⟩ (by kernel_rfl) (by kernel_rfl) ?_
    refine At.ret (by kernel_rfl) (.v (.bool true)) (by kernel_rfl) ?_
    intro ρ w9 hm' hf
    exact ⟨rfl, hm'.below⟩
  · refine At.res 17 (decide ((↑nl : Int) > 200)) false (by kernel_rfl) b0 ?_
    refine At.to (noF_stable) (noF_fewer) 20 300 [0, 3, 19] 1 ⟨pops B5 [1, 1, 0] 1, [.seq (sub B5 [1, 1, 1])], [(0, .sl Al nl cl), (3, .lp 0 0), (19, .sl Al nl cl)], [([.so (mkB x.key), .io .i64 x.st, .io .i64 x.en, .io .i64 x.kd, .io .i64 x.nt, .io .i64 x.ct, .io .i64 x.sm, .io .i64 x.mn, .io .i64 x.mx], 29)]⟩ (by kernel_rfl) (by kernel_rfl) ?_
    have hbig : nl ≤ 200 := by have := of_decide_eq_false b0; omega
    clear b0
    refine At.mono (F' := PRows w.heap.size []) (fun ρ w1 _ => PRows.none _ _ _) ?_
    refine At.rowCall 17 [.sl Al nl cl] (pv ls ++ markV) (fun A n c => .sl A (n - 1) c) (by kernel_rfl) (by kernel_rfl) (by kernel_rfl) rfl (fun ρ w1 hi => (lent_any w1 (hl.below hi.below) hbig).mono fun e w2 h => by obtain ⟨A, c, rfl, h⟩ := h; exact ⟨A, nl + 1, c, rfl, h⟩) ?_
    intro A n c
    refine At.mono (F' := fun ρ w1 => PRows w.heap.size [(A, n, c, pv ls ++ markV)] ρ w1 ∧ n = nl + 1) (fun ρ w1 h => ⟨h, by
      have h1 := (h.1 (A, n, c, pv ls ++ markV) (by simp)).1.1
      rw [List.length_append, pv_len, show markV.length = 9 from rfl, hl.1] at h1
      simp only at h1
      omega⟩) (At.pure ?_)
    rintro rfl
    rw [Nat.add_sub_cancel]
    refine At.toJ (PRows.stable) PRows.fewer 20 300 [0, 3, 5, 22] 1 ⟨pops B5 [1, 1, 1, 0] 1, [.seq (sub B5 [1, 1, 1, 1])], [(0, .sl Al nl cl), (3, .lp 0 0), (5, .sl A nl c), (22, .agg [.so (mkB x.key), .io .i64 x.st, .io .i64 x.en, .io .i64 x.kd, .io .i64 x.nt, .io .i64 x.ct, .io .i64 x.sm, .io .i64 x.mn, .io .i64 x.mx])], [([.so (mkB x.key), .io .i64 x.st, .io .i64 x.en, .io .i64 x.kd, .io .i64 x.nt, .io .i64 x.ct, .io .i64 x.sm, .io .i64 x.mn, .io .i64 x.mx], 29)]⟩ (by kernel_rfl) (by kernel_rfl) ?_
    refine At.call PRows.stable 15 [.agg (paneL (mkB x.key) x.st x.en x.kd x.nt x.ct x.sm x.mn x.mx)] (.tup [.so (mkB x.lineS), .io .i64 x.lineE]) (by kernel_rfl) (by kernel_rfl) (by kernel_rfl) (fun _ _ w1 hi _ => line_val x hx w1 (tab_below htp hi.mem.below rfl)) ?_
    refine At.toJ (PRows.stable) PRows.fewer 20 300 [0, 3, 5, 6, 7, 27] 1 ⟨pops B5 [1, 1, 1, 1, 0] 1, [.seq (sub B5 [1, 1, 1, 1, 1])], [(0, .sl Al nl cl), (3, .lp 0 0), (5, .sl A nl c), (6, .so (mkB x.lineS)), (7, .io .i64 x.lineE), (27, .agg [.so (mkB x.key), .io .i64 x.st, .io .i64 x.en, .io .i64 x.kd, .io .i64 x.nt, .io .i64 x.ct, .io .i64 x.sm, .io .i64 x.mn, .io .i64 x.mx])], [([.so (mkB x.key), .io .i64 x.st, .io .i64 x.en, .io .i64 x.kd, .io .i64 x.nt, .io .i64 x.ct, .io .i64 x.sm, .io .i64 x.mn, .io .i64 x.mx], 29)]⟩ (by kernel_rfl) (by kernel_rfl) ?_
    refine At.call PRows.stable 18 [.agg (paneL (mkB x.key) x.st x.en x.kd x.nt x.ct x.sm x.mn x.mx)] (.tup [.so (mkB x.lineS), .io .i64 x.lineE]) (by kernel_rfl) (by kernel_rfl) (by kernel_rfl) (fun _ _ w1 hi _ => rline_val x hx w1) ?_
    refine At.toJ (PRows.stable) PRows.fewer 20 300 [0, 3, 5, 6, 7, 8, 9, 32] 1 ⟨pops B5 [1, 1, 1, 1, 1, 0] 1, [.seq (sub B5 [1, 1, 1, 1, 1, 1])], [(0, .sl Al nl cl), (3, .lp 0 0), (5, .sl A nl c), (6, .so (mkB x.lineS)), (7, .io .i64 x.lineE), (8, .so (mkB x.lineS)), (9, .io .i64 x.lineE), (32, .sl A nl c)], [([.so (mkB x.key), .io .i64 x.st, .io .i64 x.en, .io .i64 x.kd, .io .i64 x.nt, .io .i64 x.ct, .io .i64 x.sm, .io .i64 x.mn, .io .i64 x.mx], 29)]⟩ (by kernel_rfl) (by kernel_rfl) ?_
    refine At.call PRows.stable 16 [.sl A nl c] (.tup [.so (mkB (textS (textP ls []))), .io .i64 (textE (textP ls []))]) (by kernel_rfl) (by kernel_rfl) (by kernel_rfl) (fun _ _ w1 hi hf => (text_any w1 (own_head (hf.1 (A, nl + 1, c, pv ls ++ markV) (by simp)).1) hl.1.symm hbig hls (tab_below htp hi.mem.below rfl)).mono fun e w2 h => ⟨h.1.trans (by rw [textV_eq]; rfl), h.2⟩) ?_
    refine At.toJ (PRows.stable) PRows.fewer 20 300 [0, 3, 5, 6, 7, 8, 9, 10, 11, 37] 1 ⟨pops B5 [1, 1, 1, 1, 1, 1, 0] 1, [.seq (sub B5 [1, 1, 1, 1, 1, 1, 1])], [(0, .sl Al nl cl), (3, .lp 0 0), (5, .sl A nl c), (6, .so (mkB x.lineS)), (7, .io .i64 x.lineE), (8, .so (mkB x.lineS)), (9, .io .i64 x.lineE), (10, .so (mkB (textS (textP ls [])))), (11, .io .i64 (textE (textP ls []))), (37, .sl Al nl cl)], [([.so (mkB x.key), .io .i64 x.st, .io .i64 x.en, .io .i64 x.kd, .io .i64 x.nt, .io .i64 x.ct, .io .i64 x.sm, .io .i64 x.mn, .io .i64 x.mx], 29)]⟩ (by kernel_rfl) (by kernel_rfl) ?_
    refine At.call PRows.stable 19 [.sl Al nl cl] (.tup [.so (mkB (textS (textP ls []))), .io .i64 (textE (textP ls []))]) (by kernel_rfl) (by kernel_rfl) (by kernel_rfl) (fun _ _ w1 hi hf => (rtext_any w1 (hl.below hi.mem.below) hbig hls).mono fun e w2 h => ⟨h.1.trans (by rw [textV_eq]; rfl), h.2⟩) ?_
    refine At.toJ (PRows.stable) PRows.fewer 20 300 [0, 3, 5, 7, 9, 10, 11, 12, 13, 44] 1 ⟨pops B5 [1, 1, 1, 1, 1, 1, 1, 0, 0] 4, [.seq (sub B5 [1, 1, 1, 1, 1, 1, 1, 0, 1]), .seq (sub B5 [1, 1, 1, 1, 1, 1, 1, 1])], [(0, .sl Al nl cl), (3, .lp 0 0), (5, .sl A nl c), (7, .io .i64 x.lineE), (9, .io .i64 x.lineE), (10, .so (mkB (textS (textP ls [])))), (11, .io .i64 (textE (textP ls []))), (12, .so (mkB (textS (textP ls [])))), (13, .io .i64 (textE (textP ls []))), (44, .bo !(mkB x.lineS).toList == (mkB x.lineS).toList)], [([.so (mkB x.key), .io .i64 x.st, .io .i64 x.en, .io .i64 x.kd, .io .i64 x.nt, .io .i64 x.ct, .io .i64 x.sm, .io .i64 x.mn, .io .i64 x.mx], 29)]⟩ (by kernel_rfl) (by kernel_rfl) ?_
    refine At.res 44 (!(mkB x.lineS).toList == (mkB x.lineS).toList) false (by kernel_rfl) (by first | assumption | (simp only [*]; done) | (simp [*]; done)) ?_
    refine At.toJ (PRows.stable) PRows.fewer 20 300 [0, 3, 5, 10, 11, 12, 13, 49] 1 ⟨pops B5 [1, 1, 1, 1, 1, 1, 1, 0, 0] 9, [.seq (sub B5 [1, 1, 1, 1, 1, 1, 1, 0, 1]), .seq (sub B5 [1, 1, 1, 1, 1, 1, 1, 1])], [(0, .sl Al nl cl), (3, .lp 0 0), (5, .sl A nl c), (10, .so (mkB (textS (textP ls [])))), (11, .io .i64 (textE (textP ls []))), (12, .so (mkB (textS (textP ls [])))), (13, .io .i64 (textE (textP ls []))), (49, .bo (x.lineE != x.lineE))], [([.so (mkB x.key), .io .i64 x.st, .io .i64 x.en, .io .i64 x.kd, .io .i64 x.nt, .io .i64 x.ct, .io .i64 x.sm, .io .i64 x.mn, .io .i64 x.mx], 29)]⟩ (by kernel_rfl) (by kernel_rfl) ?_
    refine At.res 49 (x.lineE != x.lineE) false (by kernel_rfl) (by first | assumption | (simp only [*]; done) | (simp [*]; done)) ?_
    refine At.toJ (PRows.stable) PRows.fewer 20 300 [0, 3, 5, 11, 13, 54] 1 ⟨pops B5 [1, 1, 1, 1, 1, 1, 1, 0, 0] 14, [.seq (sub B5 [1, 1, 1, 1, 1, 1, 1, 0, 1]), .seq (sub B5 [1, 1, 1, 1, 1, 1, 1, 1])], [(0, .sl Al nl cl), (3, .lp 0 0), (5, .sl A nl c), (11, .io .i64 (textE (textP ls []))), (13, .io .i64 (textE (textP ls []))), (54, .bo !(mkB (textS (textP ls []))).toList == (mkB (textS (textP ls []))).toList)], [([.so (mkB x.key), .io .i64 x.st, .io .i64 x.en, .io .i64 x.kd, .io .i64 x.nt, .io .i64 x.ct, .io .i64 x.sm, .io .i64 x.mn, .io .i64 x.mx], 29)]⟩ (by kernel_rfl) (by kernel_rfl) ?_
    refine At.res 54 (!(mkB (textS (textP ls []))).toList == (mkB (textS (textP ls []))).toList) false (by kernel_rfl) (by first | assumption | (simp only [*]; done) | (simp [*]; done)) ?_
    refine At.toJ (PRows.stable) PRows.fewer 20 300 [0, 3, 5, 59] 1 ⟨pops B5 [1, 1, 1, 1, 1, 1, 1, 0, 0] 19, [.seq (sub B5 [1, 1, 1, 1, 1, 1, 1, 0, 1]), .seq (sub B5 [1, 1, 1, 1, 1, 1, 1, 1])], [(0, .sl Al nl cl), (3, .lp 0 0), (5, .sl A nl c), (59, .bo (textE (textP ls []) != textE (textP ls [])))], [([.so (mkB x.key), .io .i64 x.st, .io .i64 x.en, .io .i64 x.kd, .io .i64 x.nt, .io .i64 x.ct, .io .i64 x.sm, .io .i64 x.mn, .io .i64 x.mx], 29)]⟩ (by kernel_rfl) (by kernel_rfl) ?_
    refine At.res 59 (textE (textP ls []) != textE (textP ls [])) false (by kernel_rfl) (by first | assumption | (simp only [*]; done) | (simp [*]; done)) ?_
    refine At.toJ (PRows.stable) PRows.fewer 20 300 [0, 3, 59, 60, 61] 1 ⟨pops B5 [1, 1, 1, 1, 1, 1, 1, 0, 0] 21, [.seq (sub B5 [1, 1, 1, 1, 1, 1, 1, 0, 1]), .seq (sub B5 [1, 1, 1, 1, 1, 1, 1, 1])], [(0, .sl Al nl cl), (3, .lp 0 0), (59, .v (.bool false)), (60, .sl A nl c), (61, .sl Al nl cl)], [([.so (mkB x.key), .io .i64 x.st, .io .i64 x.en, .io .i64 x.kd, .io .i64 x.nt, .io .i64 x.ct, .io .i64 x.sm, .io .i64 x.mn, .io .i64 x.mx], 29)]⟩ (by kernel_rfl) (by kernel_rfl) ?_
    refine At.call PRows.stable 20 [.sl A nl c, .sl Al nl cl] (.v (.bool true)) (by kernel_rfl) (by kernel_rfl) (by kernel_rfl) (fun _ _ w1 hi hf => kept_any w1 (hf.1 (A, nl + 1, c, pv ls ++ markV) (by simp)).1 (hl.below hi.mem.below) hbig) ?_
    refine At.toJ (PRows.stable) PRows.fewer 0 300 [0, 3, 14] 1 ⟨.code (sub B5 [1, 1, 1, 1, 1, 1, 1, 1, 0, 1, 4]), [.block 0, .seq (sub B5 [1, 1, 1, 1, 1, 1, 1, 1, 1])], [(0, .sl Al nl cl), (3, .lp 0 0), (14, .v (.int .i64 0))], [([.so (mkB x.key), .io .i64 x.st, .io .i64 x.en, .io .i64 x.kd, .io .i64 x.nt, .io .i64 x.ct, .io .i64 x.sm, .io .i64 x.mn, .io .i64 x.mx], 29)]⟩ (by kernel_rfl) (by kernel_rfl) ?_
    refine At.canon _ rfl ?_
    refine At.loop (σ := Nat) (sub B5 [1, 1, 1, 1, 1, 1, 1, 1, 0, 1, 4, 4]) (frC Al nl cl) (locC x) (fun i _ _ => i ≤ nl) (fun i => nl - i) 0 (by kernel_rfl) (by unfold subFr; kernel_rfl) (by kernel_rfl) (fun _ _ _ _ h => Nat.zero_le _) ?_
    intro i
    refine At.mono (F' := fun ρ w => noF ρ w ∧ i ≤ nl) (fun ρ w h => ⟨trivial, h⟩) ?_
    refine At.pure fun h1 => ?_
    refine At.to (noF_stable) (noF_fewer) 0 300 [0, 3, 14, 68] 1 ⟨.code (sub B5 [1, 1, 1, 1, 1, 1, 1, 1, 0, 1, 4, 4, 0, 1]), [.seq (sub B5 [1, 1, 1, 1, 1, 1, 1, 1, 0, 1, 4, 4, 1]), .next (Sx.Next w.heap.size w Tryd.f5.ntmps (frC Al nl cl) (locC x) (fun i x x_1 => i ≤ nl) (fun i => nl - i) i), .block 0, .seq (sub B5 [1, 1, 1, 1, 1, 1, 1, 1, 1])], [(0, .sl Al nl cl), (3, .lp 0 0), (14, .io .i64 (↑i : Int)), (68, .bo (decide ((↑i : Int) < (↑nl : Int))))], [([.so (mkB x.key), .io .i64 x.st, .io .i64 x.en, .io .i64 x.kd, .io .i64 x.nt, .io .i64 x.ct, .io .i64 x.sm, .io .i64 x.mn, .io .i64 x.mx], 29)]⟩ (by kernel_rfl) (by kernel_rfl) ?_
    rcases Bool.eq_false_or_eq_true (decide ((↑i : Int) < (↑nl : Int))) with b0 | b0
    · refine At.res 68 (decide ((↑i : Int) < (↑nl : Int))) true (by kernel_rfl) b0 ?_
      refine At.to (noF_stable) (noF_fewer) 0 300 [0, 3, 14, 71, 72] 1 ⟨pqops B5 [1, 1, 1, 1, 1, 1, 1, 1, 0, 1, 4, 4, 1, 0, 4, 0] 2, [.seq (sub B5 [1, 1, 1, 1, 1, 1, 1, 1, 0, 1, 4, 4, 1, 0, 4, 1]), .block 1, .seq (sub B5 [1, 1, 1, 1, 1, 1, 1, 1, 0, 1, 4, 4, 1, 1]), .next (Sx.Next w.heap.size w Tryd.f5.ntmps (frC Al nl cl) (locC x) (fun i x x_1 => i ≤ nl) (fun i => nl - i) i), .block 0, .seq (sub B5 [1, 1, 1, 1, 1, 1, 1, 1, 1])], [(0, .sl Al nl cl), (3, .lp 0 0), (14, .io .i64 (↑i : Int)), (71, .sl Al nl cl), (72, .io .i64 (↑i : Int))], [([.so (mkB x.key), .io .i64 x.st, .io .i64 x.en, .io .i64 x.kd, .io .i64 x.nt, .io .i64 x.ct, .io .i64 x.sm, .io .i64 x.mn, .io .i64 x.mx], 29)]⟩ (by kernel_rfl) (by kernel_rfl) ?_
      have hi : i < nl := by have := of_decide_eq_true b0; omega
      clear b0
      obtain ⟨p, hp⟩ : ∃ p, ls[i]? = some p := ⟨_, List.getElem?_eq_getElem (by rw [hl.1]; omega)⟩
      obtain ⟨al, rfl⟩ := hl.some (by omega)
      refine At.idx al nl 9 (i : Int) (by kernel_rfl) (by omega) (by omega) noF_stable ?_
      refine At.lda (al.add ((i : Int).toNat * 9)) 9 (paneL (mkB p.key) p.st p.en p.kd p.nt p.ct p.sm p.mn p.mx) (by kernel_rfl) rfl noF_stable (fun ρ w1 hm' hf j v hj => hl.cell hm'.below hp hj) ?_
      refine At.to (noF_stable) (noF_fewer) 0 300 [0, 3, 14, 74, 75] 1 ⟨pqops B5 [1, 1, 1, 1, 1, 1, 1, 1, 0, 1, 4, 4, 1, 0, 4, 0] 5, [.seq (sub B5 [1, 1, 1, 1, 1, 1, 1, 1, 0, 1, 4, 4, 1, 0, 4, 1]), .block 1, .seq (sub B5 [1, 1, 1, 1, 1, 1, 1, 1, 0, 1, 4, 4, 1, 1]), .next (Sx.Next w.heap.size w Tryd.f5.ntmps (frC (some al) nl cl) (locC x) (fun i x x_1 => i ≤ nl) (fun i => nl - i) i), .block 0, .seq (sub B5 [1, 1, 1, 1, 1, 1, 1, 1, 1])], [(0, .sl (some al) nl cl), (3, .lp 0 0), (14, .io .i64 (↑i : Int)), (74, .agg [.so (mkB p.key), .io .i64 p.st, .io .i64 p.en, .io .i64 p.kd, .io .i64 p.nt, .io .i64 p.ct, .io .i64 p.sm, .io .i64 p.mn, .io .i64 p.mx]), (75, .agg [.so (mkB x.key), .io .i64 x.st, .io .i64 x.en, .io .i64 x.kd, .io .i64 x.nt, .io .i64 x.ct, .io .i64 x.sm, .io .i64 x.mn, .io .i64 x.mx])], [([.so (mkB x.key), .io .i64 x.st, .io .i64 x.en, .io .i64 x.kd, .io .i64 x.nt, .io .i64 x.ct, .io .i64 x.sm, .io .i64 x.mn, .io .i64 x.mx], 29)]⟩ (by kernel_rfl) (by kernel_rfl) ?_
      refine At.call noF_stable 21 [.agg (paneL (mkB p.key) p.st p.en p.kd p.nt p.ct p.sm p.mn p.mx), .agg (paneL (mkB x.key) x.st x.en x.kd x.nt x.ct x.sm x.mn x.mx)] (.io .i64 (cmpP p x)) (by kernel_rfl) (by kernel_rfl) (by kernel_rfl) (fun _ _ w1 hi _ => compare_any p x w1) ?_
      refine At.to (noF_stable) (noF_fewer) 0 300 [0, 3, 14, 76, 77, 78] 1 ⟨pqops B5 [1, 1, 1, 1, 1, 1, 1, 1, 0, 1, 4, 4, 1, 0, 4, 0] 8, [.seq (sub B5 [1, 1, 1, 1, 1, 1, 1, 1, 0, 1, 4, 4, 1, 0, 4, 1]), .block 1, .seq (sub B5 [1, 1, 1, 1, 1, 1, 1, 1, 0, 1, 4, 4, 1, 1]), .next (Sx.Next w.heap.size w Tryd.f5.ntmps (frC (some al) nl cl) (locC x) (fun i x x_1 => i ≤ nl) (fun i => nl - i) i), .block 0, .seq (sub B5 [1, 1, 1, 1, 1, 1, 1, 1, 1])], [(0, .sl (some al) nl cl), (3, .lp 0 0), (14, .io .i64 (↑i : Int)), (76, .io .i64 (cmpP p x)), (77, .sl (some al) nl cl), (78, .io .i64 (↑i : Int))], [([.so (mkB x.key), .io .i64 x.st, .io .i64 x.en, .io .i64 x.kd, .io .i64 x.nt, .io .i64 x.ct, .io .i64 x.sm, .io .i64 x.mn, .io .i64 x.mx], 29)]⟩ (by kernel_rfl) (by kernel_rfl) ?_
      refine At.idx al nl 9 (i : Int) (by kernel_rfl) (by omega) (by omega) noF_stable ?_
      refine At.lda (al.add ((i : Int).toNat * 9)) 9 (paneL (mkB p.key) p.st p.en p.kd p.nt p.ct p.sm p.mn p.mx) (by kernel_rfl) rfl noF_stable (fun ρ w1 hm' hf j v hj => hl.cell hm'.below hp hj) ?_
      refine At.to (noF_stable) (noF_fewer) 0 300 [0, 3, 14, 76, 80, 81] 1 ⟨pqops B5 [1, 1, 1, 1, 1, 1, 1, 1, 0, 1, 4, 4, 1, 0, 4, 0] 11, [.seq (sub B5 [1, 1, 1, 1, 1, 1, 1, 1, 0, 1, 4, 4, 1, 0, 4, 1]), .block 1, .seq (sub B5 [1, 1, 1, 1, 1, 1, 1, 1, 0, 1, 4, 4, 1, 1]), .next (Sx.Next w.heap.size w Tryd.f5.ntmps (frC (some al) nl cl) (locC x) (fun i x x_1 => i ≤ nl) (fun i => nl - i) i), .block 0, .seq (sub B5 [1, 1, 1, 1, 1, 1, 1, 1, 1])], [(0, .sl (some al) nl cl), (3, .lp 0 0), (14, .io .i64 (↑i : Int)), (76, .io .i64 (cmpP p x)), (80, .agg [.so (mkB p.key), .io .i64 p.st, .io .i64 p.en, .io .i64 p.kd, .io .i64 p.nt, .io .i64 p.ct, .io .i64 p.sm, .io .i64 p.mn, .io .i64 p.mx]), (81, .agg [.so (mkB x.key), .io .i64 x.st, .io .i64 x.en, .io .i64 x.kd, .io .i64 x.nt, .io .i64 x.ct, .io .i64 x.sm, .io .i64 x.mn, .io .i64 x.mx])], [([.so (mkB x.key), .io .i64 x.st, .io .i64 x.en, .io .i64 x.kd, .io .i64 x.nt, .io .i64 x.ct, .io .i64 x.sm, .io .i64 x.mn, .io .i64 x.mx], 29)]⟩ (by kernel_rfl) (by kernel_rfl) ?_
      refine At.call noF_stable 22 [.agg (paneL (mkB p.key) p.st p.en p.kd p.nt p.ct p.sm p.mn p.mx), .agg (paneL (mkB x.key) x.st x.en x.kd x.nt x.ct x.sm x.mn x.mx)] (.io .i64 (cmpP p x)) (by kernel_rfl) (by kernel_rfl) (by kernel_rfl) (fun _ _ w1 hi _ => rcompare_any p x w1) ?_
      refine At.to (noF_stable) (noF_fewer) 0 300 [0, 3, 14, 84] 1 ⟨pqops B5 [1, 1, 1, 1, 1, 1, 1, 1, 0, 1, 4, 4, 1, 0, 4, 0] 14, [.seq (sub B5 [1, 1, 1, 1, 1, 1, 1, 1, 0, 1, 4, 4, 1, 0, 4, 1]), .block 1, .seq (sub B5 [1, 1, 1, 1, 1, 1, 1, 1, 0, 1, 4, 4, 1, 1]), .next (Sx.Next w.heap.size w Tryd.f5.ntmps (frC (some al) nl cl) (locC x) (fun i x x_1 => i ≤ nl) (fun i => nl - i) i), .block 0, .seq (sub B5 [1, 1, 1, 1, 1, 1, 1, 1, 1])], [(0, .sl (some al) nl cl), (3, .lp 0 0), (14, .io .i64 (↑i : Int)), (84, .bo (cmpP p x != cmpP p x))], [([.so (mkB x.key), .io .i64 x.st, .io .i64 x.en, .io .i64 x.kd, .io .i64 x.nt, .io .i64 x.ct, .io .i64 x.sm, .io .i64 x.mn, .io .i64 x.mx], 29)]⟩ (by kernel_rfl) (by kernel_rfl) ?_
      refine At.res 84 (cmpP p x != cmpP p x) false (by kernel_rfl) (by first | assumption | (simp only [*]; done) | (simp [*]; done)) ?_
      refine At.to (noF_stable) (noF_fewer) 0 300 [0, 3, 14, 84, 85, 86, 87] 1 ⟨pqops B5 [1, 1, 1, 1, 1, 1, 1, 1, 0, 1, 4, 4, 1, 0, 4, 0] 17, [.seq (sub B5 [1, 1, 1, 1, 1, 1, 1, 1, 0, 1, 4, 4, 1, 0, 4, 1]), .block 1, .seq (sub B5 [1, 1, 1, 1, 1, 1, 1, 1, 0, 1, 4, 4, 1, 1]), .next (Sx.Next w.heap.size w Tryd.f5.ntmps (frC (some al) nl cl) (locC x) (fun i x x_1 => i ≤ nl) (fun i => nl - i) i), .block 0, .seq (sub B5 [1, 1, 1, 1, 1, 1, 1, 1, 1])], [(0, .sl (some al) nl cl), (3, .lp 0 0), (14, .io .i64 (↑i : Int)), (84, .v (.bool false)), (85, .agg [.so (mkB x.key), .io .i64 x.st, .io .i64 x.en, .io .i64 x.kd, .io .i64 x.nt, .io .i64 x.ct, .io .i64 x.sm, .io .i64 x.mn, .io .i64 x.mx]), (86, .sl (some al) nl cl), (87, .io .i64 (↑i : Int))], [([.so (mkB x.key), .io .i64 x.st, .io .i64 x.en, .io .i64 x.kd, .io .i64 x.nt, .io .i64 x.ct, .io .i64 x.sm, .io .i64 x.mn, .io .i64 x.mx], 29)]⟩ (by kernel_rfl) (by kernel_rfl) ?_
      refine At.idx al nl 9 (i : Int) (by kernel_rfl) (by omega) (by omega) noF_stable ?_
      refine At.lda (al.add ((i : Int).toNat * 9)) 9 (paneL (mkB p.key) p.st p.en p.kd p.nt p.ct p.sm p.mn p.mx) (by kernel_rfl) rfl noF_stable (fun ρ w1 hm' hf j v hj => hl.cell hm'.below hp hj) ?_
      refine At.to (noF_stable) (noF_fewer) 0 300 [0, 3, 14, 84, 85, 89] 1 ⟨pqops B5 [1, 1, 1, 1, 1, 1, 1, 1, 0, 1, 4, 4, 1, 0, 4, 0] 19, [.seq (sub B5 [1, 1, 1, 1, 1, 1, 1, 1, 0, 1, 4, 4, 1, 0, 4, 1]), .block 1, .seq (sub B5 [1, 1, 1, 1, 1, 1, 1, 1, 0, 1, 4, 4, 1, 1]), .next (Sx.Next w.heap.size w Tryd.f5.ntmps (frC (some al) nl cl) (locC x) (fun i x x_1 => i ≤ nl) (fun i => nl - i) i), .block 0, .seq (sub B5 [1, 1, 1, 1, 1, 1, 1, 1, 1])], [(0, .sl (some al) nl cl), (3, .lp 0 0), (14, .io .i64 (↑i : Int)), (84, .v (.bool false)), (85, .agg [.so (mkB x.key), .io .i64 x.st, .io .i64 x.en, .io .i64 x.kd, .io .i64 x.nt, .io .i64 x.ct, .io .i64 x.sm, .io .i64 x.mn, .io .i64 x.mx]), (89, .agg [.so (mkB p.key), .io .i64 p.st, .io .i64 p.en, .io .i64 p.kd, .io .i64 p.nt, .io .i64 p.ct, .io .i64 p.sm, .io .i64 p.mn, .io .i64 p.mx])], [([.so (mkB x.key), .io .i64 x.st, .io .i64 x.en, .io .i64 x.kd, .io .i64 x.nt, .io .i64 x.ct, .io .i64 x.sm, .io .i64 x.mn, .io .i64 x.mx], 29)]⟩ (by kernel_rfl) (by kernel_rfl) ?_
      refine At.call noF_stable 21 [.agg (paneL (mkB x.key) x.st x.en x.kd x.nt x.ct x.sm x.mn x.mx), .agg (paneL (mkB p.key) p.st p.en p.kd p.nt p.ct p.sm p.mn p.mx)] (.io .i64 (cmpP x p)) (by kernel_rfl) (by kernel_rfl) (by kernel_rfl) (fun _ _ w1 hi _ => compare_any x p w1) ?_
      refine At.to (noF_stable) (noF_fewer) 0 300 [0, 3, 14, 84, 90, 91, 92, 93] 1 ⟨pqops B5 [1, 1, 1, 1, 1, 1, 1, 1, 0, 1, 4, 4, 1, 0, 4, 0] 23, [.seq (sub B5 [1, 1, 1, 1, 1, 1, 1, 1, 0, 1, 4, 4, 1, 0, 4, 1]), .block 1, .seq (sub B5 [1, 1, 1, 1, 1, 1, 1, 1, 0, 1, 4, 4, 1, 1]), .next (Sx.Next w.heap.size w Tryd.f5.ntmps (frC (some al) nl cl) (locC x) (fun i x x_1 => i ≤ nl) (fun i => nl - i) i), .block 0, .seq (sub B5 [1, 1, 1, 1, 1, 1, 1, 1, 1])], [(0, .sl (some al) nl cl), (3, .lp 0 0), (14, .io .i64 (↑i : Int)), (84, .v (.bool false)), (90, .io .i64 (cmpP x p)), (91, .agg [.so (mkB x.key), .io .i64 x.st, .io .i64 x.en, .io .i64 x.kd, .io .i64 x.nt, .io .i64 x.ct, .io .i64 x.sm, .io .i64 x.mn, .io .i64 x.mx]), (92, .sl (some al) nl cl), (93, .io .i64 (↑i : Int))], [([.so (mkB x.key), .io .i64 x.st, .io .i64 x.en, .io .i64 x.kd, .io .i64 x.nt, .io .i64 x.ct, .io .i64 x.sm, .io .i64 x.mn, .io .i64 x.mx], 29)]⟩ (by kernel_rfl) (by kernel_rfl) ?_
      refine At.idx al nl 9 (i : Int) (by kernel_rfl) (by omega) (by omega) noF_stable ?_
      refine At.lda (al.add ((i : Int).toNat * 9)) 9 (paneL (mkB p.key) p.st p.en p.kd p.nt p.ct p.sm p.mn p.mx) (by kernel_rfl) rfl noF_stable (fun ρ w1 hm' hf j v hj => hl.cell hm'.below hp hj) ?_
      refine At.to (noF_stable) (noF_fewer) 0 300 [0, 3, 14, 84, 90, 91, 95] 1 ⟨pqops B5 [1, 1, 1, 1, 1, 1, 1, 1, 0, 1, 4, 4, 1, 0, 4, 0] 25, [.seq (sub B5 [1, 1, 1, 1, 1, 1, 1, 1, 0, 1, 4, 4, 1, 0, 4, 1]), .block 1, .seq (sub B5 [1, 1, 1, 1, 1, 1, 1, 1, 0, 1, 4, 4, 1, 1]), .next (Sx.Next w.heap.size w Tryd.f5.ntmps (frC (some al) nl cl) (locC x) (fun i x x_1 => i ≤ nl) (fun i => nl - i) i), .block 0, .seq (sub B5 [1, 1, 1, 1, 1, 1, 1, 1, 1])], [(0, .sl (some al) nl cl), (3, .lp 0 0), (14, .io .i64 (↑i : Int)), (84, .v (.bool false)), (90, .io .i64 (cmpP x p)), (91, .agg [.so (mkB x.key), .io .i64 x.st, .io .i64 x.en, .io .i64 x.kd, .io .i64 x.nt, .io .i64 x.ct, .io .i64 x.sm, .io .i64 x.mn, .io .i64 x.mx]), (95, .agg [.so (mkB p.key), .io .i64 p.st, .io .i64 p.en, .io .i64 p.kd, .io .i64 p.nt, .io .i64 p.ct, .io .i64 p.sm, .io .i64 p.mn, .io .i64 p.mx])], [([.so (mkB x.key), .io .i64 x.st, .io .i64 x.en, .io .i64 x.kd, .io .i64 x.nt, .io .i64 x.ct, .io .i64 x.sm, .io .i64 x.mn, .io .i64 x.mx], 29)]⟩ (by kernel_rfl) (by kernel_rfl) ?_
      refine At.call noF_stable 22 [.agg (paneL (mkB x.key) x.st x.en x.kd x.nt x.ct x.sm x.mn x.mx), .agg (paneL (mkB p.key) p.st p.en p.kd p.nt p.ct p.sm p.mn p.mx)] (.io .i64 (cmpP x p)) (by kernel_rfl) (by kernel_rfl) (by kernel_rfl) (fun _ _ w1 hi _ => rcompare_any x p w1) ?_
      refine At.to (noF_stable) (noF_fewer) 0 300 [0, 3, 14, 98] 1 ⟨.code (sub B5 [1, 1, 1, 1, 1, 1, 1, 1, 0, 1, 4, 4, 1, 0, 4, 1]), [.block 1, .seq (sub B5 [1, 1, 1, 1, 1, 1, 1, 1, 0, 1, 4, 4, 1, 1]), .next (Sx.Next w.heap.size w Tryd.f5.ntmps (frC (some al) nl cl) (locC x) (fun i x x_1 => i ≤ nl) (fun i => nl - i) i), .block 0, .seq (sub B5 [1, 1, 1, 1, 1, 1, 1, 1, 1])], [(0, .sl (some al) nl cl), (3, .lp 0 0), (14, .io .i64 (↑i : Int)), (98, .bo (cmpP x p != cmpP x p))], [([.so (mkB x.key), .io .i64 x.st, .io .i64 x.en, .io .i64 x.kd, .io .i64 x.nt, .io .i64 x.ct, .io .i64 x.sm, .io .i64 x.mn, .io .i64 x.mx], 29)]⟩ (by kernel_rfl) (by kernel_rfl) ?_
      refine At.res 98 (cmpP x p != cmpP x p) false (by kernel_rfl) (by first | assumption | (simp only [*]; done) | (simp [*]; done)) ?_
      refine At.to (noF_stable) (noF_fewer) 0 300 [0, 3, 14] 1 ⟨.exit .normal, [.next (Sx.Next w.heap.size w Tryd.f5.ntmps (frC (some al) nl cl) (locC x) (fun i x x_1 => i ≤ nl) (fun i => nl - i) i), .block 0, .seq (sub B5 [1, 1, 1, 1, 1, 1, 1, 1, 1])], [(0, .sl (some al) nl cl), (3, .lp 0 0), (14, .io .i64 (IntKind.i64.wrap ((↑i : Int) + 1)))], [([.so (mkB x.key), .io .i64 x.st, .io .i64 x.en, .io .i64 x.kd, .io .i64 x.nt, .io .i64 x.ct, .io .i64 x.sm, .io .i64 x.mn, .io .i64 x.mx], 29)]⟩ (by kernel_rfl) (by kernel_rfl) ?_
      have hw3 : IntKind.i64.wrap ((i : Int) + 1) = ((i + 1 : Nat) : Int) := by
        rw [wrap63 (by omega) (by omega)]
        omega
      rw [hw3]
      refine At.next (σ := Nat) (i + 1) rfl rfl (by unfold subFr; kernel_rfl) (by kernel_rfl) ?_ ?_
      · intro ρ a' w' hi' hf
        show i + 1 ≤ nl
        omega
      · show nl - (i + 1) < nl - i
        omega
    · refine At.res 68 (decide ((↑i : Int) < (↑nl : Int))) false (by kernel_rfl) b0 ?_
      refine At.to (noF_stable) (noF_fewer) 0 300 [99, 100] 0 ⟨pops B5 [1, 1, 1, 1, 1, 1, 1, 1, 1, 0] 2, [.seq (sub B5 [1, 0, 1, 2, 1])], [(99, .agg [.so (mkB x.key), .io .i64 x.st, .io .i64 x.en, .io .i64 x.kd, .io .i64 x.nt, .io .i64 x.ct, .io .i64 x.sm, .io .i64 x.mn, .io .i64 x.mx]), (100, .agg [.so (mkB x.key), .io .i64 x.st, .io .i64 x.en, .io .i64 x.kd, .io .i64 x.nt, .io .i64 x.ct, .io .i64 x.sm, .io .i64 x.mn, .io .i64 x.mx])], []⟩ (by kernel_rfl) (by kernel_rfl) ?_
      clear b0
      refine At.call noF_stable 21 [.agg (paneL (mkB x.key) x.st x.en x.kd x.nt x.ct x.sm x.mn x.mx), .agg (paneL (mkB x.key) x.st x.en x.kd x.nt x.ct x.sm x.mn x.mx)] (.v (.int .i64 0)) (by kernel_rfl) (by kernel_rfl) (by kernel_rfl) (fun _ _ w1 hi _ => (compare_any x x w1).mono fun e w2 h => ⟨h.1.trans (by rw [cmpP_self]; rfl), h.2⟩) ?_
      refine At.to (noF_stable) (noF_fewer) 20 300 [103] 0 ⟨pops B5 [1, 1, 1, 1, 1, 1, 1, 1, 1, 0] 5, [.seq (sub B5 [1, 0, 1, 2, 1])], [(103, .v (.bool true))], []⟩ (by kernel_rfl) (by kernel_rfl) ?_
      refine At.call noF_stable 7 [] (.v (.bool true)) (by kernel_rfl) (by kernel_rfl) (by kernel_rfl) (fun _ _ w1 hi _ => known_any w1 (tab_below htp hi.mem.below rfl) (var_below hs1 hi.mem.below) (var_below hs2 hi.mem.below) (cell_below hm hi.mem.below)) ?_
      refine At.to (noF_stable) (noF_fewer) 20 300 [4] 0 ⟨.exit .ret, [], [(4, .v (.bool true))], []⟩ (by kernel_rfl) (by kernel_rfl) ?_
      refine At.ret (by kernel_rfl) (.v (.bool true)) (by kernel_rfl) ?_
      intro ρ w9 hm' hf
      exact ⟨rfl, hm'.below⟩

end Go.Proofs.YtkjnbafdmjakgaaDoor
