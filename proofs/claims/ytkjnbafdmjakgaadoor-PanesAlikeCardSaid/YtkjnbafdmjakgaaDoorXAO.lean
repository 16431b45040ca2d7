/- Joined texts: TW, TX, TY. -/
import Derived.Test.YtkjnbafdmjakgaaDoorXAN
set_option linter.unusedSimpArgs false
set_option linter.unusedVariables false
namespace Go.Sx
open Go
def pAO0 : List Nat := [1, 1, 1, 0, 1, 4, 4, 1, 1, 0, 4, 1, 1, 0, 1]
def pAO1 : List Nat := [1, 1, 1, 0, 1, 4, 4, 1, 1, 0, 4, 1, 1, 1]
def pAO2 : List Nat := [1, 1, 0, 1, 4, 4, 1, 1, 0, 4, 1]
def pAO3 : List Nat := [1, 1, 1, 0, 1, 4, 4, 1, 1, 1]
def pAO4 : List Nat := [1, 1, 1, 1]
end Go.Sx
section
--@TW
namespace Go.Proofs.YtkjnbafdmjakgaaDoor
open Go.RowKit Go.Sx
def MBL (N m : Nat) (M : List ME) (clk : Nat) (L : List Sx.Rw) (ρ : List Nat) (w : World) : Prop := MapF m (esOf M) clk ρ w ∧ Rws N L ρ w
theorem MBL.stable {N m : Nat} {M : List ME} {clk : Nat} {L : List Sx.Rw} : Stable (MBL N m M clk L) := MapF.stable.and Rws.stable
theorem MBL.fewer {N m : Nat} {M : List ME} {clk : Nat} {L : List Sx.Rw} : FewerK 0 (MBL N m M clk L) := FewerK.and2 MapF.fewerK Rws.fewer
theorem MBL.grown {N m : Nat} {M : List ME} {clk : Nat} {L : List Sx.Rw} {x y : Sx.Rw} {ρ : List Nat} {w w' : World} (h : MBL N m M clk (x :: L) ρ w) (hy : Row N y.e y.size y.A y.n y.c y.xs ρ w') (hg : w.grownBy w' x.own) (ho : y.own = x.own ∨ y.own = some w.heap.size ∨ y.own = none) : MBL N m M clk (y :: L) ρ w' :=
 ⟨Rec.grown h.1 hg (row_not (h.2.1 x (List.mem_cons_self ..)) h.1.1 (fun _ _ _ => by simp)), h.2.grown hy hg ho⟩
theorem MBL.set {N m : Nat} {M M' : List ME} {clk clk' : Nat} {L : List Sx.Rw} {ρ : List Nat} {w : World} (h : MBL N m M clk L ρ w) : MBL N m M' clk' L ρ { w with heap := w.heap.setIfInBounds m (.map (esOf M') clk') } :=
 ⟨h.1.set _ _, fun x hx => (h.2.1 x hx).setMap h.1.1 _, h.2.2⟩
structure BY where
 i : Nat
 M : List ME
 clk : Nat
def frBY (m : Nat) (Aa : Option Addr) (na ca : Nat) (Ab : Option Addr) (nb cb : Nat) : BY → Fr
 | ⟨i, M, clk⟩ => [(0, .sl Aa na ca), (5, .v (.map (some m))), (12, .sl Ab nb cb), (13, .io .i64 (nb : Int)), (14, .io .i64 (i : Int))]
def frCY (m : Nat) (Aa : Option Addr) (na ca : Nat) : BY → Fr
 | ⟨i, M, clk⟩ => [(5, .v (.map (some m))), (29, .sl Aa na ca), (30, .io .i64 (na : Int)), (31, .io .i64 (i : Int))]
def locBY (_ : BY) : Sx.Loc := []
def GBY (w0 : World) (vb : List Pn) (m : Nat) : BY → List Nat → World → Prop
 | ⟨i, M, clk⟩, ρ, w => MBL w0.heap.size m M clk (M.map rowM) ρ w ∧ (i ≤ vb.length ∧ (∀ k, mps k M = grp k (vb.take i)) ∧ ∀ y ∈ M, y.s.n = y.ps.length)
def GCY (w0 : World) (va : List Pn) (m : Nat) (L : List Sx.Rw) (R : Bool) : BY → List Nat → World → Prop
 | ⟨i, M, clk⟩, ρ, w => MBL w0.heap.size m M clk L ρ w ∧ (i ≤ va.length ∧ begK (fun k => mps k M) (va.drop i) = R ∧ ∀ y ∈ M, Suf L y.s y.ps)
set_option maxHeartbeats 20000000 in
set_option maxRecDepth 100000 in
theorem begins_any {Aa Ab : Option Addr} {na ca nb cb : Nat} {va vb : List Pn} (w : World) (ha : SlP w Aa na va) (hb : SlP w Ab nb vb) (hna : na ≤ 1000) (hnb : nb ≤ 1000) :
  Calls Tryd.prog 26 #[.slice Aa na ca, .slice Ab nb cb] w fun e w' => e = .returned (.bool (begB va vb)) ∧ Below w.heap.size w w' := by
 have hla := ha.1
 have hlb := hb.1
 refine enter (fn := Tryd.f26) (c := B26) [.sl Aa na ca, .sl Ab nb cb] Tryd.func26 rfl rfl ?_
 refine At.to (noF_stable) (noF_fewer) 0 300 [0, 1] 0 ⟨pops B26 [1, 0] 0, [.seq (sub B26 [1, 1])], [(0, .sl Aa na ca), (1, .sl Ab nb cb)], []⟩ (by kernel_rfl) (by kernel_rfl) ?_
 refine At.mkMap (by kernel_rfl) noF_stable (fun m hN => ?_)
 refine At.mono (F' := MBL w.heap.size m [] 0 []) (fun ρ w h => ⟨h.2, Rws.none _ _ _⟩) ?_
 refine At.toJ (MBL.stable) MBL.fewer 0 300 [0, 5, 12, 13, 14] 0 ⟨.code (sub B26 [1, 1, 0, 1, 4]), [.block 0, .seq (sub B26 [1, 1, 1])], [(0, .sl Aa na ca), (5, .v (.map (some m))), (12, .sl Ab nb cb), (13, .io .i64 (↑nb : Int)), (14, .v (.int .i64 0))], []⟩ (by kernel_rfl) (by kernel_rfl) ?_
 refine At.canon _ rfl ?_
 refine At.slFr _ rfl ?_
 refine At.loop (σ := BY) (sub B26 [1, 1, 0, 1, 4, 4]) (frBY m Aa na ca Ab nb cb) locBY (GBY w vb m) (fun x => nb - x.i) ⟨0, [], 0⟩ (by kernel_rfl) (by unfold subFr; kernel_rfl) (by kernel_rfl) (fun _ _ _ _ h => ⟨h, Nat.zero_le _, fun k => rfl, fun y hy => by cases hy⟩) ?_
 rintro ⟨i, M, clk⟩
 refine At.pure fun ⟨h1, h2, h3⟩ => ?_
 refine At.toJ (MBL.stable) MBL.fewer 0 300 [0, 5, 12, 13, 14, 15] 0 ⟨.code (sub B26 [1, 1, 0, 1, 4, 4, 1, 0]), [.seq (sub B26 [1, 1, 0, 1, 4, 4, 1, 1]), .next (Sx.Next w.heap.size w Tryd.f26.ntmps (frBY m Aa na ca Ab nb cb) locBY (GBY w vb m) (fun x => nb - x.i) (BY.mk i M clk)), .block 0, .seq (sub B26 [1, 1, 1])], [(0, .sl Aa na ca), (5, .v (.map (some m))), (12, .sl Ab nb cb), (13, .io .i64 (↑nb : Int)), (14, .io .i64 (↑i : Int)), (15, .bo (decide ((↑i : Int) < (↑nb : Int))))], []⟩ (by kernel_rfl) (by kernel_rfl) ?_
 rcases Bool.eq_false_or_eq_true (decide ((↑i : Int) < (↑nb : Int))) with b0 | b0
 ·refine At.res 15 (decide ((↑i : Int) < (↑nb : Int))) true (by kernel_rfl) b0 ?_
  refine At.toJ (MBL.stable) MBL.fewer 0 300 [0, 5, 12, 13, 14] 0 ⟨pops B26 [1, 1, 0, 1, 4, 4, 1, 1, 0, 4, 0] 0, [.seq (sub B26 pAO2), .block 1, .seq (sub B26 [1, 1, 0, 1, 4, 4, 1, 1, 1]), .next (Sx.Next w.heap.size w Tryd.f26.ntmps (frBY m Aa na ca Ab nb cb) locBY (GBY w vb m) (fun x => nb - x.i) (BY.mk i M clk)), .block 0, .seq (sub B26 [1, 1, 1])], [(0, .sl Aa na ca), (5, .v (.map (some m))), (12, .sl Ab nb cb), (13, .io .i64 (↑nb : Int)), (14, .io .i64 (↑i : Int))], []⟩ (by kernel_rfl) (by kernel_rfl) ?_
  have hi : i < nb := by have := of_decide_eq_true b0; omega
  clear b0
  obtain ⟨q, hq⟩ : ∃ q, vb[i]? = some q := ⟨_, List.getElem?_eq_getElem (by rw [hb.1]; exact hi)⟩
  obtain ⟨al, rfl⟩ := hb.some (by omega)
  refine At.idx al nb 9 (i : Int) (by kernel_rfl) (by omega) (by omega) MBL.stable ?_
  refine At.lda (al.add ((i : Int).toNat * 9)) 9 [.so (mkB q.key), .io .i64 q.st, .io .i64 q.en, .io .i64 q.kd, .io .i64 q.nt, .io .i64 q.ct, .io .i64 q.sm, .io .i64 q.mn, .io .i64 q.mx] (by kernel_rfl) rfl MBL.stable (fun ρ w1 hm' hf j v hj => hb.cell hm'.below hq hj) ?_
  obtain ⟨R, hR1, hR2⟩ := mput_rows q.key M
  have hps : mps q.key M = grp q.key (vb.take i) := h2 q.key
  have hpl : (mps q.key M).length ≤ i := by
   rw [hps]
   exact Nat.le_trans (grp_le _ _) (by rw [List.length_take]; omega)
  have hsl : (msl q.key M).n = (mps q.key M).length := by
   rcases msl_mem q.key M with ⟨e1, e2, _⟩ | ⟨y, hy, e1, e2⟩
   ·rw [e1, e2]; rfl
   ·rw [e1, e2]; exact h3 y hy
  refine At.mono (F' := MBL w.heap.size m M clk (⟨29, 9, (msl q.key M).A, (msl q.key M).n, (msl q.key M).c, pv (mps q.key M)⟩ :: R)) (fun ρ w1 hf => ⟨hf.1, ?_⟩) ?_
  ·rcases hR1 with ⟨e1, e2⟩ | e1
   ·rw [e2, show msl q.key M = ⟨none, 0, 0⟩ by unfold msl; rw [e1], show mps q.key M = [] by unfold mps; rw [e1]]
    exact hf.2.nil 29 9
   ·exact hf.2.perm e1.symm
  obtain ⟨s, hs⟩ : ∃ s, msl q.key M = s := ⟨_, rfl⟩
  obtain ⟨ps, hp⟩ : ∃ ps, mps q.key M = ps := ⟨_, rfl⟩
  rw [hs, hp] at hsl hR1
  rw [hp] at hpl hps
  rw [hs, hp]
  refine At.toJ (MBL.stable) MBL.fewer 0 300 [0, 5, 7, 12, 13, 14] 1 ⟨.any (opsOf (sub B26 pAO2)) 11 [], [.block 1, .seq (sub B26 [1, 1, 0, 1, 4, 4, 1, 1, 1]), .next (Sx.Next w.heap.size w Tryd.f26.ntmps (frBY m Aa na ca (some al) nb cb) locBY (GBY w vb m) (fun x => nb - x.i) (BY.mk i M clk)), .block 0, .seq (sub B26 [1, 1, 1])], [(0, .sl Aa na ca), (5, .v (.map (some m))), (7, .lp 0 0), (12, .sl (some al) nb cb), (13, .io .i64 (↑nb : Int)), (14, .io .i64 (↑i : Int))], [([.so (mkB q.key), .io .i64 q.st, .io .i64 q.en, .io .i64 q.kd, .io .i64 q.nt, .io .i64 q.ct, .io .i64 q.sm, .io .i64 q.mn, .io .i64 q.mx], 29)]⟩ (by kernel_rfl) (by kernel_rfl) ?_
  refine At.cutN (σ := Option Addr × Nat) (fun x => [(0, .sl Aa na ca), (5, .v (.map (some m))), (12, .sl (some al) nb cb), (13, .io .i64 (↑nb : Int)), (14, .io .i64 (↑i : Int))]) (fun x => []) (fun x => MBL w.heap.size m (mput q.key ⟨x.1, s.n + 1, x.2⟩ (ps ++ [q]) clk M) (mclk q.key clk M) (⟨29, 9, x.1, s.n + 1, x.2, pv (ps ++ [q])⟩ :: R)) rfl ?_ (fun x => ?_)
  ·refine At.purify0 (fun e a w h => h.1) 20 ?_
   refine At.takeLoad (fun e a w h => h.1) 5 (.so (mkB q.key)) [6, 9, 10] (by kernel_rfl) (by kernel_rfl) (by kernel_rfl) ?_
   refine At.takeLk (fun e a w h => h.1) 6 (.sl s.A s.n s.c) [9, 10] m (.so (mkB q.key)) (.slice none 0 0) (mkB q.key) (esOf M) clk (midx q.key M 0) (by kernel_rfl) (by kernel_rfl) (by kernel_rfl) (fun _ => rfl) (find_es _ _) (fun _ => ?_) (fun ρ w h => h.1) ?_
   ·rw [midx_val, ← hs]
    unfold msl
    cases mget q.key M <;> rfl
   refine At.takeLoad (fun e a w h => h.1) 7 (.agg [.so (mkB q.key), .io .i64 q.st, .io .i64 q.en, .io .i64 q.kd, .io .i64 q.nt, .io .i64 q.ct, .io .i64 q.sm, .io .i64 q.mn, .io .i64 q.mx]) [8, 9, 10] (by kernel_rfl) (by kernel_rfl) (by kernel_rfl) ?_
   refine At.purify0 (fun e a w h => h.1) 20 ?_
   refine At.toJ (MBL.stable) MBL.fewer 0 300 [0, 5, 12, 13, 14, 18, 19, 24, 25] 1 ⟨.any (opsOf (sub B26 pAO2)) 4 [7, 6, 5, 4, 3, 1, 0], [], [(0, .sl Aa na ca), (5, .v (.map (some m))), (12, .sl (some al) nb cb), (13, .io .i64 (↑nb : Int)), (14, .io .i64 (↑i : Int)), (18, .v (.map (some m))), (19, .lp 0 0), (24, .sl s.A s.n s.c), (25, .agg [.so (mkB q.key), .io .i64 q.st, .io .i64 q.en, .io .i64 q.kd, .io .i64 q.nt, .io .i64 q.ct, .io .i64 q.sm, .io .i64 q.mn, .io .i64 q.mx])], [([.so (mkB q.key), .io .i64 q.st, .io .i64 q.en, .io .i64 q.kd, .io .i64 q.nt, .io .i64 q.ct, .io .i64 q.sm, .io .i64 q.mn, .io .i64 q.mx], 29)]⟩ (by kernel_rfl) (by kernel_rfl) ?_
   refine At.fork [2, 8] rfl (by kernel_rfl) rfl (allOf.cons ?_ (allOf.cons ?_ allOf.nil))
   ·refine At.toJ (MBL.stable) MBL.fewer 0 300 [0, 5, 12, 13, 14, 18, 20, 24, 26] 2 ⟨.ops (opsOf (sub B26 pAO2)) (((opsOf (sub B26 pAO2)).toList.drop 9).take 1), [.any (opsOf (sub B26 pAO2)) 1 [9, 8, 2, 7, 6, 5, 4, 3, 1, 0]], [(0, .sl Aa na ca), (5, .v (.map (some m))), (12, .sl (some al) nb cb), (13, .io .i64 (↑nb : Int)), (14, .io .i64 (↑i : Int)), (18, .v (.map (some m))), (20, .so (mkB q.key)), (24, .sl s.A s.n s.c), (26, .ls 1 0 1 1)], [([.so (mkB q.key), .io .i64 q.st, .io .i64 q.en, .io .i64 q.kd, .io .i64 q.nt, .io .i64 q.ct, .io .i64 q.sm, .io .i64 q.mn, .io .i64 q.mx], 29), ([.so (mkB q.key), .io .i64 q.st, .io .i64 q.en, .io .i64 q.kd, .io .i64 q.nt, .io .i64 q.ct, .io .i64 q.sm, .io .i64 q.mn, .io .i64 q.mx], 29)]⟩ (by kernel_rfl) (by kernel_rfl) ?_
    refine At.appVX (F' := fun A' c' => MBL w.heap.size m M clk (⟨29, 9, A', s.n + 1, c', pv (ps ++ [q])⟩ :: R)) 35 29 9 80 s.A s.n s.c 1 [.so (mkB q.key), .io .i64 q.st, .io .i64 q.en, .io .i64 q.kd, .io .i64 q.nt, .io .i64 q.ct, .io .i64 q.sm, .io .i64 q.mn, .io .i64 q.mx] (pv ps) q.cells (by kernel_rfl) (fun _ => rfl) (by omega) (by simp only [maxLen]; omega) (fun ρ w1 hf => hf.2.1 _ (List.mem_cons_self ..)) (fun ρ w1 w2 A' c' hm hf hr hg ho => hf.grown (y := ⟨29, 9, A', s.n + 1, c', pv (ps ++ [q])⟩) (by rw [pv_app]; exact hr) hg (ho.imp id .inl)) (fun A' c' => ?_)
    refine At.toJ (MBL.stable) MBL.fewer 0 300 [0, 5, 12, 13, 14, 18, 20, 27] 0 ⟨.ops (opsOf (sub B26 pAO2)) (((opsOf (sub B26 pAO2)).toList.drop 10).take 1), [.any (opsOf (sub B26 pAO2)) 0 [10, 9, 8, 2, 7, 6, 5, 4, 3, 1, 0]], [(0, .sl Aa na ca), (5, .v (.map (some m))), (12, .sl (some al) nb cb), (13, .io .i64 (↑nb : Int)), (14, .io .i64 (↑i : Int)), (18, .v (.map (some m))), (20, .so (mkB q.key)), (27, .sl A' (s.n + 1) c')], []⟩ (by kernel_rfl) (by kernel_rfl) ?_
    refine At.mapPutE m (.so (mkB q.key)) (.sl A' (s.n + 1) c') (mkB q.key) (.slice A' (s.n + 1) c') (esOf M) clk (midx q.key M 0) (esOf (mput q.key ⟨A', s.n + 1, c'⟩ (ps ++ [q]) clk M)) (mclk q.key clk M) (by kernel_rfl) (fun _ => rfl) (fun _ => rfl) (find_es _ _) midx_es (putE_es q.key ⟨A', s.n + 1, c'⟩ (ps ++ [q]) clk M) hN (fun ρ w h => h.1) (fun ρ w h => MBL.set h) ?_
    refine At.toJ (MBL.stable) MBL.fewer 0 300 [0, 5, 12, 13, 14] 0 ⟨.exit .normal, [], [(0, .sl Aa na ca), (5, .v (.map (some m))), (12, .sl (some al) nb cb), (13, .io .i64 (↑nb : Int)), (14, .io .i64 (↑i : Int))], []⟩ (by kernel_rfl) (by kernel_rfl) ?_
    exact At.fin (A', c') rfl rfl (by unfold subFr; kernel_rfl) rfl (fun _ _ _ _ h => h)
   ·refine At.toJ (MBL.stable) MBL.fewer 0 300 [0, 5, 12, 13, 14, 18, 19, 24, 26] 2 ⟨.any (opsOf (sub B26 pAO2)) 3 [8, 7, 6, 5, 4, 3, 1, 0], [], [(0, .sl Aa na ca), (5, .v (.map (some m))), (12, .sl (some al) nb cb), (13, .io .i64 (↑nb : Int)), (14, .io .i64 (↑i : Int)), (18, .v (.map (some m))), (19, .lp 0 0), (24, .sl s.A s.n s.c), (26, .ls 1 0 1 1)], [([.so (mkB q.key), .io .i64 q.st, .io .i64 q.en, .io .i64 q.kd, .io .i64 q.nt, .io .i64 q.ct, .io .i64 q.sm, .io .i64 q.mn, .io .i64 q.mx], 29), ([.so (mkB q.key), .io .i64 q.st, .io .i64 q.en, .io .i64 q.kd, .io .i64 q.nt, .io .i64 q.ct, .io .i64 q.sm, .io .i64 q.mn, .io .i64 q.mx], 29)]⟩ (by kernel_rfl) (by kernel_rfl) ?_
    refine At.fork [2, 9] rfl (by kernel_rfl) rfl (allOf.cons ?_ (allOf.cons ?_ allOf.nil))
    ·refine At.toJ (MBL.stable) MBL.fewer 0 300 [0, 5, 12, 13, 14, 18, 20, 24, 26] 2 ⟨.ops (opsOf (sub B26 pAO2)) (((opsOf (sub B26 pAO2)).toList.drop 9).take 1), [.any (opsOf (sub B26 pAO2)) 1 [9, 2, 8, 7, 6, 5, 4, 3, 1, 0]], [(0, .sl Aa na ca), (5, .v (.map (some m))), (12, .sl (some al) nb cb), (13, .io .i64 (↑nb : Int)), (14, .io .i64 (↑i : Int)), (18, .v (.map (some m))), (20, .so (mkB q.key)), (24, .sl s.A s.n s.c), (26, .ls 1 0 1 1)], [([.so (mkB q.key), .io .i64 q.st, .io .i64 q.en, .io .i64 q.kd, .io .i64 q.nt, .io .i64 q.ct, .io .i64 q.sm, .io .i64 q.mn, .io .i64 q.mx], 29), ([.so (mkB q.key), .io .i64 q.st, .io .i64 q.en, .io .i64 q.kd, .io .i64 q.nt, .io .i64 q.ct, .io .i64 q.sm, .io .i64 q.mn, .io .i64 q.mx], 29)]⟩ (by kernel_rfl) (by kernel_rfl) ?_
     refine At.appVX (F' := fun A' c' => MBL w.heap.size m M clk (⟨29, 9, A', s.n + 1, c', pv (ps ++ [q])⟩ :: R)) 35 29 9 80 s.A s.n s.c 1 [.so (mkB q.key), .io .i64 q.st, .io .i64 q.en, .io .i64 q.kd, .io .i64 q.nt, .io .i64 q.ct, .io .i64 q.sm, .io .i64 q.mn, .io .i64 q.mx] (pv ps) q.cells (by kernel_rfl) (fun _ => rfl) (by omega) (by simp only [maxLen]; omega) (fun ρ w1 hf => hf.2.1 _ (List.mem_cons_self ..)) (fun ρ w1 w2 A' c' hm hf hr hg ho => hf.grown (y := ⟨29, 9, A', s.n + 1, c', pv (ps ++ [q])⟩) (by rw [pv_app]; exact hr) hg (ho.imp id .inl)) (fun A' c' => ?_)
     refine At.toJ (MBL.stable) MBL.fewer 0 300 [0, 5, 12, 13, 14, 18, 20, 27] 0 ⟨.ops (opsOf (sub B26 pAO2)) (((opsOf (sub B26 pAO2)).toList.drop 10).take 1), [.any (opsOf (sub B26 pAO2)) 0 [10, 9, 2, 8, 7, 6, 5, 4, 3, 1, 0]], [(0, .sl Aa na ca), (5, .v (.map (some m))), (12, .sl (some al) nb cb), (13, .io .i64 (↑nb : Int)), (14, .io .i64 (↑i : Int)), (18, .v (.map (some m))), (20, .so (mkB q.key)), (27, .sl A' (s.n + 1) c')], []⟩ (by kernel_rfl) (by kernel_rfl) ?_
     refine At.mapPutE m (.so (mkB q.key)) (.sl A' (s.n + 1) c') (mkB q.key) (.slice A' (s.n + 1) c') (esOf M) clk (midx q.key M 0) (esOf (mput q.key ⟨A', s.n + 1, c'⟩ (ps ++ [q]) clk M)) (mclk q.key clk M) (by kernel_rfl) (fun _ => rfl) (fun _ => rfl) (find_es _ _) midx_es (putE_es q.key ⟨A', s.n + 1, c'⟩ (ps ++ [q]) clk M) hN (fun ρ w h => h.1) (fun ρ w h => MBL.set h) ?_
     refine At.toJ (MBL.stable) MBL.fewer 0 300 [0, 5, 12, 13, 14] 0 ⟨.exit .normal, [], [(0, .sl Aa na ca), (5, .v (.map (some m))), (12, .sl (some al) nb cb), (13, .io .i64 (↑nb : Int)), (14, .io .i64 (↑i : Int))], []⟩ (by kernel_rfl) (by kernel_rfl) ?_
     exact At.fin (A', c') rfl rfl (by unfold subFr; kernel_rfl) rfl (fun _ _ _ _ h => h)
    ·refine At.toJ (MBL.stable) MBL.fewer 0 300 [0, 5, 12, 13, 14, 18, 19, 24, 26] 2 ⟨.ops (opsOf (sub B26 pAO2)) (((opsOf (sub B26 pAO2)).toList.drop 9).take 1), [.any (opsOf (sub B26 pAO2)) 2 [9, 8, 7, 6, 5, 4, 3, 1, 0]], [(0, .sl Aa na ca), (5, .v (.map (some m))), (12, .sl (some al) nb cb), (13, .io .i64 (↑nb : Int)), (14, .io .i64 (↑i : Int)), (18, .v (.map (some m))), (19, .lp 0 0), (24, .sl s.A s.n s.c), (26, .ls 1 0 1 1)], [([.so (mkB q.key), .io .i64 q.st, .io .i64 q.en, .io .i64 q.kd, .io .i64 q.nt, .io .i64 q.ct, .io .i64 q.sm, .io .i64 q.mn, .io .i64 q.mx], 29), ([.so (mkB q.key), .io .i64 q.st, .io .i64 q.en, .io .i64 q.kd, .io .i64 q.nt, .io .i64 q.ct, .io .i64 q.sm, .io .i64 q.mn, .io .i64 q.mx], 29)]⟩ (by kernel_rfl) (by kernel_rfl) ?_
     refine At.appVX (F' := fun A' c' => MBL w.heap.size m M clk (⟨29, 9, A', s.n + 1, c', pv (ps ++ [q])⟩ :: R)) 35 29 9 80 s.A s.n s.c 1 [.so (mkB q.key), .io .i64 q.st, .io .i64 q.en, .io .i64 q.kd, .io .i64 q.nt, .io .i64 q.ct, .io .i64 q.sm, .io .i64 q.mn, .io .i64 q.mx] (pv ps) q.cells (by kernel_rfl) (fun _ => rfl) (by omega) (by simp only [maxLen]; omega) (fun ρ w1 hf => hf.2.1 _ (List.mem_cons_self ..)) (fun ρ w1 w2 A' c' hm hf hr hg ho => hf.grown (y := ⟨29, 9, A', s.n + 1, c', pv (ps ++ [q])⟩) (by rw [pv_app]; exact hr) hg (ho.imp id .inl)) (fun A' c' => ?_)
     refine At.toJ (MBL.stable) MBL.fewer 0 300 [0, 5, 12, 13, 14, 18, 20, 27] 0 ⟨.ops (opsOf (sub B26 pAO2)) (((opsOf (sub B26 pAO2)).toList.drop 10).take 1), [.any (opsOf (sub B26 pAO2)) 0 [10, 2, 9, 8, 7, 6, 5, 4, 3, 1, 0]], [(0, .sl Aa na ca), (5, .v (.map (some m))), (12, .sl (some al) nb cb), (13, .io .i64 (↑nb : Int)), (14, .io .i64 (↑i : Int)), (18, .v (.map (some m))), (20, .so (mkB q.key)), (27, .sl A' (s.n + 1) c')], []⟩ (by kernel_rfl) (by kernel_rfl) ?_
     refine At.mapPutE m (.so (mkB q.key)) (.sl A' (s.n + 1) c') (mkB q.key) (.slice A' (s.n + 1) c') (esOf M) clk (midx q.key M 0) (esOf (mput q.key ⟨A', s.n + 1, c'⟩ (ps ++ [q]) clk M)) (mclk q.key clk M) (by kernel_rfl) (fun _ => rfl) (fun _ => rfl) (find_es _ _) midx_es (putE_es q.key ⟨A', s.n + 1, c'⟩ (ps ++ [q]) clk M) hN (fun ρ w h => h.1) (fun ρ w h => MBL.set h) ?_
     refine At.toJ (MBL.stable) MBL.fewer 0 300 [0, 5, 12, 13, 14] 0 ⟨.exit .normal, [], [(0, .sl Aa na ca), (5, .v (.map (some m))), (12, .sl (some al) nb cb), (13, .io .i64 (↑nb : Int)), (14, .io .i64 (↑i : Int))], []⟩ (by kernel_rfl) (by kernel_rfl) ?_
     exact At.fin (A', c') rfl rfl (by unfold subFr; kernel_rfl) rfl (fun _ _ _ _ h => h)
  ·obtain ⟨A', c'⟩ := x
   dsimp only
   refine At.toJ (MBL.stable) MBL.fewer 0 300 [0, 5, 12, 13, 14] 0 ⟨.exit .normal, [.next (Sx.Next w.heap.size w Tryd.f26.ntmps (frBY m Aa na ca (some al) nb cb) locBY (GBY w vb m) (fun x => nb - x.i) (BY.mk i M clk)), .block 0, .seq (sub B26 [1, 1, 1])], [(0, .sl Aa na ca), (5, .v (.map (some m))), (12, .sl (some al) nb cb), (13, .io .i64 (↑nb : Int)), (14, .io .i64 (IntKind.i64.wrap ((↑i : Int) + 1)))], []⟩ (by kernel_rfl) (by kernel_rfl) ?_
   have hw3 : IntKind.i64.wrap ((i : Int) + 1) = ((i + 1 : Nat) : Int) := by
    rw [wrap63 (by omega) (by omega)]
    omega
   rw [hw3]
   refine At.next (σ := BY) ⟨i + 1, mput q.key ⟨A', s.n + 1, c'⟩ (ps ++ [q]) clk M, mclk q.key clk M⟩ rfl rfl (by unfold subFr; kernel_rfl) (by kernel_rfl) (fun ρ a' w' hi' hf => ⟨⟨hf.1, hf.2.perm (hR2 _ _ _)⟩, by omega, fun k => ?_, fun y hy => ?_⟩) ?_
   ·rw [mps_put, ← take_snoc hq, grp_app, grp_one, h2, hps]
    split
    ·rename_i e; rw [e]
    ·simp
   ·rcases mput_mem hy with ⟨e1, e2⟩ | hy
    ·rw [e1, e2, List.length_append, hsl]; rfl
    ·exact h3 y hy
   ·show nb - (i + 1) < nb - i
    omega
 ·refine At.res 15 (decide ((↑i : Int) < (↑nb : Int))) false (by kernel_rfl) b0 ?_
  refine At.toJ (MBL.stable) MBL.fewer 0 300 [5, 29, 30, 31] 0 ⟨.code (sub B26 [1, 1, 1, 0, 1, 4]), [.block 2, .seq (sub B26 pAO4)], [(5, .v (.map (some m))), (29, .sl Aa na ca), (30, .io .i64 (↑na : Int)), (31, .v (.int .i64 0))], []⟩ (by kernel_rfl) (by kernel_rfl) ?_
  have hi : i = nb := by have := of_decide_eq_false b0; omega
  clear b0
  refine At.canon _ rfl ?_
  refine At.slFr _ rfl ?_
  have hM0 : ∀ k, mps k M = grp k vb := fun k => by rw [h2, List.take_of_length_le (by omega)]
  refine At.loop (σ := BY) (sub B26 [1, 1, 1, 0, 1, 4, 4]) (frCY m Aa na ca) locBY (GCY w va m (M.map rowM) (begB va vb)) (fun x => na - x.i) ⟨0, M, clk⟩ (by kernel_rfl) (by unfold subFr; kernel_rfl) (by kernel_rfl) (fun _ _ _ _ h => ⟨h, Nat.zero_le _, ?_, fun y hy => ?_⟩) ?_
  ·simp only [List.drop_zero]
   unfold begB
   rw [show (fun k => mps k M) = fun k => grp k vb from funext hM0]
  ·have hl9 := h3 y hy
   refine ⟨hl9, ?_, ?_⟩
   ·exact Rws.cap (h.2) (List.mem_map.2 ⟨y, hy, rfl⟩)
   ·cases hpp : y.ps with
    | nil => exact .inl rfl
    | cons p r =>
     refine .inr ⟨rowM y, List.mem_map.2 ⟨y, hy, rfl⟩, ?_⟩
     obtain ⟨a, ha⟩ := Rws.some h.2 (List.mem_map.2 ⟨y, hy, rfl⟩) (show 0 < (rowM y).n by show 0 < y.s.n; rw [hl9, hpp]; simp)
     exact ⟨a, 0, y.ps, ha, by rw [show y.s.A = some a from ha]; simp [Addr.add], rfl, hpp⟩
  generalize M.map rowM = L0
  clear h1 h2 h3 hM0 hi
  rintro ⟨j, M, clk⟩
  refine At.pure fun ⟨h1, h2, h3⟩ => ?_
  refine At.toJ (MBL.stable) MBL.fewer 0 300 [5, 29, 30, 31, 32] 0 ⟨.code (sub B26 [1, 1, 1, 0, 1, 4, 4, 1, 0]), [.seq (sub B26 [1, 1, 1, 0, 1, 4, 4, 1, 1]), .next (Sx.Next w.heap.size w Tryd.f26.ntmps (frCY m Aa na ca) locBY (GCY w va m L0 (begB va vb)) (fun x => na - x.i) (BY.mk j M clk)), .block 2, .seq (sub B26 pAO4)], [(5, .v (.map (some m))), (29, .sl Aa na ca), (30, .io .i64 (↑na : Int)), (31, .io .i64 (↑j : Int)), (32, .bo (decide ((↑j : Int) < (↑na : Int))))], []⟩ (by kernel_rfl) (by kernel_rfl) ?_
  rcases Bool.eq_false_or_eq_true (decide ((↑j : Int) < (↑na : Int))) with b0 | b0
  ·refine At.res 32 (decide ((↑j : Int) < (↑na : Int))) true (by kernel_rfl) b0 ?_
   refine At.toJ (MBL.stable) MBL.fewer 0 300 [5, 29, 30, 31] 0 ⟨pops B26 [1, 1, 1, 0, 1, 4, 4, 1, 1, 0, 4, 0] 0, [.seq (sub B26 [1, 1, 1, 0, 1, 4, 4, 1, 1, 0, 4, 1]), .block 3, .seq (sub B26 pAO3), .next (Sx.Next w.heap.size w Tryd.f26.ntmps (frCY m Aa na ca) locBY (GCY w va m L0 (begB va vb)) (fun x => na - x.i) (BY.mk j M clk)), .block 2, .seq (sub B26 pAO4)], [(5, .v (.map (some m))), (29, .sl Aa na ca), (30, .io .i64 (↑na : Int)), (31, .io .i64 (↑j : Int))], []⟩ (by kernel_rfl) (by kernel_rfl) ?_
   have hj : j < na := by have := of_decide_eq_true b0; omega
   clear b0
   obtain ⟨q, hq⟩ : ∃ q, va[j]? = some q := ⟨_, List.getElem?_eq_getElem (by rw [ha.1]; exact hj)⟩
   obtain ⟨al, rfl⟩ := ha.some (by omega)
   refine At.idx al na 9 (j : Int) (by kernel_rfl) (by omega) (by omega) MBL.stable ?_
   refine At.lda (al.add ((j : Int).toNat * 9)) 9 [.so (mkB q.key), .io .i64 q.st, .io .i64 q.en, .io .i64 q.kd, .io .i64 q.nt, .io .i64 q.ct, .io .i64 q.sm, .io .i64 q.mn, .io .i64 q.mx] (by kernel_rfl) rfl MBL.stable (fun ρ w1 hm' hf j v hj => ha.cell hm'.below hq hj) ?_
   rw [drop_at hq, begK] at h2
   refine At.toJ (MBL.stable) MBL.fewer 0 300 [5, 9, 29, 30, 31, 35, 37] 1 ⟨pops B26 [1, 1, 1, 0, 1, 4, 4, 1, 1, 0, 4, 1, 0] 3, [.seq (sub B26 [1, 1, 1, 0, 1, 4, 4, 1, 1, 0, 4, 1, 1]), .block 3, .seq (sub B26 pAO3), .next (Sx.Next w.heap.size w Tryd.f26.ntmps (frCY m (some al) na ca) locBY (GCY w va m L0 (begB va vb)) (fun x => na - x.i) (BY.mk j M clk)), .block 2, .seq (sub B26 pAO4)], [(5, .v (.map (some m))), (9, .lp 0 0), (29, .sl (some al) na ca), (30, .io .i64 (↑na : Int)), (31, .io .i64 (↑j : Int)), (35, .v (.map (some m))), (37, .so (mkB q.key))], [([.so (mkB q.key), .io .i64 q.st, .io .i64 q.en, .io .i64 q.kd, .io .i64 q.nt, .io .i64 q.ct, .io .i64 q.sm, .io .i64 q.mn, .io .i64 q.mx], 29)]⟩ (by kernel_rfl) (by kernel_rfl) ?_
   refine At.lk m (.so (mkB q.key)) (.slice none 0 0) (mkB q.key) (esOf M) clk (midx q.key M 0) (.sl (msl q.key M).A (msl q.key M).n (msl q.key M).c) (by kernel_rfl) (fun _ => rfl) (find_es _ _) (fun _ => ?_) MBL.stable (fun ρ w h => h.1) ?_
   ·rw [midx_val]
    unfold msl
    cases mget q.key M <;> rfl
   have hsuf : Suf L0 (msl q.key M) (mps q.key M) := by
    rcases msl_mem q.key M with ⟨e1, e2, _⟩ | ⟨y, hy, e1, e2⟩
    ·rw [e1, e2]; exact ⟨rfl, Nat.le_refl _, .inl rfl⟩
    ·rw [e1, e2]; exact h3 y hy
   obtain ⟨s, hs⟩ : ∃ s, msl q.key M = s := ⟨_, rfl⟩
   obtain ⟨ps, hp⟩ : ∃ ps, mps q.key M = ps := ⟨_, rfl⟩
   rw [hs, hp] at hsuf
   rw [hp] at h2
   rw [hs]
   obtain ⟨sA, sn, sc⟩ := s
   have hsn : sn = ps.length := hsuf.1
   have hsc : sn ≤ sc := hsuf.2.1
   subst hsn
   refine At.toJ (MBL.stable) MBL.fewer 0 300 [5, 9, 10, 29, 30, 31, 42] 1 ⟨pqops B26 [1, 1, 1, 0, 1, 4, 4, 1, 1, 0, 4, 1, 1, 0, 0] 4, [.seq (sub B26 pAO0), .seq (sub B26 pAO1), .block 3, .seq (sub B26 pAO3), .next (Sx.Next w.heap.size w Tryd.f26.ntmps (frCY m (some al) na ca) locBY (GCY w va m L0 (begB va vb)) (fun x => na - x.i) (BY.mk j M clk)), .block 2, .seq (sub B26 pAO4)], [(5, .v (.map (some m))), (9, .lp 0 0), (10, .sl sA ps.length sc), (29, .sl (some al) na ca), (30, .io .i64 (↑na : Int)), (31, .io .i64 (↑j : Int)), (42, .bo ((↑(SlV.mk sA ps.length sc).n : Int) == 0))], [([.so (mkB q.key), .io .i64 q.st, .io .i64 q.en, .io .i64 q.kd, .io .i64 q.nt, .io .i64 q.ct, .io .i64 q.sm, .io .i64 q.mn, .io .i64 q.mx], 29)]⟩ (by kernel_rfl) (by kernel_rfl) ?_
   rcases Bool.eq_false_or_eq_true ((↑(SlV.mk sA ps.length sc).n : Int) == 0) with b0 | b0
   ·refine At.res 42 ((↑(SlV.mk sA ps.length sc).n : Int) == 0) true (by kernel_rfl) b0 ?_
    refine At.toJ (MBL.stable) MBL.fewer 0 300 [4] 0 ⟨.exit .ret, [], [(4, .v (.bool false))], []⟩ (by kernel_rfl) (by kernel_rfl) ?_
    refine At.ret (by kernel_rfl) (.v (.bool false)) (by kernel_rfl) ?_
    have hnil : ps = [] := by
     cases ps with
     | nil => rfl
     | cons x y => have := eq_of_beq b0; simp only [List.length_cons] at this; omega
    subst hnil
    simp only at h2
    intro ρ w9 hm hf
    exact ⟨by rw [← h2]; rfl, hm.below⟩
   ·refine At.res 42 ((↑(SlV.mk sA ps.length sc).n : Int) == 0) false (by kernel_rfl) b0 ?_
    refine At.toJ (MBL.stable) MBL.fewer 0 300 [5, 9, 10, 29, 30, 31, 42, 43] 1 ⟨pqops B26 [1, 1, 1, 0, 1, 4, 4, 1, 1, 0, 4, 1, 1, 0, 0] 5, [.seq (sub B26 pAO0), .seq (sub B26 pAO1), .block 3, .seq (sub B26 pAO3), .next (Sx.Next w.heap.size w Tryd.f26.ntmps (frCY m (some al) na ca) locBY (GCY w va m L0 (begB va vb)) (fun x => na - x.i) (BY.mk j M clk)), .block 2, .seq (sub B26 pAO4)], [(5, .v (.map (some m))), (9, .lp 0 0), (10, .sl sA ps.length sc), (29, .sl (some al) na ca), (30, .io .i64 (↑na : Int)), (31, .io .i64 (↑j : Int)), (42, .v (.bool false)), (43, .sl sA ps.length sc)], [([.so (mkB q.key), .io .i64 q.st, .io .i64 q.en, .io .i64 q.kd, .io .i64 q.nt, .io .i64 q.ct, .io .i64 q.sm, .io .i64 q.mn, .io .i64 q.mx], 29)]⟩ (by kernel_rfl) (by kernel_rfl) ?_
    obtain ⟨p', ps', rfl⟩ : ∃ x y, ps = x :: y := by
     cases ps with
     | nil => simp at b0
     | cons x y => exact ⟨x, y, rfl⟩
    clear b0
    obtain ⟨r, hr, hsuf2⟩ := hsuf.tail
    simp only at hr hsuf2 h2
    subst hr
    refine At.idx r (p' :: ps').length 9 0 (by kernel_rfl) (by decide) (by simp only [List.length_cons]; omega) MBL.stable ?_
    refine At.lda (r.add ((0 : Int).toNat * 9)) 9 [.so (mkB p'.key), .io .i64 p'.st, .io .i64 p'.en, .io .i64 p'.kd, .io .i64 p'.nt, .io .i64 p'.ct, .io .i64 p'.sm, .io .i64 p'.mn, .io .i64 p'.mx] (by kernel_rfl) rfl MBL.stable (fun ρ w1 hm' hf j v hj => hsuf.cell hf.2 rfl hj) ?_
    refine At.toJ (MBL.stable) MBL.fewer 0 300 [5, 9, 10, 29, 30, 31, 48] 1 ⟨.code (sub B26 pAO0), [.seq (sub B26 pAO1), .block 3, .seq (sub B26 pAO3), .next (Sx.Next w.heap.size w Tryd.f26.ntmps (frCY m (some al) na ca) locBY (GCY w va m L0 (begB va vb)) (fun x => na - x.i) (BY.mk j M clk)), .block 2, .seq (sub B26 pAO4)], [(5, .v (.map (some m))), (9, .lp 0 0), (10, .sl (some r) (p' :: ps').length sc), (29, .sl (some al) na ca), (30, .io .i64 (↑na : Int)), (31, .io .i64 (↑j : Int)), (48, .bo !((mkB p'.key).toList == (mkB q.key).toList && (p'.st == q.st && (p'.en == q.en && true) && (p'.kd == q.kd && (p'.nt == q.nt && (p'.ct == q.ct && (p'.sm == q.sm && (p'.mn == q.mn && (p'.mx == q.mx && true))) && true))))))], [([.so (mkB q.key), .io .i64 q.st, .io .i64 q.en, .io .i64 q.kd, .io .i64 q.nt, .io .i64 q.ct, .io .i64 q.sm, .io .i64 q.mn, .io .i64 q.mx], 29)]⟩ (by kernel_rfl) (by kernel_rfl) ?_
    rcases Bool.eq_false_or_eq_true (!((mkB p'.key).toList == (mkB q.key).toList && (p'.st == q.st && (p'.en == q.en && true) && (p'.kd == q.kd && (p'.nt == q.nt && (p'.ct == q.ct && (p'.sm == q.sm && (p'.mn == q.mn && (p'.mx == q.mx && true))) && true)))))) with b0 | b0
    ·refine At.res 48 (!((mkB p'.key).toList == (mkB q.key).toList && (p'.st == q.st && (p'.en == q.en && true) && (p'.kd == q.kd && (p'.nt == q.nt && (p'.ct == q.ct && (p'.sm == q.sm && (p'.mn == q.mn && (p'.mx == q.mx && true))) && true)))))) true (by kernel_rfl) b0 ?_
     refine At.toJ (MBL.stable) MBL.fewer 0 300 [4] 0 ⟨.exit .ret, [], [(4, .v (.bool false))], []⟩ (by kernel_rfl) (by kernel_rfl) ?_
     refine At.ret (by kernel_rfl) (.v (.bool false)) (by kernel_rfl) ?_
     rw [pane_beq] at b0
     have hne : p' ≠ q := by simpa using b0
     rw [decide_eq_false hne, cond_false] at h2
     intro ρ w9 hm hf
     exact ⟨by rw [← h2]; rfl, hm.below⟩
    ·refine At.res 48 (!((mkB p'.key).toList == (mkB q.key).toList && (p'.st == q.st && (p'.en == q.en && true) && (p'.kd == q.kd && (p'.nt == q.nt && (p'.ct == q.ct && (p'.sm == q.sm && (p'.mn == q.mn && (p'.mx == q.mx && true))) && true)))))) false (by kernel_rfl) b0 ?_
     refine At.toJ (MBL.stable) MBL.fewer 0 300 [5, 10, 29, 30, 31, 49, 51, 52] 0 ⟨.qops (opsOf (sub B26 pAO1)) (((opsOf (sub B26 pAO1)).toList.take 5).drop 4), [.tail (opsOf (sub B26 pAO1)) ((opsOf (sub B26 pAO1)).toList.drop 5), .block 3, .seq (sub B26 pAO3), .next (Sx.Next w.heap.size w Tryd.f26.ntmps (frCY m (some al) na ca) locBY (GCY w va m L0 (begB va vb)) (fun x => na - x.i) (BY.mk j M clk)), .block 2, .seq (sub B26 pAO4)], [(5, .v (.map (some m))), (10, .sl (some r) (p' :: ps').length sc), (29, .sl (some al) na ca), (30, .io .i64 (↑na : Int)), (31, .io .i64 (↑j : Int)), (49, .v (.map (some m))), (51, .so (mkB q.key)), (52, .sl (some r) (p' :: ps').length sc)], []⟩ (by kernel_rfl) (by kernel_rfl) ?_
     rw [pane_beq] at b0
     have heq : p' = q := by simpa using b0
     subst heq
     clear b0
     rw [decide_eq_true rfl, cond_true] at h2
     refine At.slLx r (p' :: ps').length sc 1 9 (.sl (if sc = 1 then some r else some (r.add 9)) ((p' :: ps').length - 1) (sc - 1)) (by kernel_rfl) MBL.stable (by decide) (by simp only [List.length_cons]; omega) (fun _ => by by_cases h : sc = 1 <;> simp [SV.den, h]) ?_
     refine At.toJ (MBL.stable) MBL.fewer 0 300 [5, 29, 30, 31, 49, 51, 53] 0 ⟨pops B26 pAO1 5, [.block 3, .seq (sub B26 pAO3), .next (Sx.Next w.heap.size w Tryd.f26.ntmps (frCY m (some al) na ca) locBY (GCY w va m L0 (begB va vb)) (fun x => na - x.i) (BY.mk j M clk)), .block 2, .seq (sub B26 pAO4)], [(5, .v (.map (some m))), (29, .sl (some al) na ca), (30, .io .i64 (↑na : Int)), (31, .io .i64 (↑j : Int)), (49, .v (.map (some m))), (51, .so (mkB p'.key)), (53, .sl (if sc = 1 then some r else some (r.add 9)) ((p' :: ps').length - 1) (sc - 1))], []⟩ (by kernel_rfl) (by kernel_rfl) ?_
     refine At.mapPutE m (.so (mkB p'.key)) (.sl (if sc = 1 then some r else some (r.add 9)) ((p' :: ps').length - 1) (sc - 1)) (mkB p'.key) (.slice (if sc = 1 then some r else some (r.add 9)) ((p' :: ps').length - 1) (sc - 1)) (esOf M) clk (midx p'.key M 0) (esOf (mput p'.key ⟨if sc = 1 then some r else some (r.add 9), (p' :: ps').length - 1, sc - 1⟩ ps' clk M)) (mclk p'.key clk M) (by kernel_rfl) (fun _ => rfl) (fun _ => rfl) (find_es _ _) midx_es (putE_es p'.key ⟨if sc = 1 then some r else some (r.add 9), (p' :: ps').length - 1, sc - 1⟩ ps' clk M) hN (fun ρ w h => h.1) (fun ρ w h => MBL.set h) ?_
     refine At.toJ (MBL.stable) MBL.fewer 0 300 [5, 29, 30, 31] 0 ⟨.exit .normal, [.next (Sx.Next w.heap.size w Tryd.f26.ntmps (frCY m (some al) na ca) locBY (GCY w va m L0 (begB va vb)) (fun x => na - x.i) (BY.mk j M clk)), .block 2, .seq (sub B26 pAO4)], [(5, .v (.map (some m))), (29, .sl (some al) na ca), (30, .io .i64 (↑na : Int)), (31, .io .i64 (IntKind.i64.wrap ((↑j : Int) + 1)))], []⟩ (by kernel_rfl) (by kernel_rfl) ?_
     have hw3 : IntKind.i64.wrap ((j : Int) + 1) = ((j + 1 : Nat) : Int) := by
      rw [wrap63 (by omega) (by omega)]
      omega
     rw [hw3]
     refine At.next (σ := BY) ⟨j + 1, mput p'.key ⟨if sc = 1 then some r else some (r.add 9), (p' :: ps').length - 1, sc - 1⟩ ps' clk M, mclk p'.key clk M⟩ rfl rfl (by unfold subFr; kernel_rfl) (by kernel_rfl) (fun ρ a' w' hi' hf => ⟨hf, by omega, ?_, fun y hy => ?_⟩) ?_
     ·rw [← h2]
      congr 1
      funext k
      rw [mps_put]
      by_cases e : p'.key = k
      ·rw [if_pos e, if_pos e.symm]
      ·rw [if_neg e, if_neg fun h => e h.symm]
     ·rcases mput_mem hy with ⟨e1, e2⟩ | hy
      ·rw [e1, e2]; exact hsuf2
      ·exact h3 y hy
     ·show na - (j + 1) < na - j
      omega
  ·refine At.res 32 (decide ((↑j : Int) < (↑na : Int))) false (by kernel_rfl) b0 ?_
   refine At.toJ (MBL.stable) MBL.fewer 0 300 [4] 0 ⟨.exit .ret, [], [(4, .v (.bool true))], []⟩ (by kernel_rfl) (by kernel_rfl) ?_
   refine At.ret (by kernel_rfl) (.v (.bool true)) (by kernel_rfl) ?_
   have hj : j = na := by have := of_decide_eq_false b0; omega
   rw [List.drop_eq_nil_of_le (by omega), begK] at h2
   intro ρ w9 hm hf
   exact ⟨by rw [← h2]; rfl, hm.below⟩
end Go.Proofs.YtkjnbafdmjakgaaDoor
end
section
--@TX
namespace Go.Proofs.YtkjnbafdmjakgaaDoor
open Go.RowKit Go.Sx
set_option maxHeartbeats 20000000 in
set_option maxRecDepth 100000 in
theorem alike_any {Aa Ab : Option Addr} {na ca nb cb : Nat} {va vb : List Pn} (w : World) (ha : SlP w Aa na va) (hb : SlP w Ab nb vb) (hna : na ≤ 1000) (hnb : nb ≤ 1000) :
  Calls Tryd.prog 25 #[.slice Aa na ca, .slice Ab nb cb] w fun e w' => e = .returned (.bool (decide (va.length = vb.length) && begB va vb)) ∧ Below w.heap.size w w' := by
 refine enter (fn := Tryd.f25) (c := B25) [.sl Aa na ca, .sl Ab nb cb] Tryd.func25 rfl rfl ?_
 refine At.to (noF_stable) (noF_fewer) 0 300 [0, 1, 10] 0 ⟨pops B25 [1, 0] 6, [.seq (sub B25 [1, 1])], [(0, .sl Aa na ca), (1, .sl Ab nb cb), (10, .bo ((↑na : Int) == (↑nb : Int)))], []⟩ (by kernel_rfl) (by kernel_rfl) ?_
 rcases Bool.eq_false_or_eq_true ((↑na : Int) == (↑nb : Int)) with b0 | b0
 ·refine At.res 10 ((↑na : Int) == (↑nb : Int)) true (by kernel_rfl) b0 ?_
  refine At.to (noF_stable) (noF_fewer) 0 300 [10, 11, 12] 0 ⟨pops B25 [1, 0] 8, [.seq (sub B25 [1, 1])], [(10, .v (.bool true)), (11, .sl Aa na ca), (12, .sl Ab nb cb)], []⟩ (by kernel_rfl) (by kernel_rfl) ?_
  refine At.call noF_stable 26 [.sl Aa na ca, .sl Ab nb cb] (.bo (begB va vb)) (by kernel_rfl) (by kernel_rfl) (by kernel_rfl) (fun ρ _ w1 hi hf => begins_any w1 (ha.below hi.mem.below) (hb.below hi.mem.below) hna hnb) ?_
  refine At.to (noF_stable) (noF_fewer) 0 300 [4] 0 ⟨.exit .ret, [], [(4, .bo (begB va vb))], []⟩ (by kernel_rfl) (by kernel_rfl) ?_
  refine At.ret (by kernel_rfl) (.bo (begB va vb)) (by kernel_rfl) ?_
  intro ρ w9 hm hf
  have hlen : va.length = vb.length := by
   rw [ha.1, hb.1]
   have := eq_of_beq b0
   omega
  exact ⟨by rw [decide_eq_true hlen]; rfl, hm.below⟩
 ·refine At.res 10 ((↑na : Int) == (↑nb : Int)) false (by kernel_rfl) b0 ?_
  refine At.to (noF_stable) (noF_fewer) 0 300 [4] 0 ⟨.exit .ret, [], [(4, .v (.bool false))], []⟩ (by kernel_rfl) (by kernel_rfl) ?_
  refine At.ret (by kernel_rfl) (.v (.bool false)) (by kernel_rfl) ?_
  intro ρ w9 hm hf
  have hlen : ¬ va.length = vb.length := fun e => by
   rw [ha.1, hb.1] at e
   rw [e] at b0
   simp at b0
  exact ⟨by rw [decide_eq_false hlen]; rfl, hm.below⟩
end Go.Proofs.YtkjnbafdmjakgaaDoor
end
section
--@TY
/- A region that draws its order, some of whose operations are left out. -/
namespace Go.Sx
open Go.RowKit
section
variable {P : Program} {Q : Exit → Act → World → Prop} {N : Nat} {w0 : World} {ntm : Nat} {F : List Nat → World → Prop}
/-- An operation that is known, or left out. -/
def StepW (P : Program) (N : Nat) (w0 : World) (ntm : Nat) (F : List Nat → World → Prop) (all : Array Oper) (L0 : Array Bool) (kn : List (Nat × Kn)) (fr0 : Fr) (loc : Loc) (i : Nat) : Prop :=
 StepK P N w0 ntm F all L0 kn fr0 loc i ∨ ∀ o k, all[i]? = some o → knOf kn i = some k → ∀ ρ (L : Array Bool) a (w : World), AInv ntm ρ (eqFr all L0 kn (onsOf o) fr0) a → Region.wanted o (yielded all a.tmps) = false ∧ k = .eq (.v undef)
theorem StepW.skip {all : Array Oper} {L0 : Array Bool} {kn : List (Nat × Kn)} {fr0 : Fr} {loc : Loc} {i : Nat} (hg : ((all[i]?).bind fun o => guardS all (eqFr all L0 kn (onsOf o) fr0) o) = some false) (hk : knOf kn i = some (.eq (.v undef))) : StepW P N w0 ntm F all L0 kn fr0 loc i := by
 refine .inr fun o k ho hk' ρ L a w ha => ?_
 rw [hk] at hk'
 injection hk' with hk'
 rw [ho] at hg
 exact ⟨guardS_ok ha hg, hk'.symm⟩
theorem drawn_allW {all : Array Oper} {g : Nat} {L0 : Array Bool} {kn : List (Nat × Kn)} {fr0 : Fr} {ds : List Nat} {fr : Fr} {loc : Loc} (hfr : fr0 = drops ds fr) (hds : ∀ o ∈ unl all L0, ∀ t, o.dst = some t → t ∈ ds) (hok : okK ntm all g L0 kn = true) (hF : Stable F) (hkn : ∀ i k, knOf kn i = some k → k.St)
  (hst : ∀ i, L0.getD i true = false → i < all.size → StepW P N w0 ntm F all L0 kn fr0 loc i) {ρ : List Nat} {Q : Exit → Act → World → Prop}
  (hQ : ∀ a w, AInv ntm ρ fr0 a → Done all L0 kn ρ (Array.replicate all.size true) a w → WInv N w0 ρ loc w → F ρ w → Q .normal a w) :
  ∀ (f : Nat) (L : Array Bool) (a : Act) (w : World), L.size = all.size → (∀ i, L0.getD i true = true → L.getD i true = true) → cntL all.size L ≤ f → AInv ntm ρ fr0 a → Done all L0 kn ρ L a w → WInv N w0 ρ loc w → F ρ w → wpAny P .any all Q f L a w := by
 simp only [okK, Bool.and_eq_true] at hok
 obtain ⟨hfw, hs0, _, hp, hnd⟩ := hok
 have hend : ∀ (L : Array Bool) (a : Act) (w : World), L.size = all.size → Region.ready .any all L = [] → AInv ntm ρ fr0 a → Done all L0 kn ρ L a w → WInv N w0 ρ loc w → F ρ w → Q .normal a w := fun L a w hsz hr ha hd hw hf =>
  hQ a w ha (fun i o t k h1 h2 _ h4 h5 => hd i o t k h1 h2 (ready_nil hfw hsz hr i) h4 h5) hw hf
 intro f
 induction f with
 | zero =>
  intro L a w hsz hsub hc ha hd hw hf
  have hr : Region.ready .any all L = [] := by
   refine List.eq_nil_iff_forall_not_mem.2 fun i hi => ?_
   obtain ⟨h1, o, ho, _⟩ := mem_ready.1 hi
   have := cntL_set (Array.getElem?_eq_some_iff.1 ho).1 h1
   omega
  exact ⟨hr, hend L a w hsz hr ha hd hw hf⟩
 | succ f ih =>
  intro L a w hsz hsub hc ha hd hw hf
  refine ⟨fun hr => hend L a w hsz hr ha hd hw hf, fun i hi => ?_⟩
  obtain ⟨h1, o, ho, hall⟩ := mem_ready.1 hi
  have hlt := (Array.getElem?_eq_some_iff.1 ho).1
  have h0 : L0.getD i true = false := by
   cases h : L0.getD i true with
   | false => rfl
   | true => rw [hsub i h] at h1; cases h1
  have hpi : i ∈ pendL all.size L0 := List.mem_filter.2 ⟨List.mem_range.2 hlt, by rw [h0]; rfl⟩
  have hpp := List.all_eq_true.1 hp i hpi
  rw [ho] at hpp
  simp only [Bool.and_eq_true] at hpp
  obtain ⟨hkk, hdst⟩ := hpp
  obtain ⟨k, hk⟩ := Option.isSome_iff_exists.1 hkk
  obtain ⟨t, ht, htn⟩ : ∃ t, o.dst = some t ∧ t < ntm := by
   split at hdst
   ·rename_i t ht
    exact ⟨t, ht, by simpa using hdst⟩
   ·cases hdst
  have hons : ∀ j ∈ onsOf o, L.getD j true = true := fun j hj => by
   obtain ⟨e, he, rfl⟩ := List.mem_map.1 hj
   obtain ⟨he1, he2⟩ := List.mem_filter.1 he
   have h5 := hall e (by simpa using he1) he2
   rcases Nat.lt_or_ge e.on L.size with h' | h'
   ·simpa [Array.getElem?_eq_getElem h'] using h5
   ·simp [Array.getElem?_eq_none h'] at h5
  have hcont : ∀ v w', k.ok ρ w' v → Below w.heap.size w w' → wpAny P .any all Q f (L.setIfInBounds i true) (a.put o.dst v) w' := by
   intro v w' hv hb
   have hat : t < a.tmps.size := by rw [ha.size]; exact htn
   have hput : (a.put o.dst v).tmps = a.tmps.setIfInBounds t v := by rw [ht]; rfl
   refine ih _ _ _ (by simpa using hsz) (fun j hj => ?_) ?_ ?_ ?_ (hw.later hb) (hF ρ w ρ w' (Grow.refl _ _) (Keep.of_below hb) hf)
   ·by_cases hij : i = j
    ·subst hij; simp [show i < L.size by omega]
    ·rw [getD_set_ne true hij]; exact hsub j hj
   ·have := cntL_set (n := all.size) hlt h1
    omega
   ·subst hfr
    exact ha.over (hds o (mem_unl ho h0)) v
   ·intro j oj tj kj hj1 hj2 hj3 hj4 hj5
    rw [hput]
    by_cases hij : i = j
    ·subst hij
     rw [ho] at hj1
     simp only [Option.some.injEq] at hj1
     subst hj1
     rw [ht] at hj4
     simp only [Option.some.injEq] at hj4
     subst hj4
     rw [hk] at hj5
     simp only [Option.some.injEq] at hj5
     subst hj5
     exact ⟨v, by simp [hat], hv⟩
    ·rw [getD_set_ne true hij] at hj3
     obtain ⟨u, hu1, hu2⟩ := hd j oj tj kj hj1 hj2 hj3 hj4 hj5
     have hjp : j ∈ pendL all.size L0 := List.mem_filter.2 ⟨List.mem_range.2 (Array.getElem?_eq_some_iff.1 hj1).1, by rw [hj2]; rfl⟩
     have hne : t ≠ tj := fun e => nodup_ne (of_decide_eq_true hnd) hpi hjp hij (show ((all[i]?).bind (·.dst)) = some t by rw [ho]; exact ht) (show ((all[j]?).bind (·.dst)) = some t by rw [hj1, e]; exact hj4)
     exact ⟨u, by rw [Array.getElem?_setIfInBounds_ne hne]; exact hu1, hu2.keep (hkn j kj hj5) hb⟩
  rcases hst i h0 hlt with hst | hst
  ·obtain ⟨hwn, hwp⟩ := hst o k ho hk ρ L a w (hd.fr ha _ fun j hj _ => hons j hj) hd hons hw hf
   unfold wpOp
   simp only [ho, hwn, if_true]
   refine .inl (wp_mono2 ?_ (fun _ _ _ h => h.elim) hwp)
   rintro a' w' ⟨v, rfl, hv, hb⟩
   exact hcont v w' hv hb
  ·obtain ⟨hwn, rfl⟩ := hst o k ho hk ρ L a w (hd.fr ha _ fun j hj _ => hons j hj)
   unfold wpOp
   simp only [ho, hwn, Bool.false_eq_true, if_false]
   exact hcont undef w rfl (Below.refl _ _)
theorem At.drawnW {Y : Type} {s : S} {all : Array Oper} {g : Nat} {dn : List Nat} (kn : List (Nat × Kn)) (frY : Y → Fr) (GY : Y → List Nat → World → Prop) (hpc : s.pc = .any all g dn) (hok : okK ntm all g (listedOf all.size dn) kn = true) (hF : Stable F) (hkn : ∀ i k, knOf kn i = some k → k.St)
  (hst : ∀ i ∈ pendL all.size (listedOf all.size dn), StepW P N w0 ntm F all (listedOf all.size dn) kn (drops ((unl all (listedOf all.size dn)).filterMap (·.dst)) s.fr) s.loc i)
  (hfin : ∀ ρ a w, AInv ntm ρ (eqFr all (listedOf all.size dn) kn (pendL all.size (listedOf all.size dn)) (drops ((unl all (listedOf all.size dn)).filterMap (·.dst)) s.fr)) a → Done all (listedOf all.size dn) kn ρ (Array.replicate all.size true) a w → F ρ w → ∃ y, AInv ntm ρ (frY y) a ∧ GY y ρ w)
  (h : ∀ y, At P Q N w0 ntm (GY y) ⟨.exit .normal, s.ks, frY y, s.loc⟩) : At P Q N w0 ntm F s := by
 have hok' := hok
 simp only [okK, Bool.and_eq_true] at hok'
 obtain ⟨_, hs0, hc0, _⟩ := hok'
 have hs0 := Nat.eq_of_beq_eq_true hs0
 have hc0 := Nat.le_of_ble_eq_true hc0
 intro ρ a w hi hf
 rw [hpc]
 refine drawn_allW (ds := (unl all (listedOf all.size dn)).filterMap (·.dst)) (fr := s.fr) rfl (fun o ho t ht => List.mem_filterMap.2 ⟨o, ho, ht⟩) hok hF hkn (fun i h0 hlt => hst i (List.mem_filter.2 ⟨List.mem_range.2 hlt, by rw [h0]; rfl⟩)) (ρ := ρ) ?_ g _ a w hs0 (fun _ h => h) hc0 (hi.act.drops_ _) ?_ hi.mem hf
 ·intro a' w' ha hd hw hf'
  obtain ⟨y, hy1, hy2⟩ := hfin ρ a' w' (hd.fr ha _ fun i hi _ => by
   have := List.mem_range.1 (List.mem_filter.1 hi).1
   simp [this]) hd hf'
  exact h y ρ a' w' ⟨hy1, hw⟩ hy2
 ·intro i o t k h1 h2 h3
  rw [h2] at h3
  cases h3
theorem At.drawnYW {Y : Type} {s : S} {all : Array Oper} {g : Nat} {dn : List Nat} (kn : List (Nat × Kn)) (js : List Nat) (frY : Y → Fr) (GY : Y → List Nat → World → Prop) (hpc : s.pc = .any all g dn) (hok : okK ntm all g (listedOf all.size dn) kn = true) (hjs : pendL all.size (listedOf all.size dn) = js) (hF : Stable F) (hkn : knSts kn)
  (hst : allOf js fun i => StepW P N w0 ntm F all (listedOf all.size dn) kn (drops ((unl all (listedOf all.size dn)).filterMap (·.dst)) s.fr) s.loc i)
  (hfin : ∀ ρ a w, AInv ntm ρ (eqFr all (listedOf all.size dn) kn js (drops ((unl all (listedOf all.size dn)).filterMap (·.dst)) s.fr)) a → Done all (listedOf all.size dn) kn ρ (Array.replicate all.size true) a w → F ρ w → ∃ y, AInv ntm ρ (frY y) a ∧ GY y ρ w)
  (h : ∀ y, At P Q N w0 ntm (GY y) ⟨.exit .normal, s.ks, frY y, s.loc⟩) : At P Q N w0 ntm F s := by
 subst hjs
 exact At.drawnW kn frY GY hpc hok hF (knSt hkn) (fun i hi => hst.mem i hi) hfin h
theorem At.drawn0W {s : S} {all : Array Oper} {g : Nat} {dn : List Nat} (kn : List (Nat × Kn)) (js : List Nat) (fr' : Fr) (hpc : s.pc = .any all g dn) (hok : okK ntm all g (listedOf all.size dn) kn = true) (hjs : pendL all.size (listedOf all.size dn) = js) (hF : Stable F) (hkn : knSts kn)
  (hst : allOf js fun i => StepW P N w0 ntm F all (listedOf all.size dn) kn (drops ((unl all (listedOf all.size dn)).filterMap (·.dst)) s.fr) s.loc i)
  (hsub : subFr fr' (eqFr all (listedOf all.size dn) kn js (drops ((unl all (listedOf all.size dn)).filterMap (·.dst)) s.fr)))
  (h : At P Q N w0 ntm F ⟨.exit .normal, s.ks, fr', s.loc⟩) : At P Q N w0 ntm F s :=
 At.drawnYW (Y := Unit) kn js (fun _ => fr') (fun _ => F) hpc hok hjs hF hkn hst (fun ρ a w ha _ hf => ⟨(), ha.sub hsub, hf⟩) (fun _ => h)
end
end Go.Sx
end
