/- Joined texts: TW, TX, TY, U, Root, YA, YB, YC. -/
import Derived.Test.YtkjnbafdmjakgaaGreatDoorVAN
import Derived.Lib.SmallJoins
import Derived.WideKeyArgs
import Derived.Deep.Slices
set_option linter.unusedSimpArgs false
set_option linter.unusedVariables false
namespace Go.Sx
open Go
def pAO0 : List Nat := [1, 1, 1, 0, 1, 4, 4, 1, 1, 0, 4, 1, 1, 0, 1]
def pAO1 : List Nat := [1, 1, 1, 0, 1, 4, 4, 1, 1, 0, 4, 1, 1, 1]
def pAO2 : List Nat := [1, 1, 1, 1, 1, 0, 1, 4, 4, 1, 0, 4, 0, 1]
def pAO3 : List Nat := [1, 1, 1, 1, 1, 0, 1, 4, 4, 1, 0, 4, 1, 1]
def pAO4 : List Nat := [1, 1, 1, 1, 1, 0, 1, 4, 4, 1, 0, 4, 1]
def pAO5 : List Nat := [1, 1, 0, 1, 4, 4, 1, 1, 0, 4, 1]
def pAO6 : List Nat := [1, 1, 0, 1, 4, 4, 1, 0, 4, 1, 2]
def pAO7 : List Nat := [1, 1, 1, 1, 1, 0, 1, 4, 4, 1, 1]
def pAO8 : List Nat := [1, 1, 1, 0, 1, 4, 4, 1, 1, 1]
def pAO9 : List Nat := [1, 1, 0, 1, 4, 4, 1, 0, 4, 0]
def pAO10 : List Nat := [1, 1, 0, 1, 4, 4, 1, 0, 4, 1]
def pAO11 : List Nat := [1, 1, 1, 1, 1, 0, 1, 4, 4]
def pAO12 : List Nat := [1, 1, 0, 1, 4, 4, 1, 1]
def pAO13 : List Nat := [1, 1, 1, 1, 1, 1]
def pAO14 : List Nat := [1, 1, 1, 1]
def pAO15 : List Nat := [1, 1, 1]
end Go.Sx
section
namespace Go.Proofs.YtkjnbafdmjakgaaGreatDoor
open Go.RowKit Go.Sx
def MBL (N m : Nat) (M : List ME) (clk : Nat) (L : List Sx.Rw) (ρ : List Nat) (w : World) : Prop := MapF m (esOf M) clk ρ w ∧ Rws N L ρ w
theorem MBL.stable {N m : Nat} {M : List ME} {clk : Nat} {L : List Sx.Rw} : Stable (MBL N m M clk L) := MapF.stable.and Rws.stable
theorem MBL.fewer {N m : Nat} {M : List ME} {clk : Nat} {L : List Sx.Rw} : FewerK 0 (MBL N m M clk L) := FewerK.and2 MapF.fewerK Rws.fewer
theorem MBL.grown {N m : Nat} {M : List ME} {clk : Nat} {L : List Sx.Rw} {x y : Sx.Rw} {ρ : List Nat} {w w' : World} (h : MBL N m M clk (x :: L) ρ w) (hy : Row N y.e y.size y.A y.n y.c y.xs ρ w') (hg : w.grownBy w' x.own) (ho : y.own = x.own ∨ y.own = some w.heap.size ∨ y.own = none) : MBL N m M clk (y :: L) ρ w' :=
 ⟨Rec.grown h.1 hg (row_not (h.2.1 x (List.mem_cons_self ..)) h.1.1 (fun _ _ _ => by simp)), h.2.grown hy hg ho⟩
theorem MBL.set {N m : Nat} {M M' : List ME} {clk clk' : Nat} {L : List Sx.Rw} {ρ : List Nat} {w : World} (h : MBL N m M clk L ρ w) : MBL N m M' clk' L ρ { w with heap := w.heap.setIfInBounds m (.map (esOf M') clk') } :=
 ⟨h.1.set _ _, fun x hx => (h.2.1 x hx).setMap h.1.1 _, h.2.2⟩
structure BY where
 i : Nat
 M : List ME
 clk : Nat
def frBY (m : Nat) (Aa : Option Addr) (na ca : Nat) (Ab : Option Addr) (nb cb : Nat) : BY → Fr
 | ⟨i, M, clk⟩ => [(0, .sl Aa na ca), (5, .v (.map (some m))), (12, .sl Ab nb cb), (13, .io .i64 (nb : Int)), (14, .io .i64 (i : Int))]
def frCY (m : Nat) (Aa : Option Addr) (na ca : Nat) : BY → Fr
 | ⟨i, M, clk⟩ => [(5, .v (.map (some m))), (29, .sl Aa na ca), (30, .io .i64 (na : Int)), (31, .io .i64 (i : Int))]
def locBY (_ : BY) : Sx.Loc := []
def GBY (w0 : World) (vb : List Pn) (m : Nat) : BY → List Nat → World → Prop
 | ⟨i, M, clk⟩, ρ, w => MBL w0.heap.size m M clk (M.map rowM) ρ w ∧ (i ≤ vb.length ∧ (∀ k, mps k M = grp k (vb.take i)) ∧ ∀ y ∈ M, y.s.n = y.ps.length)
def GCY (w0 : World) (va : List Pn) (m : Nat) (L : List Sx.Rw) (R : Bool) : BY → List Nat → World → Prop
 | ⟨i, M, clk⟩, ρ, w => MBL w0.heap.size m M clk L ρ w ∧ (i ≤ va.length ∧ begK (fun k => mps k M) (va.drop i) = R ∧ ∀ y ∈ M, Suf L y.s y.ps)
set_option maxHeartbeats 20000000 in
set_option maxRecDepth 100000 in
theorem begins_any {Aa Ab : Option Addr} {na ca nb cb : Nat} {va vb : List Pn} (w : World) (ha : SlP w Aa na va) (hb : SlP w Ab nb vb) (hna : na ≤ 1000) (hnb : nb ≤ 1000) :
  Calls Tryz.prog 15 #[.slice Aa na ca, .slice Ab nb cb] w fun e w' => e = .returned (.bool (begB va vb)) ∧ Below w.heap.size w w' := by
 have hla := ha.1
 have hlb := hb.1
 refine enter (fn := Tryz.f15) (c := B15) [.sl Aa na ca, .sl Ab nb cb] Tryz.func15 rfl rfl ?_
 refine zN [0, 1] 0 ⟨pops B15 [1, 0] 0, [.seq (sub B15 [1, 1])], [(0, .sl Aa na ca), (1, .sl Ab nb cb)], []⟩ ?_
 refine At.mkMap (by kernel_rfl) noF_stable (fun m hN => ?_)
 refine At.mono (F' := MBL w.heap.size m [] 0 []) (fun ρ w h => ⟨h.2, Rws.none _ _ _⟩) ?_
 refine zT MBL.stable MBL.fewer [0, 5, 12, 13, 14] 0 ⟨.code (sub B15 [1, 1, 0, 1, 4]), [.block 0, .seq (sub B15 pAO15)], [(0, .sl Aa na ca), (5, .v (.map (some m))), (12, .sl Ab nb cb), (13, .io .i64 (↑nb : Int)), (14, .v (.int .i64 0))], []⟩ ?_
 refine At.canon _ rfl ?_
 refine At.slFr _ rfl ?_
 refine At.loop (σ := BY) (sub B15 [1, 1, 0, 1, 4, 4]) (frBY m Aa na ca Ab nb cb) locBY (GBY w vb m) (fun x => nb - x.i) ⟨0, [], 0⟩ (by kernel_rfl) (by unfold subFr; kernel_rfl) (by kernel_rfl) (fun _ _ _ _ h => ⟨h, Nat.zero_le _, fun k => rfl, fun y hy => by cases hy⟩) ?_
 rintro ⟨i, M, clk⟩
 refine At.pure fun ⟨h1, h2, h3⟩ => ?_
 refine zTq MBL.stable MBL.fewer [0, 5, 12, 13, 14, 15] 0 ?_
 rcases Bool.eq_false_or_eq_true (decide ((↑i : Int) < (↑nb : Int))) with b0 | b0
 ·refine zR 15 b0 ?_
  refine zT MBL.stable MBL.fewer [0, 5, 12, 13, 14] 0 ⟨pops B15 [1, 1, 0, 1, 4, 4, 1, 1, 0, 4, 0] 0, [.seq (sub B15 pAO5), .block 1, .seq (sub B15 [1, 1, 0, 1, 4, 4, 1, 1, 1]), .next (Sx.Next w.heap.size w Tryz.f15.ntmps (frBY m Aa na ca Ab nb cb) locBY (GBY w vb m) (fun x => nb - x.i) (BY.mk i M clk)), .block 0, .seq (sub B15 pAO15)], [(0, .sl Aa na ca), (5, .v (.map (some m))), (12, .sl Ab nb cb), (13, .io .i64 (↑nb : Int)), (14, .io .i64 (↑i : Int))], []⟩ ?_
  have hi : i < nb := by have := of_decide_eq_true b0; omega
  clear b0
  obtain ⟨q, hq⟩ : ∃ q, vb[i]? = some q := ⟨_, List.getElem?_eq_getElem (by rw [hb.1]; exact hi)⟩
  obtain ⟨al, rfl⟩ := hb.some (by omega)
  refine At.idx al nb 9 (i : Int) (by kernel_rfl) (by omega) (by omega) MBL.stable ?_
  refine At.lda (al.add ((i : Int).toNat * 9)) 9 [.so (mkB q.key), .io .i64 q.st, .io .i64 q.en, .io .i64 q.kd, .io .i64 q.nt, .io .i64 q.ct, .io .i64 q.sm, .io .i64 q.mn, .io .i64 q.mx] (by kernel_rfl) rfl MBL.stable (fun ρ w1 hm' hf j v hj => hb.cell hm'.below hq hj) ?_
  obtain ⟨R, hR1, hR2⟩ := mput_rows q.key M
  have hps : mps q.key M = grp q.key (vb.take i) := h2 q.key
  have hpl : (mps q.key M).length ≤ i := by
   rw [hps]
   exact Nat.le_trans (grp_le _ _) (by rw [List.length_take]; omega)
  have hsl : (msl q.key M).n = (mps q.key M).length := by
   rcases msl_mem q.key M with ⟨e1, e2, _⟩ | ⟨y, hy, e1, e2⟩
   ·rw [e1, e2]; rfl
   rw [e1, e2]; exact h3 y hy
  refine At.mono (F' := MBL w.heap.size m M clk (⟨40, 9, (msl q.key M).A, (msl q.key M).n, (msl q.key M).c, pv (mps q.key M)⟩ :: R)) (fun ρ w1 hf => ⟨hf.1, ?_⟩) ?_
  ·rcases hR1 with ⟨e1, e2⟩ | e1
   ·rw [e2, show msl q.key M = ⟨none, 0, 0⟩ by unfold msl; rw [e1], show mps q.key M = [] by unfold mps; rw [e1]]
    exact hf.2.nil 40 9
   exact hf.2.perm e1.symm
  obtain ⟨s, hs⟩ : ∃ s, msl q.key M = s := ⟨_, rfl⟩
  obtain ⟨ps, hp⟩ : ∃ ps, mps q.key M = ps := ⟨_, rfl⟩
  rw [hs, hp] at hsl hR1
  rw [hp] at hpl hps
  rw [hs, hp]
  refine zT MBL.stable MBL.fewer [0, 5, 7, 12, 13, 14] 1 ⟨.any (opsOf (sub B15 pAO5)) 11 [], [.block 1, .seq (sub B15 [1, 1, 0, 1, 4, 4, 1, 1, 1]), .next (Sx.Next w.heap.size w Tryz.f15.ntmps (frBY m Aa na ca (some al) nb cb) locBY (GBY w vb m) (fun x => nb - x.i) (BY.mk i M clk)), .block 0, .seq (sub B15 pAO15)], [(0, .sl Aa na ca), (5, .v (.map (some m))), (7, .lp 0 0), (12, .sl (some al) nb cb), (13, .io .i64 (↑nb : Int)), (14, .io .i64 (↑i : Int))], [([.so (mkB q.key), .io .i64 q.st, .io .i64 q.en, .io .i64 q.kd, .io .i64 q.nt, .io .i64 q.ct, .io .i64 q.sm, .io .i64 q.mn, .io .i64 q.mx], 40)]⟩ ?_
  refine At.cutN (σ := Option Addr × Nat) (fun x => [(0, .sl Aa na ca), (5, .v (.map (some m))), (12, .sl (some al) nb cb), (13, .io .i64 (↑nb : Int)), (14, .io .i64 (↑i : Int))]) (fun x => []) (fun x => MBL w.heap.size m (mput q.key ⟨x.1, s.n + 1, x.2⟩ (ps ++ [q]) clk M) (mclk q.key clk M) (⟨40, 9, x.1, s.n + 1, x.2, pv (ps ++ [q])⟩ :: R)) rfl ?_ (fun x => ?_)
  ·refine At.purify0 (fun e a w h => h.1) 20 ?_
   refine At.takeLoad (fun e a w h => h.1) 5 (.so (mkB q.key)) [6, 9, 10] (by kernel_rfl) (by kernel_rfl) (by kernel_rfl) ?_
   refine At.takeLk (fun e a w h => h.1) 6 (.sl s.A s.n s.c) [9, 10] m (.so (mkB q.key)) (.slice none 0 0) (mkB q.key) (esOf M) clk (midx q.key M 0) (by kernel_rfl) (by kernel_rfl) (by kernel_rfl) (fun _ => rfl) (find_es _ _) (fun _ => ?_) (fun ρ w h => h.1) ?_
   ·rw [midx_val, ← hs]
    unfold msl
    cases mget q.key M <;> rfl
   refine At.takeLoad (fun e a w h => h.1) 7 (.agg [.so (mkB q.key), .io .i64 q.st, .io .i64 q.en, .io .i64 q.kd, .io .i64 q.nt, .io .i64 q.ct, .io .i64 q.sm, .io .i64 q.mn, .io .i64 q.mx]) [8, 9, 10] (by kernel_rfl) (by kernel_rfl) (by kernel_rfl) ?_
   refine At.purify0 (fun e a w h => h.1) 20 ?_
   refine zT MBL.stable MBL.fewer [0, 5, 12, 13, 14, 18, 19, 24, 25] 1 ⟨.any (opsOf (sub B15 pAO5)) 4 [7, 6, 5, 4, 3, 1, 0], [], [(0, .sl Aa na ca), (5, .v (.map (some m))), (12, .sl (some al) nb cb), (13, .io .i64 (↑nb : Int)), (14, .io .i64 (↑i : Int)), (18, .v (.map (some m))), (19, .lp 0 0), (24, .sl s.A s.n s.c), (25, .agg [.so (mkB q.key), .io .i64 q.st, .io .i64 q.en, .io .i64 q.kd, .io .i64 q.nt, .io .i64 q.ct, .io .i64 q.sm, .io .i64 q.mn, .io .i64 q.mx])], [([.so (mkB q.key), .io .i64 q.st, .io .i64 q.en, .io .i64 q.kd, .io .i64 q.nt, .io .i64 q.ct, .io .i64 q.sm, .io .i64 q.mn, .io .i64 q.mx], 40)]⟩ ?_
   refine At.fork [2, 8] rfl (by kernel_rfl) rfl (allOf.cons ?_ (allOf.cons ?_ allOf.nil))
   ·refine zT MBL.stable MBL.fewer [0, 5, 12, 13, 14, 18, 20, 24, 26] 2 ⟨.ops (opsOf (sub B15 pAO5)) (((opsOf (sub B15 pAO5)).toList.drop 9).take 1), [.any (opsOf (sub B15 pAO5)) 1 [9, 8, 2, 7, 6, 5, 4, 3, 1, 0]], [(0, .sl Aa na ca), (5, .v (.map (some m))), (12, .sl (some al) nb cb), (13, .io .i64 (↑nb : Int)), (14, .io .i64 (↑i : Int)), (18, .v (.map (some m))), (20, .so (mkB q.key)), (24, .sl s.A s.n s.c), (26, .ls 1 0 1 1)], [([.so (mkB q.key), .io .i64 q.st, .io .i64 q.en, .io .i64 q.kd, .io .i64 q.nt, .io .i64 q.ct, .io .i64 q.sm, .io .i64 q.mn, .io .i64 q.mx], 40), ([.so (mkB q.key), .io .i64 q.st, .io .i64 q.en, .io .i64 q.kd, .io .i64 q.nt, .io .i64 q.ct, .io .i64 q.sm, .io .i64 q.mn, .io .i64 q.mx], 40)]⟩ ?_
    refine At.appVX (F' := fun A' c' => MBL w.heap.size m M clk (⟨40, 9, A', s.n + 1, c', pv (ps ++ [q])⟩ :: R)) 22 40 9 80 s.A s.n s.c 1 [.so (mkB q.key), .io .i64 q.st, .io .i64 q.en, .io .i64 q.kd, .io .i64 q.nt, .io .i64 q.ct, .io .i64 q.sm, .io .i64 q.mn, .io .i64 q.mx] (pv ps) q.cells (by kernel_rfl) (fun _ => rfl) (by omega) (by simp only [maxLen]; omega) (fun ρ w1 hf => hf.2.1 _ (List.mem_cons_self ..)) (fun ρ w1 w2 A' c' hm hf hr hg ho => hf.grown (y := ⟨40, 9, A', s.n + 1, c', pv (ps ++ [q])⟩) (by rw [pv_app]; exact hr) hg (ho.imp id .inl)) (fun A' c' => ?_)
    refine zT MBL.stable MBL.fewer [0, 5, 12, 13, 14, 18, 20, 27] 0 ⟨.ops (opsOf (sub B15 pAO5)) (((opsOf (sub B15 pAO5)).toList.drop 10).take 1), [.any (opsOf (sub B15 pAO5)) 0 [10, 9, 8, 2, 7, 6, 5, 4, 3, 1, 0]], [(0, .sl Aa na ca), (5, .v (.map (some m))), (12, .sl (some al) nb cb), (13, .io .i64 (↑nb : Int)), (14, .io .i64 (↑i : Int)), (18, .v (.map (some m))), (20, .so (mkB q.key)), (27, .sl A' (s.n + 1) c')], []⟩ ?_
    refine At.mapPutE m (.so (mkB q.key)) (.sl A' (s.n + 1) c') (mkB q.key) (.slice A' (s.n + 1) c') (esOf M) clk (midx q.key M 0) (esOf (mput q.key ⟨A', s.n + 1, c'⟩ (ps ++ [q]) clk M)) (mclk q.key clk M) (by kernel_rfl) (fun _ => rfl) (fun _ => rfl) (find_es _ _) midx_es (putE_es q.key ⟨A', s.n + 1, c'⟩ (ps ++ [q]) clk M) hN (fun ρ w h => h.1) (fun ρ w h => MBL.set h) ?_
    refine zT MBL.stable MBL.fewer [0, 5, 12, 13, 14] 0 ⟨.exit .normal, [], [(0, .sl Aa na ca), (5, .v (.map (some m))), (12, .sl (some al) nb cb), (13, .io .i64 (↑nb : Int)), (14, .io .i64 (↑i : Int))], []⟩ ?_
    exact At.fin (A', c') rfl rfl (by unfold subFr; kernel_rfl) rfl (fun _ _ _ _ h => h)
   refine zT MBL.stable MBL.fewer [0, 5, 12, 13, 14, 18, 19, 24, 26] 2 ⟨.any (opsOf (sub B15 pAO5)) 3 [8, 7, 6, 5, 4, 3, 1, 0], [], [(0, .sl Aa na ca), (5, .v (.map (some m))), (12, .sl (some al) nb cb), (13, .io .i64 (↑nb : Int)), (14, .io .i64 (↑i : Int)), (18, .v (.map (some m))), (19, .lp 0 0), (24, .sl s.A s.n s.c), (26, .ls 1 0 1 1)], [([.so (mkB q.key), .io .i64 q.st, .io .i64 q.en, .io .i64 q.kd, .io .i64 q.nt, .io .i64 q.ct, .io .i64 q.sm, .io .i64 q.mn, .io .i64 q.mx], 40), ([.so (mkB q.key), .io .i64 q.st, .io .i64 q.en, .io .i64 q.kd, .io .i64 q.nt, .io .i64 q.ct, .io .i64 q.sm, .io .i64 q.mn, .io .i64 q.mx], 40)]⟩ ?_
   refine At.fork [2, 9] rfl (by kernel_rfl) rfl (allOf.cons ?_ (allOf.cons ?_ allOf.nil))
   ·refine zT MBL.stable MBL.fewer [0, 5, 12, 13, 14, 18, 20, 24, 26] 2 ⟨.ops (opsOf (sub B15 pAO5)) (((opsOf (sub B15 pAO5)).toList.drop 9).take 1), [.any (opsOf (sub B15 pAO5)) 1 [9, 2, 8, 7, 6, 5, 4, 3, 1, 0]], [(0, .sl Aa na ca), (5, .v (.map (some m))), (12, .sl (some al) nb cb), (13, .io .i64 (↑nb : Int)), (14, .io .i64 (↑i : Int)), (18, .v (.map (some m))), (20, .so (mkB q.key)), (24, .sl s.A s.n s.c), (26, .ls 1 0 1 1)], [([.so (mkB q.key), .io .i64 q.st, .io .i64 q.en, .io .i64 q.kd, .io .i64 q.nt, .io .i64 q.ct, .io .i64 q.sm, .io .i64 q.mn, .io .i64 q.mx], 40), ([.so (mkB q.key), .io .i64 q.st, .io .i64 q.en, .io .i64 q.kd, .io .i64 q.nt, .io .i64 q.ct, .io .i64 q.sm, .io .i64 q.mn, .io .i64 q.mx], 40)]⟩ ?_
    refine At.appVX (F' := fun A' c' => MBL w.heap.size m M clk (⟨40, 9, A', s.n + 1, c', pv (ps ++ [q])⟩ :: R)) 22 40 9 80 s.A s.n s.c 1 [.so (mkB q.key), .io .i64 q.st, .io .i64 q.en, .io .i64 q.kd, .io .i64 q.nt, .io .i64 q.ct, .io .i64 q.sm, .io .i64 q.mn, .io .i64 q.mx] (pv ps) q.cells (by kernel_rfl) (fun _ => rfl) (by omega) (by simp only [maxLen]; omega) (fun ρ w1 hf => hf.2.1 _ (List.mem_cons_self ..)) (fun ρ w1 w2 A' c' hm hf hr hg ho => hf.grown (y := ⟨40, 9, A', s.n + 1, c', pv (ps ++ [q])⟩) (by rw [pv_app]; exact hr) hg (ho.imp id .inl)) (fun A' c' => ?_)
    refine zT MBL.stable MBL.fewer [0, 5, 12, 13, 14, 18, 20, 27] 0 ⟨.ops (opsOf (sub B15 pAO5)) (((opsOf (sub B15 pAO5)).toList.drop 10).take 1), [.any (opsOf (sub B15 pAO5)) 0 [10, 9, 2, 8, 7, 6, 5, 4, 3, 1, 0]], [(0, .sl Aa na ca), (5, .v (.map (some m))), (12, .sl (some al) nb cb), (13, .io .i64 (↑nb : Int)), (14, .io .i64 (↑i : Int)), (18, .v (.map (some m))), (20, .so (mkB q.key)), (27, .sl A' (s.n + 1) c')], []⟩ ?_
    refine At.mapPutE m (.so (mkB q.key)) (.sl A' (s.n + 1) c') (mkB q.key) (.slice A' (s.n + 1) c') (esOf M) clk (midx q.key M 0) (esOf (mput q.key ⟨A', s.n + 1, c'⟩ (ps ++ [q]) clk M)) (mclk q.key clk M) (by kernel_rfl) (fun _ => rfl) (fun _ => rfl) (find_es _ _) midx_es (putE_es q.key ⟨A', s.n + 1, c'⟩ (ps ++ [q]) clk M) hN (fun ρ w h => h.1) (fun ρ w h => MBL.set h) ?_
    refine zT MBL.stable MBL.fewer [0, 5, 12, 13, 14] 0 ⟨.exit .normal, [], [(0, .sl Aa na ca), (5, .v (.map (some m))), (12, .sl (some al) nb cb), (13, .io .i64 (↑nb : Int)), (14, .io .i64 (↑i : Int))], []⟩ ?_
    exact At.fin (A', c') rfl rfl (by unfold subFr; kernel_rfl) rfl (fun _ _ _ _ h => h)
   refine zT MBL.stable MBL.fewer [0, 5, 12, 13, 14, 18, 19, 24, 26] 2 ⟨.ops (opsOf (sub B15 pAO5)) (((opsOf (sub B15 pAO5)).toList.drop 9).take 1), [.any (opsOf (sub B15 pAO5)) 2 [9, 8, 7, 6, 5, 4, 3, 1, 0]], [(0, .sl Aa na ca), (5, .v (.map (some m))), (12, .sl (some al) nb cb), (13, .io .i64 (↑nb : Int)), (14, .io .i64 (↑i : Int)), (18, .v (.map (some m))), (19, .lp 0 0), (24, .sl s.A s.n s.c), (26, .ls 1 0 1 1)], [([.so (mkB q.key), .io .i64 q.st, .io .i64 q.en, .io .i64 q.kd, .io .i64 q.nt, .io .i64 q.ct, .io .i64 q.sm, .io .i64 q.mn, .io .i64 q.mx], 40), ([.so (mkB q.key), .io .i64 q.st, .io .i64 q.en, .io .i64 q.kd, .io .i64 q.nt, .io .i64 q.ct, .io .i64 q.sm, .io .i64 q.mn, .io .i64 q.mx], 40)]⟩ ?_
   refine At.appVX (F' := fun A' c' => MBL w.heap.size m M clk (⟨40, 9, A', s.n + 1, c', pv (ps ++ [q])⟩ :: R)) 22 40 9 80 s.A s.n s.c 1 [.so (mkB q.key), .io .i64 q.st, .io .i64 q.en, .io .i64 q.kd, .io .i64 q.nt, .io .i64 q.ct, .io .i64 q.sm, .io .i64 q.mn, .io .i64 q.mx] (pv ps) q.cells (by kernel_rfl) (fun _ => rfl) (by omega) (by simp only [maxLen]; omega) (fun ρ w1 hf => hf.2.1 _ (List.mem_cons_self ..)) (fun ρ w1 w2 A' c' hm hf hr hg ho => hf.grown (y := ⟨40, 9, A', s.n + 1, c', pv (ps ++ [q])⟩) (by rw [pv_app]; exact hr) hg (ho.imp id .inl)) (fun A' c' => ?_)
   refine zT MBL.stable MBL.fewer [0, 5, 12, 13, 14, 18, 20, 27] 0 ⟨.ops (opsOf (sub B15 pAO5)) (((opsOf (sub B15 pAO5)).toList.drop 10).take 1), [.any (opsOf (sub B15 pAO5)) 0 [10, 2, 9, 8, 7, 6, 5, 4, 3, 1, 0]], [(0, .sl Aa na ca), (5, .v (.map (some m))), (12, .sl (some al) nb cb), (13, .io .i64 (↑nb : Int)), (14, .io .i64 (↑i : Int)), (18, .v (.map (some m))), (20, .so (mkB q.key)), (27, .sl A' (s.n + 1) c')], []⟩ ?_
   refine At.mapPutE m (.so (mkB q.key)) (.sl A' (s.n + 1) c') (mkB q.key) (.slice A' (s.n + 1) c') (esOf M) clk (midx q.key M 0) (esOf (mput q.key ⟨A', s.n + 1, c'⟩ (ps ++ [q]) clk M)) (mclk q.key clk M) (by kernel_rfl) (fun _ => rfl) (fun _ => rfl) (find_es _ _) midx_es (putE_es q.key ⟨A', s.n + 1, c'⟩ (ps ++ [q]) clk M) hN (fun ρ w h => h.1) (fun ρ w h => MBL.set h) ?_
   refine zT MBL.stable MBL.fewer [0, 5, 12, 13, 14] 0 ⟨.exit .normal, [], [(0, .sl Aa na ca), (5, .v (.map (some m))), (12, .sl (some al) nb cb), (13, .io .i64 (↑nb : Int)), (14, .io .i64 (↑i : Int))], []⟩ ?_
   exact At.fin (A', c') rfl rfl (by unfold subFr; kernel_rfl) rfl (fun _ _ _ _ h => h)
  obtain ⟨A', c'⟩ := x
  dsimp only
  refine zT MBL.stable MBL.fewer [0, 5, 12, 13, 14] 0 ⟨.exit .normal, [.next (Sx.Next w.heap.size w Tryz.f15.ntmps (frBY m Aa na ca (some al) nb cb) locBY (GBY w vb m) (fun x => nb - x.i) (BY.mk i M clk)), .block 0, .seq (sub B15 pAO15)], [(0, .sl Aa na ca), (5, .v (.map (some m))), (12, .sl (some al) nb cb), (13, .io .i64 (↑nb : Int)), (14, .io .i64 (IntKind.i64.wrap ((↑i : Int) + 1)))], []⟩ ?_
  have hw3 : IntKind.i64.wrap ((i : Int) + 1) = ((i + 1 : Nat) : Int) := by
   rw [wrap63 (by omega) (by omega)]
   omega
  rw [hw3]
  refine At.next (σ := BY) ⟨i + 1, mput q.key ⟨A', s.n + 1, c'⟩ (ps ++ [q]) clk M, mclk q.key clk M⟩ rfl rfl (by unfold subFr; kernel_rfl) (by kernel_rfl) (fun ρ a' w' hi' hf => ⟨⟨hf.1, hf.2.perm (hR2 _ _ _)⟩, by omega, fun k => ?_, fun y hy => ?_⟩) ?_
  ·rw [mps_put, ← take_snoc hq, grp_app, grp_one, h2, hps]
   split
   ·rename_i e; rw [e]
   simp
  ·rcases mput_mem hy with ⟨e1, e2⟩ | hy
   ·rw [e1, e2, List.length_append, hsl]; rfl
   exact h3 y hy
  show nb - (i + 1) < nb - i
  omega
 refine zR 15 b0 ?_
 refine zT MBL.stable MBL.fewer [5, 29, 30, 31] 0 ⟨.code (sub B15 [1, 1, 1, 0, 1, 4]), [.block 2, .seq (sub B15 pAO14)], [(5, .v (.map (some m))), (29, .sl Aa na ca), (30, .io .i64 (↑na : Int)), (31, .v (.int .i64 0))], []⟩ ?_
 have hi : i = nb := by have := of_decide_eq_false b0; omega
 clear b0
 refine At.canon _ rfl ?_
 refine At.slFr _ rfl ?_
 have hM0 : ∀ k, mps k M = grp k vb := fun k => by rw [h2, List.take_of_length_le (by omega)]
 refine At.loop (σ := BY) (sub B15 [1, 1, 1, 0, 1, 4, 4]) (frCY m Aa na ca) locBY (GCY w va m (M.map rowM) (begB va vb)) (fun x => na - x.i) ⟨0, M, clk⟩ (by kernel_rfl) (by unfold subFr; kernel_rfl) (by kernel_rfl) (fun _ _ _ _ h => ⟨h, Nat.zero_le _, ?_, fun y hy => ?_⟩) ?_
 ·simp only [List.drop_zero]
  unfold begB
  rw [show (fun k => mps k M) = fun k => grp k vb from funext hM0]
 ·have hl9 := h3 y hy
  refine ⟨hl9, ?_, ?_⟩
  ·exact Rws.cap (h.2) (List.mem_map.2 ⟨y, hy, rfl⟩)
  cases hpp : y.ps with
  | nil => exact .inl rfl
  | cons p r =>
   refine .inr ⟨rowM y, List.mem_map.2 ⟨y, hy, rfl⟩, ?_⟩
   obtain ⟨a, ha⟩ := Rws.some h.2 (List.mem_map.2 ⟨y, hy, rfl⟩) (show 0 < (rowM y).n by show 0 < y.s.n; rw [hl9, hpp]; simp)
   exact ⟨a, 0, y.ps, ha, by rw [show y.s.A = some a from ha]; simp [Addr.add], rfl, hpp⟩
 generalize M.map rowM = L0
 clear h1 h2 h3 hM0 hi
 rintro ⟨j, M, clk⟩
 refine At.pure fun ⟨h1, h2, h3⟩ => ?_
 refine zTq MBL.stable MBL.fewer [5, 29, 30, 31, 32] 0 ?_
 rcases Bool.eq_false_or_eq_true (decide ((↑j : Int) < (↑na : Int))) with b0 | b0
 ·refine zR 32 b0 ?_
  refine zT MBL.stable MBL.fewer [5, 29, 30, 31] 0 ⟨pops B15 [1, 1, 1, 0, 1, 4, 4, 1, 1, 0, 4, 0] 0, [.seq (sub B15 [1, 1, 1, 0, 1, 4, 4, 1, 1, 0, 4, 1]), .block 3, .seq (sub B15 pAO8), .next (Sx.Next w.heap.size w Tryz.f15.ntmps (frCY m Aa na ca) locBY (GCY w va m L0 (begB va vb)) (fun x => na - x.i) (BY.mk j M clk)), .block 2, .seq (sub B15 pAO14)], [(5, .v (.map (some m))), (29, .sl Aa na ca), (30, .io .i64 (↑na : Int)), (31, .io .i64 (↑j : Int))], []⟩ ?_
  have hj : j < na := by have := of_decide_eq_true b0; omega
  clear b0
  obtain ⟨q, hq⟩ : ∃ q, va[j]? = some q := ⟨_, List.getElem?_eq_getElem (by rw [ha.1]; exact hj)⟩
  obtain ⟨al, rfl⟩ := ha.some (by omega)
  refine At.idx al na 9 (j : Int) (by kernel_rfl) (by omega) (by omega) MBL.stable ?_
  refine At.lda (al.add ((j : Int).toNat * 9)) 9 [.so (mkB q.key), .io .i64 q.st, .io .i64 q.en, .io .i64 q.kd, .io .i64 q.nt, .io .i64 q.ct, .io .i64 q.sm, .io .i64 q.mn, .io .i64 q.mx] (by kernel_rfl) rfl MBL.stable (fun ρ w1 hm' hf j v hj => ha.cell hm'.below hq hj) ?_
  rw [drop_at hq, begK] at h2
  refine zT MBL.stable MBL.fewer [5, 9, 29, 30, 31, 35, 37] 1 ⟨pops B15 [1, 1, 1, 0, 1, 4, 4, 1, 1, 0, 4, 1, 0] 3, [.seq (sub B15 [1, 1, 1, 0, 1, 4, 4, 1, 1, 0, 4, 1, 1]), .block 3, .seq (sub B15 pAO8), .next (Sx.Next w.heap.size w Tryz.f15.ntmps (frCY m (some al) na ca) locBY (GCY w va m L0 (begB va vb)) (fun x => na - x.i) (BY.mk j M clk)), .block 2, .seq (sub B15 pAO14)], [(5, .v (.map (some m))), (9, .lp 0 0), (29, .sl (some al) na ca), (30, .io .i64 (↑na : Int)), (31, .io .i64 (↑j : Int)), (35, .v (.map (some m))), (37, .so (mkB q.key))], [([.so (mkB q.key), .io .i64 q.st, .io .i64 q.en, .io .i64 q.kd, .io .i64 q.nt, .io .i64 q.ct, .io .i64 q.sm, .io .i64 q.mn, .io .i64 q.mx], 40)]⟩ ?_
  refine At.lk m (.so (mkB q.key)) (.slice none 0 0) (mkB q.key) (esOf M) clk (midx q.key M 0) (.sl (msl q.key M).A (msl q.key M).n (msl q.key M).c) (by kernel_rfl) (fun _ => rfl) (find_es _ _) (fun _ => ?_) MBL.stable (fun ρ w h => h.1) ?_
  ·rw [midx_val]
   unfold msl
   cases mget q.key M <;> rfl
  have hsuf : Suf L0 (msl q.key M) (mps q.key M) := by
   rcases msl_mem q.key M with ⟨e1, e2, _⟩ | ⟨y, hy, e1, e2⟩
   ·rw [e1, e2]; exact ⟨rfl, Nat.le_refl _, .inl rfl⟩
   rw [e1, e2]; exact h3 y hy
  obtain ⟨s, hs⟩ : ∃ s, msl q.key M = s := ⟨_, rfl⟩
  obtain ⟨ps, hp⟩ : ∃ ps, mps q.key M = ps := ⟨_, rfl⟩
  rw [hs, hp] at hsuf
  rw [hp] at h2
  rw [hs]
  obtain ⟨sA, sn, sc⟩ := s
  have hsn : sn = ps.length := hsuf.1
  have hsc : sn ≤ sc := hsuf.2.1
  subst hsn
  refine zTq MBL.stable MBL.fewer [5, 9, 10, 29, 30, 31, 42] 1 ?_
  rcases Bool.eq_false_or_eq_true ((↑(SlV.mk sA ps.length sc).n : Int) == 0) with b0 | b0
  ·refine zR 42 b0 ?_
   refine zT MBL.stable MBL.fewer [4] 0 ⟨.exit .ret, [], [(4, .v (.bool false))], []⟩ ?_
   refine zE (.v (.bool false)) ?_
   have hnil : ps = [] := by
    cases ps with
    | nil => rfl
    | cons x y => have := eq_of_beq b0; simp only [List.length_cons] at this; omega
   subst hnil
   simp only at h2
   intro ρ w9 hm hf
   exact ⟨by rw [← h2]; rfl, hm.below⟩
  refine zR 42 b0 ?_
  let kn0 : Go.Sx.K := .next (Sx.Next w.heap.size w Tryz.f15.ntmps (frCY m (some al) na ca) locBY (GCY w va m L0 (begB va vb)) (fun x => na - x.i) (BY.mk j M clk))
  refine zT MBL.stable MBL.fewer [5, 9, 10, 29, 30, 31, 42, 43] 1 ⟨pqops B15 [1, 1, 1, 0, 1, 4, 4, 1, 1, 0, 4, 1, 1, 0, 0] 5, [.seq (sub B15 pAO0), .seq (sub B15 pAO1), .block 3, .seq (sub B15 pAO8), kn0, .block 2, .seq (sub B15 pAO14)], [(5, .v (.map (some m))), (9, .lp 0 0), (10, .sl sA ps.length sc), (29, .sl (some al) na ca), (30, .io .i64 (↑na : Int)), (31, .io .i64 (↑j : Int)), (42, .v (.bool false)), (43, .sl sA ps.length sc)], [([.so (mkB q.key), .io .i64 q.st, .io .i64 q.en, .io .i64 q.kd, .io .i64 q.nt, .io .i64 q.ct, .io .i64 q.sm, .io .i64 q.mn, .io .i64 q.mx], 40)]⟩ ?_
  obtain ⟨p', ps', rfl⟩ : ∃ x y, ps = x :: y := by
   cases ps with
   | nil => simp at b0
   | cons x y => exact ⟨x, y, rfl⟩
  clear b0
  obtain ⟨r, hr, hsuf2⟩ := hsuf.tail
  simp only at hr hsuf2 h2
  subst hr
  refine At.idx r (p' :: ps').length 9 0 (by kernel_rfl) (by decide) (by simp only [List.length_cons]; omega) MBL.stable ?_
  refine At.lda (r.add ((0 : Int).toNat * 9)) 9 [.so (mkB p'.key), .io .i64 p'.st, .io .i64 p'.en, .io .i64 p'.kd, .io .i64 p'.nt, .io .i64 p'.ct, .io .i64 p'.sm, .io .i64 p'.mn, .io .i64 p'.mx] (by kernel_rfl) rfl MBL.stable (fun ρ w1 hm' hf j v hj => hsuf.cell hf.2 rfl hj) ?_
  refine zTq MBL.stable MBL.fewer [5, 9, 10, 29, 30, 31, 48] 1 ?_
  rcases Bool.eq_false_or_eq_true (!((mkB p'.key).toList == (mkB q.key).toList && (p'.st == q.st && (p'.en == q.en && true) && (p'.kd == q.kd && (p'.nt == q.nt && (p'.ct == q.ct && (p'.sm == q.sm && (p'.mn == q.mn && (p'.mx == q.mx && true))) && true)))))) with b0 | b0
  ·refine zR 48 b0 ?_
   refine zT MBL.stable MBL.fewer [4] 0 ⟨.exit .ret, [], [(4, .v (.bool false))], []⟩ ?_
   refine zE (.v (.bool false)) ?_
   rw [pane_beq] at b0
   have hne : p' ≠ q := by simpa using b0
   rw [decide_eq_false hne, cond_false] at h2
   intro ρ w9 hm hf
   exact ⟨by rw [← h2]; rfl, hm.below⟩
  refine zR 48 b0 ?_
  refine zT MBL.stable MBL.fewer [5, 10, 29, 30, 31, 49, 51, 52] 0 ⟨.qops (opsOf (sub B15 pAO1)) (((opsOf (sub B15 pAO1)).toList.take 5).drop 4), [.tail (opsOf (sub B15 pAO1)) ((opsOf (sub B15 pAO1)).toList.drop 5), .block 3, .seq (sub B15 pAO8), kn0, .block 2, .seq (sub B15 pAO14)], [(5, .v (.map (some m))), (10, .sl (some r) (p' :: ps').length sc), (29, .sl (some al) na ca), (30, .io .i64 (↑na : Int)), (31, .io .i64 (↑j : Int)), (49, .v (.map (some m))), (51, .so (mkB q.key)), (52, .sl (some r) (p' :: ps').length sc)], []⟩ ?_
  rw [pane_beq] at b0
  have heq : p' = q := by simpa using b0
  subst heq
  clear b0
  rw [decide_eq_true rfl, cond_true] at h2
  refine At.slLx r (p' :: ps').length sc 1 9 (.sl (if sc = 1 then some r else some (r.add 9)) ((p' :: ps').length - 1) (sc - 1)) (by kernel_rfl) MBL.stable (by decide) (by simp only [List.length_cons]; omega) (fun _ => by by_cases h : sc = 1 <;> simp [SV.den, h]) ?_
  refine zT MBL.stable MBL.fewer [5, 29, 30, 31, 49, 51, 53] 0 ⟨pops B15 pAO1 5, [.block 3, .seq (sub B15 pAO8), kn0, .block 2, .seq (sub B15 pAO14)], [(5, .v (.map (some m))), (29, .sl (some al) na ca), (30, .io .i64 (↑na : Int)), (31, .io .i64 (↑j : Int)), (49, .v (.map (some m))), (51, .so (mkB p'.key)), (53, .sl (if sc = 1 then some r else some (r.add 9)) ((p' :: ps').length - 1) (sc - 1))], []⟩ ?_
  refine At.mapPutE m (.so (mkB p'.key)) (.sl (if sc = 1 then some r else some (r.add 9)) ((p' :: ps').length - 1) (sc - 1)) (mkB p'.key) (.slice (if sc = 1 then some r else some (r.add 9)) ((p' :: ps').length - 1) (sc - 1)) (esOf M) clk (midx p'.key M 0) (esOf (mput p'.key ⟨if sc = 1 then some r else some (r.add 9), (p' :: ps').length - 1, sc - 1⟩ ps' clk M)) (mclk p'.key clk M) (by kernel_rfl) (fun _ => rfl) (fun _ => rfl) (find_es _ _) midx_es (putE_es p'.key ⟨if sc = 1 then some r else some (r.add 9), (p' :: ps').length - 1, sc - 1⟩ ps' clk M) hN (fun ρ w h => h.1) (fun ρ w h => MBL.set h) ?_
  refine zT MBL.stable MBL.fewer [5, 29, 30, 31] 0 ⟨.exit .normal, [kn0, .block 2, .seq (sub B15 pAO14)], [(5, .v (.map (some m))), (29, .sl (some al) na ca), (30, .io .i64 (↑na : Int)), (31, .io .i64 (IntKind.i64.wrap ((↑j : Int) + 1)))], []⟩ ?_
  have hw3 : IntKind.i64.wrap ((j : Int) + 1) = ((j + 1 : Nat) : Int) := by
   rw [wrap63 (by omega) (by omega)]
   omega
  rw [hw3]
  refine At.next (σ := BY) ⟨j + 1, mput p'.key ⟨if sc = 1 then some r else some (r.add 9), (p' :: ps').length - 1, sc - 1⟩ ps' clk M, mclk p'.key clk M⟩ rfl rfl (by unfold subFr; kernel_rfl) (by kernel_rfl) (fun ρ a' w' hi' hf => ⟨hf, by omega, ?_, fun y hy => ?_⟩) ?_
  ·rw [← h2]
   congr 1
   funext k
   rw [mps_put]
   by_cases e : p'.key = k
   ·rw [if_pos e, if_pos e.symm]
   rw [if_neg e, if_neg fun h => e h.symm]
  ·rcases mput_mem hy with ⟨e1, e2⟩ | hy
   ·rw [e1, e2]; exact hsuf2
   exact h3 y hy
  show na - (j + 1) < na - j
  omega
 refine zR 32 b0 ?_
 refine zT MBL.stable MBL.fewer [4] 0 ⟨.exit .ret, [], [(4, .v (.bool true))], []⟩ ?_
 refine zE (.v (.bool true)) ?_
 have hj : j = na := by have := of_decide_eq_false b0; omega
 rw [List.drop_eq_nil_of_le (by omega), begK] at h2
 intro ρ w9 hm hf
 exact ⟨by rw [← h2]; rfl, hm.below⟩
end Go.Proofs.YtkjnbafdmjakgaaGreatDoor
end
section
namespace Go.Proofs.YtkjnbafdmjakgaaGreatDoor
open Go.RowKit Go.Sx
set_option maxHeartbeats 20000000 in
set_option maxRecDepth 100000 in
theorem alike_any {Aa Ab : Option Addr} {na ca nb cb : Nat} {va vb : List Pn} (w : World) (ha : SlP w Aa na va) (hb : SlP w Ab nb vb) (hna : na ≤ 1000) (hnb : nb ≤ 1000) :
  Calls Tryz.prog 16 #[.slice Aa na ca, .slice Ab nb cb] w fun e w' => e = .returned (.bool (decide (va.length = vb.length) && begB va vb)) ∧ Below w.heap.size w w' := by
 refine enter (fn := Tryz.f16) (c := B16) [.sl Aa na ca, .sl Ab nb cb] Tryz.func16 rfl rfl ?_
 refine zNq [0, 1, 10] 0 ?_
 rcases Bool.eq_false_or_eq_true ((↑na : Int) == (↑nb : Int)) with b0 | b0
 ·refine zR 10 b0 ?_
  refine zN [10, 11, 12] 0 ⟨pops B16 [1, 0] 8, [.seq (sub B16 [1, 1])], [(10, .v (.bool true)), (11, .sl Aa na ca), (12, .sl Ab nb cb)], []⟩ ?_
  refine zC noF_stable 15 [.sl Aa na ca, .sl Ab nb cb] (.bo (begB va vb)) (fun ρ _ w1 hi hf => begins_any w1 (ha.below hi.mem.below) (hb.below hi.mem.below) hna hnb) ?_
  refine zN [4] 0 ⟨.exit .ret, [], [(4, .bo (begB va vb))], []⟩ ?_
  refine zE (.bo (begB va vb)) ?_
  intro ρ w9 hm hf
  have hlen : va.length = vb.length := by
   rw [ha.1, hb.1]
   have := eq_of_beq b0
   omega
  exact ⟨by rw [decide_eq_true hlen]; rfl, hm.below⟩
 refine zR 10 b0 ?_
 refine zN [4] 0 ⟨.exit .ret, [], [(4, .v (.bool false))], []⟩ ?_
 refine zE (.v (.bool false)) ?_
 intro ρ w9 hm hf
 have hlen : ¬ va.length = vb.length := fun e => by
  rw [ha.1, hb.1] at e
  rw [e] at b0
  simp at b0
 exact ⟨by rw [decide_eq_false hlen]; rfl, hm.below⟩
end Go.Proofs.YtkjnbafdmjakgaaGreatDoor
end
section
/- A region that draws its order, some of whose operations are left out. -/
namespace Go.Sx
open Go.RowKit
section
variable {P : Program} {Q : Exit → Act → World → Prop} {N : Nat} {w0 : World} {ntm : Nat} {F : List Nat → World → Prop}
end
end Go.Sx
end
section
/- Panes handed in, one by value or a slice of them, taken apart. -/
set_option maxRecDepth 100000
namespace Go.Proofs.YtkjnbafdmjakgaaGreatDoor
open Go.Joins Go.ChangeShapes Go.WideShapes Go.RowKit Go.Deep Go.Sx
section
variable {H : Type} {enc : TypeId × Value → H} {w : World} {base : Nat} {spare : Nat → Bool} {held : Bool}
theorem kc2 : Tryz.prog.cellsOf 2 = 1 := by kernel_rfl
theorem kc9 : Tryz.prog.cellsOf 9 = 1 := by kernel_rfl
theorem kc24 : Tryz.prog.cellsOf 35 = 2 := by kernel_rfl
theorem kc25 : Tryz.prog.cellsOf 36 = 1 := by kernel_rfl
theorem kc27 : Tryz.prog.cellsOf 38 = 4 := by kernel_rfl
theorem kc29 : Tryz.prog.cellsOf 40 = 9 := by kernel_rfl
instance : Inhabited Pn := ⟨⟨[], 0, 0, 0, 0, 0, 0, 0, 0⟩⟩
theorem wf_in {x : Int} (h : (Lit.int .i64 x).wf = true) : in64 x := by
 simp only [Lit.wf, Bool.and_eq_true, decide_eq_true_eq] at h
 exact ⟨h.1, h.2⟩
theorem pane_of {fuel : Nat} {cs : List Value} {x : DataW H × List MemPlace} (h : DataW.trod enc Tryz.prog w base spare held fuel 40 cs = some x) : ∃ y : Pn, cs = y.cells ∧ y.in64 := by
 obtain ⟨xs, n, _, _, hl, hlen, hg⟩ := DataW.trod_struct Tryz.underlying40 h
 match cs, hl.trans kc29 with
 | [c0, c1, c2, c3, c4, c5, c6, c7, c8], _ =>
  match xs, hlen with
  | [y0, y1, y2, y3, y4], _ =>
   have h0 : DataW.trod enc Tryz.prog w base spare held n 9 [c0] = some y0 := by simpa [kc9] using hg 0 _ rfl
   have h1 : DataW.trod enc Tryz.prog w base spare held n 35 [c1, c2] = some y1 := by simpa [kc24] using hg 1 _ rfl
   have h2 : DataW.trod enc Tryz.prog w base spare held n 36 [c3] = some y2 := by simpa [kc25] using hg 2 _ rfl
   have h3 : DataW.trod enc Tryz.prog w base spare held n 2 [c4] = some y3 := by simpa [kc2] using hg 3 _ rfl
   have h4 : DataW.trod enc Tryz.prog w base spare held n 38 [c5, c6, c7, c8] = some y4 := by simpa [kc27] using hg 4 _ rfl
   obtain ⟨xs1, n1, _, _, _, hlen1, hg1⟩ := DataW.trod_struct Tryz.underlying35 h1
   obtain ⟨xs4, n4, _, _, _, hlen4, hg4⟩ := DataW.trod_struct Tryz.underlying38 h4
   match xs1, hlen1, xs4, hlen4 with
   | [z0, z1], _, [u0, u1, u2, u3], _ =>
    have k0 : DataW.trod enc Tryz.prog w base spare held n1 2 [c1] = some z0 := by simpa [kc2] using hg1 0 _ rfl
    have k1 : DataW.trod enc Tryz.prog w base spare held n1 2 [c2] = some z1 := by simpa [kc2] using hg1 1 _ rfl
    have k3 : DataW.trod enc Tryz.prog w base spare held n4 2 [c5] = some u0 := by simpa [kc2] using hg4 0 _ rfl
    have k4 : DataW.trod enc Tryz.prog w base spare held n4 2 [c6] = some u1 := by simpa [kc2] using hg4 1 _ rfl
    have k5 : DataW.trod enc Tryz.prog w base spare held n4 2 [c7] = some u2 := by simpa [kc2] using hg4 2 _ rfl
    have k6 : DataW.trod enc Tryz.prog w base spare held n4 2 [c8] = some u3 := by simpa [kc2] using hg4 3 _ rfl
    obtain ⟨key, e0, _⟩ := DataW.trod_string Tryz.underlying9 h0
    obtain ⟨st, e1, _, r1⟩ := DataW.trod_int Tryz.underlying2 k0
    obtain ⟨en, e2, _, r2⟩ := DataW.trod_int Tryz.underlying2 k1
    obtain ⟨kd, e3, _, r3⟩ := DataW.trod_int Tryz.underlying36 h2
    obtain ⟨nt, e4, _, r4⟩ := DataW.trod_int Tryz.underlying2 h3
    obtain ⟨ct, e5, _, r5⟩ := DataW.trod_int Tryz.underlying2 k3
    obtain ⟨sm, e6, _, r6⟩ := DataW.trod_int Tryz.underlying2 k4
    obtain ⟨mn, e7, _, r7⟩ := DataW.trod_int Tryz.underlying2 k5
    obtain ⟨mx, e8, _, r8⟩ := DataW.trod_int Tryz.underlying2 k6
    simp only [List.cons.injEq, and_true] at e0 e1 e2 e3 e4 e5 e6 e7 e8
    subst e0 e1 e2 e3 e4 e5 e6 e7 e8
    exact ⟨⟨key.data.toList, st, en, kd, nt, ct, sm, mn, mx⟩, rfl, wf_in r1, wf_in r2, wf_in r4, wf_in r5, wf_in r6, wf_in r7, wf_in r8⟩
theorem pv_src {a : Addr} {ls : List Pn} (h : ∀ (i : Nat) (x : Pn), ls[i]? = some x → ∀ (r : Nat) (v : Value), x.cells[r]? = some v → w.cell? ((a.add (i * 9)).add r) = some v) : Go.Sx.Src w a (pv ls) := fun j u hj => by
 have hlt := (List.getElem?_eq_some_iff.1 hj).1
 rw [pv_len] at hlt
 have hx : ls[j / 9]? = some ls[j / 9] := List.getElem?_eq_getElem (by omega)
 have hjj : j / 9 * 9 + j % 9 = j := by omega
 have hr : j % 9 < (ls[j / 9]).cells.length := by rw [cells_len]; omega
 have hg := pv_at hx (List.getElem?_eq_getElem hr)
 rw [hjj, hj] at hg
 have := h _ _ hx _ _ (List.getElem?_eq_getElem hr)
 rw [add_add, hjj] at this
 rw [this, hg]
theorem panes_of {fuel : Nat} {cs : List Value} {x : DataW H × List MemPlace} (h : DataW.trod enc Tryz.prog w base spare held fuel 22 cs = some x) :
  ∃ (A : Option Addr) (n c : Nat) (ls : List Pn), cs = [.slice A n c] ∧ SlP w A n ls ∧ (∀ p ∈ ls, p.in64) ∧ n ≤ c := by
 rcases open_slice Tryz.underlying22 h with ⟨hcs, hx⟩ | ⟨a, n, c, m, k, D, Pl, hcs, _, hl, _, hm, hx, hel⟩
 ·exact ⟨none, 0, 0, [], hcs, ⟨rfl, fun _ => rfl, fun a ha => (by cases ha)⟩, fun p hp => (by cases hp), Nat.le_refl _⟩
 have hmn : n ≤ m := by rw [hm]; split <;> omega
 obtain ⟨f, hf⟩ := choose_lt (n := n) (p := fun i (y : Pn) => w.cells? base (a.add (i * 9)) 9 = some y.cells ∧ y.in64) (fun i hi => by
  obtain ⟨cs', h1, h2⟩ := hel i (by omega)
  obtain ⟨y, rfl, hy⟩ := pane_of h2
  rw [kc29] at h1
  exact ⟨y, h1, hy⟩)
 refine ⟨some a, n, c, (List.range n).map f, hcs, ⟨by simp, fun h => (by cases h), fun a' ha => ?_⟩, fun p hp => ?_, hl⟩
 ·cases ha
  refine pv_src fun i y hy r v hv => ?_
  have hi : i < n := by
   have := (List.getElem?_eq_some_iff.1 hy).1
   simpa using this
  have he : y = f i := by
   rw [List.getElem?_map, List.getElem?_range hi] at hy
   simpa using hy.symm
  subst he
  have hr := (List.getElem?_eq_some_iff.1 hv).1
  rw [cells_len] at hr
  rw [(World.cells?_some (hf i hi).1).2.2 r hr]
  exact hv
 obtain ⟨i, hi, rfl⟩ := List.mem_map.1 hp
 exact (hf i (List.mem_range.1 hi)).2
theorem open_panes {v : Value} {d : DataW H} {p : List MemPlace} {r : Reach} {b0 : Nat} (hv : Value.okWide Tryz.prog w r b0 22 v) (h : DataW.Trod enc Tryz.prog w base spare held 22 v d p) :
  ∃ (A : Option Addr) (n c : Nat) (ls : List Pn), v = .slice A n c ∧ SlP w A n ls ∧ (∀ p ∈ ls, p.in64) ∧ n ≤ c := by
 obtain ⟨A, n, c, rfl⟩ := okWide_slice Tryz.underlying22 hv
 obtain ⟨fuel, hf⟩ := h
 have hf' : DataW.trod enc Tryz.prog w base spare held fuel 22 [.slice A n c] = some (d, p) := by simpa [Value.cells] using hf
 obtain ⟨A', n', c', ls, e, h1, h2, h3⟩ := panes_of hf'
 simp only [List.cons.injEq, and_true] at e
 exact ⟨A', n', c', ls, e, h1, h2, h3⟩
end
end Go.Proofs.YtkjnbafdmjakgaaGreatDoor
end
section
/- What the other seat's law wants. -/
namespace Go.Proofs.YtkjnbafdmjakgaaGreatDoor
open Go.RowKit Go.Sx
end Go.Proofs.YtkjnbafdmjakgaaGreatDoor
end
section
namespace Go.Proofs.YtkjnbafdmjakgaaGreatDoor
open Go.RowKit Go.Sx
structure ROY where
 i : Nat
 A : Option Addr
 n : Nat
 c : Nat
def frROY (key : List UInt8) (Al : Option Addr) (nl cl : Nat) : ROY → Fr
 | ⟨i, A, n, c⟩ => [(0, .sl Al nl cl), (1, .so (mkB key)), (5, .sl A n c), (6, .io .i64 (i : Int))]
def locROY (_ : ROY) : Sx.Loc := []
def GROY (w0 : World) (ls : List Pn) (key : List UInt8) : ROY → List Nat → World → Prop
 | ⟨i, A, n, c⟩, ρ, w => Rws w0.heap.size [⟨40, 9, A, n, c, pv (grp key (ls.take i))⟩] ρ w ∧ (i ≤ ls.length ∧ n = (grp key (ls.take i)).length)
noncomputable def B14 : Code := (Tryz.f14.body).getD .skip
set_option maxHeartbeats 20000000 in
set_option maxRecDepth 100000 in
theorem rof_any {Al : Option Addr} {nl cl : Nat} {ls : List Pn} (key : List UInt8) (w : World) (hl : SlP w Al nl ls) (hbig : nl ≤ 200) :
  Calls Tryz.prog 14 #[.slice Al nl cl, .string (mkB key)] w fun e w' => ∃ A c, e = .returned (.slice A (grp key ls).length c) ∧ RowF w (fun _ => False) [] w.heap.size 40 9 A (grp key ls).length c (pv (grp key ls)) [] w' := by
 have hnl := hl.1
 refine enter (fn := Tryz.f14) (c := B14) [.sl Al nl cl, .so (mkB key)] Tryz.func14 rfl rfl ?_
 refine zN [0, 1, 5, 6] 0 ⟨.code (sub B14 [1, 1, 0, 1, 4]), [.block 0, .seq (sub B14 pAO15)], [(0, .sl Al nl cl), (1, .so (mkB key)), (5, .v (.slice none 0 0)), (6, .v (.int .i64 0))], []⟩ ?_
 refine At.canon _ rfl ?_
 refine At.slFr _ rfl ?_
 refine At.loop (σ := ROY) (sub B14 [1, 1, 0, 1, 4, 4]) (frROY key Al nl cl) locROY (GROY w ls key) (fun x => nl - x.i) ⟨0, none, 0, 0⟩ (by kernel_rfl) (by unfold subFr; kernel_rfl) (by kernel_rfl) (fun _ _ _ _ h => ⟨Rws.nil (Rws.none _ _ _) 40 9, Nat.zero_le _, rfl⟩) ?_
 rintro ⟨i, A, n, c⟩
 refine At.pure fun ⟨h1, h2⟩ => ?_
 refine zTq Rws.stable Rws.fewer [0, 1, 5, 6, 10] 0 ?_
 rcases Bool.eq_false_or_eq_true (decide ((↑i : Int) < (↑nl : Int))) with b0 | b0
 ·refine zR 10 b0 ?_
  refine zT Rws.stable Rws.fewer [0, 1, 5, 6, 13, 14] 0 ⟨pops B14 pAO9 2, [.seq (sub B14 pAO10), .block 1, .seq (sub B14 pAO12), .next (Sx.Next w.heap.size w Tryz.f14.ntmps (frROY key Al nl cl) locROY (GROY w ls key) (fun x => nl - x.i) (ROY.mk i A n c)), .block 0, .seq (sub B14 pAO15)], [(0, .sl Al nl cl), (1, .so (mkB key)), (5, .sl A n c), (6, .io .i64 (↑i : Int)), (13, .sl Al nl cl), (14, .io .i64 (↑i : Int))], []⟩ ?_
  have hi : i < nl := by have := of_decide_eq_true b0; omega
  clear b0
  obtain ⟨q, hq⟩ : ∃ q, ls[i]? = some q := ⟨_, List.getElem?_eq_getElem (by rw [hl.1]; exact hi)⟩
  obtain ⟨al, rfl⟩ := hl.some (by omega)
  refine At.idx al nl 9 (i : Int) (by kernel_rfl) (by omega) (by omega) Rws.stable ?_
  have hn : n ≤ i := by
   rw [h2]
   exact Nat.le_trans (grp_le _ _) (by rw [List.length_take]; omega)
  have hg : grp key (ls.take (i + 1)) = if q.key = key then grp key (ls.take i) ++ [q] else grp key (ls.take i) := by
   rw [← take_snoc hq, grp_app, grp_one]
   split
   ·rfl
   simp
  let kn0 : Go.Sx.K := .next (Sx.Next w.heap.size w Tryz.f14.ntmps (frROY key (some al) nl cl) locROY (GROY w ls key) (fun x => nl - x.i) (ROY.mk i A n c))
  refine zT Rws.stable Rws.fewer [0, 1, 5, 6, 15] 0 ⟨pops B14 pAO9 3, [.seq (sub B14 pAO10), .block 1, .seq (sub B14 pAO12), kn0, .block 0, .seq (sub B14 pAO15)], [(0, .sl (some al) nl cl), (1, .so (mkB key)), (5, .sl A n c), (6, .io .i64 (↑i : Int)), (15, .v (.pointer (some (al.add ((↑i : Int).toNat * 9)))))], []⟩ ?_
  refine At.fax (al.add ((i : Int).toNat * 9)) 0 (by kernel_rfl) Rws.stable ?_
  refine zT Rws.stable Rws.fewer [0, 1, 5, 6, 16] 0 ⟨pops B14 pAO9 4, [.seq (sub B14 pAO10), .block 1, .seq (sub B14 pAO12), kn0, .block 0, .seq (sub B14 pAO15)], [(0, .sl (some al) nl cl), (1, .so (mkB key)), (5, .sl A n c), (6, .io .i64 (↑i : Int)), (16, .v (.pointer (some ((al.add ((↑i : Int).toNat * 9)).add 0))))], []⟩ ?_
  refine At.ldx ((al.add ((i : Int).toNat * 9)).add 0) (.so (mkB q.key)) (by kernel_rfl) Rws.stable (fun ρ w1 hm' hf => hl.cell hm'.below hq (j := 0) rfl) ?_
  refine zTq Rws.stable Rws.fewer [0, 1, 5, 6, 19] 0 ?_
  rcases Bool.eq_false_or_eq_true ((mkB q.key).toList == (mkB key).toList) with b0 | b0
  ·refine zR 19 b0 ?_
   let kn1 : Go.Sx.K := .next (Sx.Next w.heap.size w Tryz.f14.ntmps (frROY key (some al) nl cl) locROY (GROY w ls key) (fun x => nl - x.i) (ROY.mk i A n c))
   refine zT Rws.stable Rws.fewer [0, 1, 6, 20, 21, 22] 0 ⟨pops B14 pAO6 3, [.block 1, .seq (sub B14 pAO12), kn1, .block 0, .seq (sub B14 pAO15)], [(0, .sl (some al) nl cl), (1, .so (mkB key)), (6, .io .i64 (↑i : Int)), (20, .sl A n c), (21, .sl (some al) nl cl), (22, .io .i64 (↑i : Int))], []⟩ ?_
   refine At.idx al nl 9 (i : Int) (by kernel_rfl) (by omega) (by omega) Rws.stable ?_
   refine zT Rws.stable Rws.fewer [0, 1, 6, 20, 23] 0 ⟨pops B14 pAO6 4, [.block 1, .seq (sub B14 pAO12), kn1, .block 0, .seq (sub B14 pAO15)], [(0, .sl (some al) nl cl), (1, .so (mkB key)), (6, .io .i64 (↑i : Int)), (20, .sl A n c), (23, .v (.pointer (some (al.add ((↑i : Int).toNat * 9)))))], []⟩ ?_
   refine At.lda (al.add ((i : Int).toNat * 9)) 9 [.so (mkB q.key), .io .i64 q.st, .io .i64 q.en, .io .i64 q.kd, .io .i64 q.nt, .io .i64 q.ct, .io .i64 q.sm, .io .i64 q.mn, .io .i64 q.mx] (by kernel_rfl) rfl Rws.stable (fun ρ w1 hm' hf j v hj => hl.cell hm'.below hq hj) ?_
   refine zT Rws.stable Rws.fewer [0, 1, 6, 20, 25] 1 ⟨pops B14 pAO6 6, [.block 1, .seq (sub B14 pAO12), kn1, .block 0, .seq (sub B14 pAO15)], [(0, .sl (some al) nl cl), (1, .so (mkB key)), (6, .io .i64 (↑i : Int)), (20, .sl A n c), (25, .ls 0 0 1 1)], [([.so (mkB q.key), .io .i64 q.st, .io .i64 q.en, .io .i64 q.kd, .io .i64 q.nt, .io .i64 q.ct, .io .i64 q.sm, .io .i64 q.mn, .io .i64 q.mx], 40)]⟩ ?_
   rw [str_beq] at b0
   have hk : q.key = key := of_decide_eq_true b0
   rw [if_pos hk] at hg
   refine At.appVX (F' := fun A' c' => Rws w.heap.size [⟨40, 9, A', n + 1, c', pv (grp key (ls.take i) ++ [q])⟩]) 22 40 9 80 A n c 1 [.so (mkB q.key), .io .i64 q.st, .io .i64 q.en, .io .i64 q.kd, .io .i64 q.nt, .io .i64 q.ct, .io .i64 q.sm, .io .i64 q.mn, .io .i64 q.mx] (pv (grp key (ls.take i))) q.cells (by kernel_rfl) (fun _ => rfl) (by omega) (by simp only [maxLen]; omega) (fun ρ w1 hf => hf.1 _ (List.mem_cons_self ..)) (fun ρ w1 w2 A' c' hm hf hr hg ho => Rws.grown (y := ⟨40, 9, A', n + 1, c', pv (grp key (ls.take i) ++ [q])⟩) hf (by rw [pv_app]; exact hr) hg (ho.imp id .inl)) (fun A' c' => ?_)
   refine zT Rws.stable Rws.fewer [0, 1, 5, 6] 0 ⟨.exit .normal, [kn1, .block 0, .seq (sub B14 pAO15)], [(0, .sl (some al) nl cl), (1, .so (mkB key)), (5, .sl A' (n + 1) c'), (6, .io .i64 (IntKind.i64.wrap ((↑i : Int) + 1)))], []⟩ ?_
   have hw3 : IntKind.i64.wrap ((i : Int) + 1) = ((i + 1 : Nat) : Int) := by
    rw [wrap63 (by omega) (by omega)]
    omega
   rw [hw3]
   refine At.next (σ := ROY) ⟨i + 1, A', n + 1, c'⟩ rfl rfl (by unfold subFr; kernel_rfl) (by kernel_rfl) (fun ρ a' w' hi' hf => ⟨?_, by omega, ?_⟩) ?_
   ·rw [hg]
    exact hf
   ·rw [hg, h2]
    try simp
   show nl - (i + 1) < nl - i
   omega
  refine zR 19 b0 ?_
  refine zT Rws.stable Rws.fewer [0, 1, 5, 6] 0 ⟨.exit .normal, [.next (Sx.Next w.heap.size w Tryz.f14.ntmps (frROY key (some al) nl cl) locROY (GROY w ls key) (fun x => nl - x.i) (ROY.mk i A n c)), .block 0, .seq (sub B14 pAO15)], [(0, .sl (some al) nl cl), (1, .so (mkB key)), (5, .sl A n c), (6, .io .i64 (IntKind.i64.wrap ((↑i : Int) + 1)))], []⟩ ?_
  rw [str_beq] at b0
  have hk : ¬ q.key = key := of_decide_eq_false b0
  rw [if_neg hk] at hg
  have hw3 : IntKind.i64.wrap ((i : Int) + 1) = ((i + 1 : Nat) : Int) := by
   rw [wrap63 (by omega) (by omega)]
   omega
  rw [hw3]
  refine At.next (σ := ROY) ⟨i + 1, A, n, c⟩ rfl rfl (by unfold subFr; kernel_rfl) (by kernel_rfl) (fun ρ a' w' hi' hf => ⟨?_, by omega, ?_⟩) ?_
  ·rw [hg]
   exact hf
  ·rw [hg, h2]
   try simp
  show nl - (i + 1) < nl - i
  omega
 refine zR 10 b0 ?_
 refine zT Rws.stable Rws.fewer [4] 0 ⟨.exit .ret, [], [(4, .sl A n c)], []⟩ ?_
 refine zE (.sl A n c) ?_
 have hi : i = nl := by have := of_decide_eq_false b0; omega
 subst hi
 rw [List.take_of_length_le (by omega)] at h2
 subst h2
 intro ρ w9 hm hf
 refine ⟨A, c, rfl, ?_⟩
 rw [List.take_of_length_le (by omega)] at hf
 have h8 := Rws.fewer ρ _ 0 (Nat.zero_le _) hf
 rw [List.take_zero] at h8
 exact rowF_of h8 hm.below
end Go.Proofs.YtkjnbafdmjakgaaGreatDoor
end
section
namespace Go.Proofs.YtkjnbafdmjakgaaGreatDoor
open Go.RowKit Go.Sx
def cmpP (p q : Pn) : Int := orI [cmpS (mkB p.key) (mkB q.key), cmpI p.st q.st, cmpI p.en q.en, cmpI p.kd q.kd, cmpI p.nt q.nt, cmpI p.ct q.ct, cmpI p.sm q.sm, cmpI p.mn q.mn, cmpI p.mx q.mx]
def bareP (p : Pn) : Pn := { key := p.key, st := p.st, en := p.en, kd := 0, nt := 0, ct := 0, sm := 0, mn := 0, mx := 0 }
theorem cmpP_bare (p q : Pn) : cmpP (bareP p) (bareP q) = cmp2 (atOf p) (atOf q) := by
 simp only [cmpP, bareP, cmp2, atOf, cmp1, orI, show cmpI 0 0 = 0 from rfl]
 split <;> rename_i h <;> simp_all
 split <;> simp_all
 try (split <;> simp_all)
theorem cn {a b : Int} (h : decide (a < b) = true) : cmpI a b = -1 := if_pos (of_decide_eq_true h)
theorem cp {a b : Int} (h : decide (a < b) = false) (h2 : decide (a > b) = true) : cmpI a b = 1 := (if_neg (of_decide_eq_false h)).trans (if_pos (of_decide_eq_true h2))
theorem cz {a b : Int} (h : decide (a < b) = false) (h2 : decide (a > b) = false) : cmpI a b = 0 := (if_neg (of_decide_eq_false h)).trans (if_neg (of_decide_eq_false h2))
theorem sn {x y : ByteArray} (h : Op.bytesLess x.toList y.toList = true) : cmpS x y = -1 := if_pos h
theorem sp {x y : ByteArray} (h : Op.bytesLess x.toList y.toList = false) (h2 : (!(Op.bytesLess x.toList y.toList || x.toList == y.toList)) = true) : cmpS x y = 1 := (if_neg (by rw [h]; decide)).trans (if_pos h2)
theorem sz {x y : ByteArray} (h : Op.bytesLess x.toList y.toList = false) (h2 : (!(Op.bytesLess x.toList y.toList || x.toList == y.toList)) = false) : cmpS x y = 0 := (if_neg (by rw [h]; decide)).trans (if_neg (by rw [h2]; decide))
noncomputable def B34 : Code := (Tryz.f34.body).getD .skip
set_option maxHeartbeats 20000000 in
set_option maxRecDepth 100000 in
theorem rcompare_any (p q : Pn) (w : World) :
  Calls Tryz.prog 34 #[p.val, q.val] w fun e w' => e = .returned (.int .i64 (cmpP p q)) ∧ Below w.heap.size w w' := by
 refine enter (fn := Tryz.f34) (c := B34) [.agg (paneL (mkB p.key) p.st p.en p.kd p.nt p.ct p.sm p.mn p.mx), .agg (paneL (mkB q.key) q.st q.en q.kd q.nt q.ct q.sm q.mn q.mx)] Tryz.func34 rfl rfl ?_
 refine At.to (noF_stable) (noF_fewer) 20 600 [2, 3, 12] 2 ⟨.code (sub B34 [1, 0, 1]), [.seq (sub B34 [1, 1])], [(2, .lp 0 0), (3, .lp 1 0), (12, .bo (Op.bytesLess (mkB p.key).toList (mkB q.key).toList))], [([.so (mkB p.key), .io .i64 p.st, .io .i64 p.en, .io .i64 p.kd, .io .i64 p.nt, .io .i64 p.ct, .io .i64 p.sm, .io .i64 p.mn, .io .i64 p.mx], 40), ([.so (mkB q.key), .io .i64 q.st, .io .i64 q.en, .io .i64 q.kd, .io .i64 q.nt, .io .i64 q.ct, .io .i64 q.sm, .io .i64 q.mn, .io .i64 q.mx], 40)]⟩ (by kernel_rfl) (by kernel_rfl) ?_
 rcases Bool.eq_false_or_eq_true (Op.bytesLess (mkB p.key).toList (mkB q.key).toList) with b0 | b0
 ·refine zR 12 b0 ?_
  refine At.to (noF_stable) (noF_fewer) 20 600 [4] 0 ⟨.exit .ret, [], [(4, .v (.int .i64 (-1)))], []⟩ (by kernel_rfl) (by kernel_rfl) ?_
  refine zE (.v (.int .i64 (-1))) ?_
  have hc : cmpP p q = (-1) := by
   unfold cmpP
   simp only [orI, sn b0]
   try rfl
  intro ρ w9 hm' hf
  exact ⟨by rw [hc]; rfl, hm'.below⟩
 refine zR 12 b0 ?_
 refine At.to (noF_stable) (noF_fewer) 20 600 [2, 3, 17] 2 ⟨.code (sub B34 [1, 1, 0, 1]), [.seq (sub B34 pAO15)], [(2, .lp 0 0), (3, .lp 1 0), (17, .bo !(Op.bytesLess (mkB p.key).toList (mkB q.key).toList || (mkB p.key).toList == (mkB q.key).toList))], [([.so (mkB p.key), .io .i64 p.st, .io .i64 p.en, .io .i64 p.kd, .io .i64 p.nt, .io .i64 p.ct, .io .i64 p.sm, .io .i64 p.mn, .io .i64 p.mx], 40), ([.so (mkB q.key), .io .i64 q.st, .io .i64 q.en, .io .i64 q.kd, .io .i64 q.nt, .io .i64 q.ct, .io .i64 q.sm, .io .i64 q.mn, .io .i64 q.mx], 40)]⟩ (by kernel_rfl) (by kernel_rfl) ?_
 rcases Bool.eq_false_or_eq_true (!(Op.bytesLess (mkB p.key).toList (mkB q.key).toList || (mkB p.key).toList == (mkB q.key).toList)) with b1 | b1
 ·refine zR 17 b1 ?_
  refine At.to (noF_stable) (noF_fewer) 20 600 [4] 0 ⟨.exit .ret, [], [(4, .v (.int .i64 1))], []⟩ (by kernel_rfl) (by kernel_rfl) ?_
  refine zE (.v (.int .i64 1)) ?_
  have hc : cmpP p q = 1 := by
   unfold cmpP
   simp only [orI, sp b0 b1]
   try rfl
  intro ρ w9 hm' hf
  exact ⟨by rw [hc]; rfl, hm'.below⟩
 refine zR 17 b1 ?_
 refine At.to (noF_stable) (noF_fewer) 20 600 [5, 6, 7, 78] 4 ⟨.code (sub B34 pAO2), [.seq (sub B34 pAO4), .block 1, .seq (sub B34 pAO7), .rounds (sub B34 pAO11) 19, .block 0, .seq (sub B34 pAO13)], [(5, .ls 2 0 8 8), (6, .ls 3 0 8 8), (7, .v (.int .i64 0)), (78, .bo (decide (p.st < q.st)))], [([.so (mkB p.key), .io .i64 p.st, .io .i64 p.en, .io .i64 p.kd, .io .i64 p.nt, .io .i64 p.ct, .io .i64 p.sm, .io .i64 p.mn, .io .i64 p.mx], 40), ([.so (mkB q.key), .io .i64 q.st, .io .i64 q.en, .io .i64 q.kd, .io .i64 q.nt, .io .i64 q.ct, .io .i64 q.sm, .io .i64 q.mn, .io .i64 q.mx], 40), ([.io .i64 p.st, .io .i64 p.en, .io .i64 p.kd, .io .i64 p.nt, .io .i64 p.ct, .io .i64 p.sm, .io .i64 p.mn, .io .i64 p.mx], 2), ([.io .i64 q.st, .io .i64 q.en, .io .i64 q.kd, .io .i64 q.nt, .io .i64 q.ct, .io .i64 q.sm, .io .i64 q.mn, .io .i64 q.mx], 2)]⟩ (by kernel_rfl) (by kernel_rfl) ?_
 rcases Bool.eq_false_or_eq_true (decide (p.st < q.st)) with b2 | b2
 ·refine zR 78 b2 ?_
  refine At.to (noF_stable) (noF_fewer) 20 600 [4] 0 ⟨.exit .ret, [], [(4, .v (.int .i64 (-1)))], []⟩ (by kernel_rfl) (by kernel_rfl) ?_
  refine zE (.v (.int .i64 (-1))) ?_
  have hc : cmpP p q = (-1) := by
   unfold cmpP
   simp only [orI, sz b0 b1, cn b2]
   try rfl
  intro ρ w9 hm' hf
  exact ⟨by rw [hc]; rfl, hm'.below⟩
 refine zR 78 b2 ?_
 refine At.to (noF_stable) (noF_fewer) 20 600 [5, 6, 7, 87] 4 ⟨.code (sub B34 pAO3), [.block 1, .seq (sub B34 pAO7), .rounds (sub B34 pAO11) 19, .block 0, .seq (sub B34 pAO13)], [(5, .ls 2 0 8 8), (6, .ls 3 0 8 8), (7, .v (.int .i64 0)), (87, .bo (decide (p.st > q.st)))], [([.so (mkB p.key), .io .i64 p.st, .io .i64 p.en, .io .i64 p.kd, .io .i64 p.nt, .io .i64 p.ct, .io .i64 p.sm, .io .i64 p.mn, .io .i64 p.mx], 40), ([.so (mkB q.key), .io .i64 q.st, .io .i64 q.en, .io .i64 q.kd, .io .i64 q.nt, .io .i64 q.ct, .io .i64 q.sm, .io .i64 q.mn, .io .i64 q.mx], 40), ([.io .i64 p.st, .io .i64 p.en, .io .i64 p.kd, .io .i64 p.nt, .io .i64 p.ct, .io .i64 p.sm, .io .i64 p.mn, .io .i64 p.mx], 2), ([.io .i64 q.st, .io .i64 q.en, .io .i64 q.kd, .io .i64 q.nt, .io .i64 q.ct, .io .i64 q.sm, .io .i64 q.mn, .io .i64 q.mx], 2)]⟩ (by kernel_rfl) (by kernel_rfl) ?_
 rcases Bool.eq_false_or_eq_true (decide (p.st > q.st)) with b3 | b3
 ·refine zR 87 b3 ?_
  refine At.to (noF_stable) (noF_fewer) 20 600 [4] 0 ⟨.exit .ret, [], [(4, .v (.int .i64 1))], []⟩ (by kernel_rfl) (by kernel_rfl) ?_
  refine zE (.v (.int .i64 1)) ?_
  have hc : cmpP p q = 1 := by
   unfold cmpP
   simp only [orI, sz b0 b1, cp b2 b3]
   try rfl
  intro ρ w9 hm' hf
  exact ⟨by rw [hc]; rfl, hm'.below⟩
 refine zR 87 b3 ?_
 refine At.to (noF_stable) (noF_fewer) 20 600 [5, 6, 7, 78] 4 ⟨.code (sub B34 pAO2), [.seq (sub B34 pAO4), .block 1, .seq (sub B34 pAO7), .rounds (sub B34 pAO11) 18, .block 0, .seq (sub B34 pAO13)], [(5, .ls 2 0 8 8), (6, .ls 3 0 8 8), (7, .v (.int .i64 1)), (78, .bo (decide (p.en < q.en)))], [([.so (mkB p.key), .io .i64 p.st, .io .i64 p.en, .io .i64 p.kd, .io .i64 p.nt, .io .i64 p.ct, .io .i64 p.sm, .io .i64 p.mn, .io .i64 p.mx], 40), ([.so (mkB q.key), .io .i64 q.st, .io .i64 q.en, .io .i64 q.kd, .io .i64 q.nt, .io .i64 q.ct, .io .i64 q.sm, .io .i64 q.mn, .io .i64 q.mx], 40), ([.io .i64 p.st, .io .i64 p.en, .io .i64 p.kd, .io .i64 p.nt, .io .i64 p.ct, .io .i64 p.sm, .io .i64 p.mn, .io .i64 p.mx], 2), ([.io .i64 q.st, .io .i64 q.en, .io .i64 q.kd, .io .i64 q.nt, .io .i64 q.ct, .io .i64 q.sm, .io .i64 q.mn, .io .i64 q.mx], 2)]⟩ (by kernel_rfl) (by kernel_rfl) ?_
 rcases Bool.eq_false_or_eq_true (decide (p.en < q.en)) with b4 | b4
 ·refine zR 78 b4 ?_
  refine At.to (noF_stable) (noF_fewer) 20 600 [4] 0 ⟨.exit .ret, [], [(4, .v (.int .i64 (-1)))], []⟩ (by kernel_rfl) (by kernel_rfl) ?_
  refine zE (.v (.int .i64 (-1))) ?_
  have hc : cmpP p q = (-1) := by
   unfold cmpP
   simp only [orI, sz b0 b1, cz b2 b3, cn b4]
   try rfl
  intro ρ w9 hm' hf
  exact ⟨by rw [hc]; rfl, hm'.below⟩
 refine zR 78 b4 ?_
 refine At.to (noF_stable) (noF_fewer) 20 600 [5, 6, 7, 87] 4 ⟨.code (sub B34 pAO3), [.block 1, .seq (sub B34 pAO7), .rounds (sub B34 pAO11) 18, .block 0, .seq (sub B34 pAO13)], [(5, .ls 2 0 8 8), (6, .ls 3 0 8 8), (7, .v (.int .i64 1)), (87, .bo (decide (p.en > q.en)))], [([.so (mkB p.key), .io .i64 p.st, .io .i64 p.en, .io .i64 p.kd, .io .i64 p.nt, .io .i64 p.ct, .io .i64 p.sm, .io .i64 p.mn, .io .i64 p.mx], 40), ([.so (mkB q.key), .io .i64 q.st, .io .i64 q.en, .io .i64 q.kd, .io .i64 q.nt, .io .i64 q.ct, .io .i64 q.sm, .io .i64 q.mn, .io .i64 q.mx], 40), ([.io .i64 p.st, .io .i64 p.en, .io .i64 p.kd, .io .i64 p.nt, .io .i64 p.ct, .io .i64 p.sm, .io .i64 p.mn, .io .i64 p.mx], 2), ([.io .i64 q.st, .io .i64 q.en, .io .i64 q.kd, .io .i64 q.nt, .io .i64 q.ct, .io .i64 q.sm, .io .i64 q.mn, .io .i64 q.mx], 2)]⟩ (by kernel_rfl) (by kernel_rfl) ?_
 rcases Bool.eq_false_or_eq_true (decide (p.en > q.en)) with b5 | b5
 ·refine zR 87 b5 ?_
  refine At.to (noF_stable) (noF_fewer) 20 600 [4] 0 ⟨.exit .ret, [], [(4, .v (.int .i64 1))], []⟩ (by kernel_rfl) (by kernel_rfl) ?_
  refine zE (.v (.int .i64 1)) ?_
  have hc : cmpP p q = 1 := by
   unfold cmpP
   simp only [orI, sz b0 b1, cz b2 b3, cp b4 b5]
   try rfl
  intro ρ w9 hm' hf
  exact ⟨by rw [hc]; rfl, hm'.below⟩
 refine zR 87 b5 ?_
 refine At.to (noF_stable) (noF_fewer) 20 600 [5, 6, 7, 78] 4 ⟨.code (sub B34 pAO2), [.seq (sub B34 pAO4), .block 1, .seq (sub B34 pAO7), .rounds (sub B34 pAO11) 17, .block 0, .seq (sub B34 pAO13)], [(5, .ls 2 0 8 8), (6, .ls 3 0 8 8), (7, .v (.int .i64 2)), (78, .bo (decide (p.kd < q.kd)))], [([.so (mkB p.key), .io .i64 p.st, .io .i64 p.en, .io .i64 p.kd, .io .i64 p.nt, .io .i64 p.ct, .io .i64 p.sm, .io .i64 p.mn, .io .i64 p.mx], 40), ([.so (mkB q.key), .io .i64 q.st, .io .i64 q.en, .io .i64 q.kd, .io .i64 q.nt, .io .i64 q.ct, .io .i64 q.sm, .io .i64 q.mn, .io .i64 q.mx], 40), ([.io .i64 p.st, .io .i64 p.en, .io .i64 p.kd, .io .i64 p.nt, .io .i64 p.ct, .io .i64 p.sm, .io .i64 p.mn, .io .i64 p.mx], 2), ([.io .i64 q.st, .io .i64 q.en, .io .i64 q.kd, .io .i64 q.nt, .io .i64 q.ct, .io .i64 q.sm, .io .i64 q.mn, .io .i64 q.mx], 2)]⟩ (by kernel_rfl) (by kernel_rfl) ?_
 rcases Bool.eq_false_or_eq_true (decide (p.kd < q.kd)) with b6 | b6
 ·refine zR 78 b6 ?_
  refine At.to (noF_stable) (noF_fewer) 20 600 [4] 0 ⟨.exit .ret, [], [(4, .v (.int .i64 (-1)))], []⟩ (by kernel_rfl) (by kernel_rfl) ?_
  refine zE (.v (.int .i64 (-1))) ?_
  have hc : cmpP p q = (-1) := by
   unfold cmpP
   simp only [orI, sz b0 b1, cz b2 b3, cz b4 b5, cn b6]
   try rfl
  intro ρ w9 hm' hf
  exact ⟨by rw [hc]; rfl, hm'.below⟩
 refine zR 78 b6 ?_
 refine At.to (noF_stable) (noF_fewer) 20 600 [5, 6, 7, 87] 4 ⟨.code (sub B34 pAO3), [.block 1, .seq (sub B34 pAO7), .rounds (sub B34 pAO11) 17, .block 0, .seq (sub B34 pAO13)], [(5, .ls 2 0 8 8), (6, .ls 3 0 8 8), (7, .v (.int .i64 2)), (87, .bo (decide (p.kd > q.kd)))], [([.so (mkB p.key), .io .i64 p.st, .io .i64 p.en, .io .i64 p.kd, .io .i64 p.nt, .io .i64 p.ct, .io .i64 p.sm, .io .i64 p.mn, .io .i64 p.mx], 40), ([.so (mkB q.key), .io .i64 q.st, .io .i64 q.en, .io .i64 q.kd, .io .i64 q.nt, .io .i64 q.ct, .io .i64 q.sm, .io .i64 q.mn, .io .i64 q.mx], 40), ([.io .i64 p.st, .io .i64 p.en, .io .i64 p.kd, .io .i64 p.nt, .io .i64 p.ct, .io .i64 p.sm, .io .i64 p.mn, .io .i64 p.mx], 2), ([.io .i64 q.st, .io .i64 q.en, .io .i64 q.kd, .io .i64 q.nt, .io .i64 q.ct, .io .i64 q.sm, .io .i64 q.mn, .io .i64 q.mx], 2)]⟩ (by kernel_rfl) (by kernel_rfl) ?_
 rcases Bool.eq_false_or_eq_true (decide (p.kd > q.kd)) with b7 | b7
 ·refine zR 87 b7 ?_
  refine At.to (noF_stable) (noF_fewer) 20 600 [4] 0 ⟨.exit .ret, [], [(4, .v (.int .i64 1))], []⟩ (by kernel_rfl) (by kernel_rfl) ?_
  refine zE (.v (.int .i64 1)) ?_
  have hc : cmpP p q = 1 := by
   unfold cmpP
   simp only [orI, sz b0 b1, cz b2 b3, cz b4 b5, cp b6 b7]
   try rfl
  intro ρ w9 hm' hf
  exact ⟨by rw [hc]; rfl, hm'.below⟩
 refine zR 87 b7 ?_
 refine At.to (noF_stable) (noF_fewer) 20 600 [5, 6, 7, 78] 4 ⟨.code (sub B34 pAO2), [.seq (sub B34 pAO4), .block 1, .seq (sub B34 pAO7), .rounds (sub B34 pAO11) 16, .block 0, .seq (sub B34 pAO13)], [(5, .ls 2 0 8 8), (6, .ls 3 0 8 8), (7, .v (.int .i64 3)), (78, .bo (decide (p.nt < q.nt)))], [([.so (mkB p.key), .io .i64 p.st, .io .i64 p.en, .io .i64 p.kd, .io .i64 p.nt, .io .i64 p.ct, .io .i64 p.sm, .io .i64 p.mn, .io .i64 p.mx], 40), ([.so (mkB q.key), .io .i64 q.st, .io .i64 q.en, .io .i64 q.kd, .io .i64 q.nt, .io .i64 q.ct, .io .i64 q.sm, .io .i64 q.mn, .io .i64 q.mx], 40), ([.io .i64 p.st, .io .i64 p.en, .io .i64 p.kd, .io .i64 p.nt, .io .i64 p.ct, .io .i64 p.sm, .io .i64 p.mn, .io .i64 p.mx], 2), ([.io .i64 q.st, .io .i64 q.en, .io .i64 q.kd, .io .i64 q.nt, .io .i64 q.ct, .io .i64 q.sm, .io .i64 q.mn, .io .i64 q.mx], 2)]⟩ (by kernel_rfl) (by kernel_rfl) ?_
 rcases Bool.eq_false_or_eq_true (decide (p.nt < q.nt)) with b8 | b8
 ·refine zR 78 b8 ?_
  refine At.to (noF_stable) (noF_fewer) 20 600 [4] 0 ⟨.exit .ret, [], [(4, .v (.int .i64 (-1)))], []⟩ (by kernel_rfl) (by kernel_rfl) ?_
  refine zE (.v (.int .i64 (-1))) ?_
  have hc : cmpP p q = (-1) := by
   unfold cmpP
   simp only [orI, sz b0 b1, cz b2 b3, cz b4 b5, cz b6 b7, cn b8]
   try rfl
  intro ρ w9 hm' hf
  exact ⟨by rw [hc]; rfl, hm'.below⟩
 refine zR 78 b8 ?_
 refine At.to (noF_stable) (noF_fewer) 20 600 [5, 6, 7, 87] 4 ⟨.code (sub B34 pAO3), [.block 1, .seq (sub B34 pAO7), .rounds (sub B34 pAO11) 16, .block 0, .seq (sub B34 pAO13)], [(5, .ls 2 0 8 8), (6, .ls 3 0 8 8), (7, .v (.int .i64 3)), (87, .bo (decide (p.nt > q.nt)))], [([.so (mkB p.key), .io .i64 p.st, .io .i64 p.en, .io .i64 p.kd, .io .i64 p.nt, .io .i64 p.ct, .io .i64 p.sm, .io .i64 p.mn, .io .i64 p.mx], 40), ([.so (mkB q.key), .io .i64 q.st, .io .i64 q.en, .io .i64 q.kd, .io .i64 q.nt, .io .i64 q.ct, .io .i64 q.sm, .io .i64 q.mn, .io .i64 q.mx], 40), ([.io .i64 p.st, .io .i64 p.en, .io .i64 p.kd, .io .i64 p.nt, .io .i64 p.ct, .io .i64 p.sm, .io .i64 p.mn, .io .i64 p.mx], 2), ([.io .i64 q.st, .io .i64 q.en, .io .i64 q.kd, .io .i64 q.nt, .io .i64 q.ct, .io .i64 q.sm, .io .i64 q.mn, .io .i64 q.mx], 2)]⟩ (by kernel_rfl) (by kernel_rfl) ?_
 rcases Bool.eq_false_or_eq_true (decide (p.nt > q.nt)) with b9 | b9
 ·refine zR 87 b9 ?_
  refine At.to (noF_stable) (noF_fewer) 20 600 [4] 0 ⟨.exit .ret, [], [(4, .v (.int .i64 1))], []⟩ (by kernel_rfl) (by kernel_rfl) ?_
  refine zE (.v (.int .i64 1)) ?_
  have hc : cmpP p q = 1 := by
   unfold cmpP
   simp only [orI, sz b0 b1, cz b2 b3, cz b4 b5, cz b6 b7, cp b8 b9]
   try rfl
  intro ρ w9 hm' hf
  exact ⟨by rw [hc]; rfl, hm'.below⟩
 refine zR 87 b9 ?_
 refine At.to (noF_stable) (noF_fewer) 20 600 [5, 6, 7, 78] 4 ⟨.code (sub B34 pAO2), [.seq (sub B34 pAO4), .block 1, .seq (sub B34 pAO7), .rounds (sub B34 pAO11) 15, .block 0, .seq (sub B34 pAO13)], [(5, .ls 2 0 8 8), (6, .ls 3 0 8 8), (7, .v (.int .i64 4)), (78, .bo (decide (p.ct < q.ct)))], [([.so (mkB p.key), .io .i64 p.st, .io .i64 p.en, .io .i64 p.kd, .io .i64 p.nt, .io .i64 p.ct, .io .i64 p.sm, .io .i64 p.mn, .io .i64 p.mx], 40), ([.so (mkB q.key), .io .i64 q.st, .io .i64 q.en, .io .i64 q.kd, .io .i64 q.nt, .io .i64 q.ct, .io .i64 q.sm, .io .i64 q.mn, .io .i64 q.mx], 40), ([.io .i64 p.st, .io .i64 p.en, .io .i64 p.kd, .io .i64 p.nt, .io .i64 p.ct, .io .i64 p.sm, .io .i64 p.mn, .io .i64 p.mx], 2), ([.io .i64 q.st, .io .i64 q.en, .io .i64 q.kd, .io .i64 q.nt, .io .i64 q.ct, .io .i64 q.sm, .io .i64 q.mn, .io .i64 q.mx], 2)]⟩ (by kernel_rfl) (by kernel_rfl) ?_
 rcases Bool.eq_false_or_eq_true (decide (p.ct < q.ct)) with b10 | b10
 ·refine zR 78 b10 ?_
  refine At.to (noF_stable) (noF_fewer) 20 600 [4] 0 ⟨.exit .ret, [], [(4, .v (.int .i64 (-1)))], []⟩ (by kernel_rfl) (by kernel_rfl) ?_
  refine zE (.v (.int .i64 (-1))) ?_
  have hc : cmpP p q = (-1) := by
   unfold cmpP
   simp only [orI, sz b0 b1, cz b2 b3, cz b4 b5, cz b6 b7, cz b8 b9, cn b10]
   try rfl
  intro ρ w9 hm' hf
  exact ⟨by rw [hc]; rfl, hm'.below⟩
 refine zR 78 b10 ?_
 refine At.to (noF_stable) (noF_fewer) 20 600 [5, 6, 7, 87] 4 ⟨.code (sub B34 pAO3), [.block 1, .seq (sub B34 pAO7), .rounds (sub B34 pAO11) 15, .block 0, .seq (sub B34 pAO13)], [(5, .ls 2 0 8 8), (6, .ls 3 0 8 8), (7, .v (.int .i64 4)), (87, .bo (decide (p.ct > q.ct)))], [([.so (mkB p.key), .io .i64 p.st, .io .i64 p.en, .io .i64 p.kd, .io .i64 p.nt, .io .i64 p.ct, .io .i64 p.sm, .io .i64 p.mn, .io .i64 p.mx], 40), ([.so (mkB q.key), .io .i64 q.st, .io .i64 q.en, .io .i64 q.kd, .io .i64 q.nt, .io .i64 q.ct, .io .i64 q.sm, .io .i64 q.mn, .io .i64 q.mx], 40), ([.io .i64 p.st, .io .i64 p.en, .io .i64 p.kd, .io .i64 p.nt, .io .i64 p.ct, .io .i64 p.sm, .io .i64 p.mn, .io .i64 p.mx], 2), ([.io .i64 q.st, .io .i64 q.en, .io .i64 q.kd, .io .i64 q.nt, .io .i64 q.ct, .io .i64 q.sm, .io .i64 q.mn, .io .i64 q.mx], 2)]⟩ (by kernel_rfl) (by kernel_rfl) ?_
 rcases Bool.eq_false_or_eq_true (decide (p.ct > q.ct)) with b11 | b11
 ·refine zR 87 b11 ?_
  refine At.to (noF_stable) (noF_fewer) 20 600 [4] 0 ⟨.exit .ret, [], [(4, .v (.int .i64 1))], []⟩ (by kernel_rfl) (by kernel_rfl) ?_
  refine zE (.v (.int .i64 1)) ?_
  have hc : cmpP p q = 1 := by
   unfold cmpP
   simp only [orI, sz b0 b1, cz b2 b3, cz b4 b5, cz b6 b7, cz b8 b9, cp b10 b11]
   try rfl
  intro ρ w9 hm' hf
  exact ⟨by rw [hc]; rfl, hm'.below⟩
 refine zR 87 b11 ?_
 refine At.to (noF_stable) (noF_fewer) 20 600 [5, 6, 7, 78] 4 ⟨.code (sub B34 pAO2), [.seq (sub B34 pAO4), .block 1, .seq (sub B34 pAO7), .rounds (sub B34 pAO11) 14, .block 0, .seq (sub B34 pAO13)], [(5, .ls 2 0 8 8), (6, .ls 3 0 8 8), (7, .v (.int .i64 5)), (78, .bo (decide (p.sm < q.sm)))], [([.so (mkB p.key), .io .i64 p.st, .io .i64 p.en, .io .i64 p.kd, .io .i64 p.nt, .io .i64 p.ct, .io .i64 p.sm, .io .i64 p.mn, .io .i64 p.mx], 40), ([.so (mkB q.key), .io .i64 q.st, .io .i64 q.en, .io .i64 q.kd, .io .i64 q.nt, .io .i64 q.ct, .io .i64 q.sm, .io .i64 q.mn, .io .i64 q.mx], 40), ([.io .i64 p.st, .io .i64 p.en, .io .i64 p.kd, .io .i64 p.nt, .io .i64 p.ct, .io .i64 p.sm, .io .i64 p.mn, .io .i64 p.mx], 2), ([.io .i64 q.st, .io .i64 q.en, .io .i64 q.kd, .io .i64 q.nt, .io .i64 q.ct, .io .i64 q.sm, .io .i64 q.mn, .io .i64 q.mx], 2)]⟩ (by kernel_rfl) (by kernel_rfl) ?_
 rcases Bool.eq_false_or_eq_true (decide (p.sm < q.sm)) with b12 | b12
 ·refine zR 78 b12 ?_
  refine At.to (noF_stable) (noF_fewer) 20 600 [4] 0 ⟨.exit .ret, [], [(4, .v (.int .i64 (-1)))], []⟩ (by kernel_rfl) (by kernel_rfl) ?_
  refine zE (.v (.int .i64 (-1))) ?_
  have hc : cmpP p q = (-1) := by
   unfold cmpP
   simp only [orI, sz b0 b1, cz b2 b3, cz b4 b5, cz b6 b7, cz b8 b9, cz b10 b11, cn b12]
   try rfl
  intro ρ w9 hm' hf
  exact ⟨by rw [hc]; rfl, hm'.below⟩
 refine zR 78 b12 ?_
 refine At.to (noF_stable) (noF_fewer) 20 600 [5, 6, 7, 87] 4 ⟨.code (sub B34 pAO3), [.block 1, .seq (sub B34 pAO7), .rounds (sub B34 pAO11) 14, .block 0, .seq (sub B34 pAO13)], [(5, .ls 2 0 8 8), (6, .ls 3 0 8 8), (7, .v (.int .i64 5)), (87, .bo (decide (p.sm > q.sm)))], [([.so (mkB p.key), .io .i64 p.st, .io .i64 p.en, .io .i64 p.kd, .io .i64 p.nt, .io .i64 p.ct, .io .i64 p.sm, .io .i64 p.mn, .io .i64 p.mx], 40), ([.so (mkB q.key), .io .i64 q.st, .io .i64 q.en, .io .i64 q.kd, .io .i64 q.nt, .io .i64 q.ct, .io .i64 q.sm, .io .i64 q.mn, .io .i64 q.mx], 40), ([.io .i64 p.st, .io .i64 p.en, .io .i64 p.kd, .io .i64 p.nt, .io .i64 p.ct, .io .i64 p.sm, .io .i64 p.mn, .io .i64 p.mx], 2), ([.io .i64 q.st, .io .i64 q.en, .io .i64 q.kd, .io .i64 q.nt, .io .i64 q.ct, .io .i64 q.sm, .io .i64 q.mn, .io .i64 q.mx], 2)]⟩ (by kernel_rfl) (by kernel_rfl) ?_
 rcases Bool.eq_false_or_eq_true (decide (p.sm > q.sm)) with b13 | b13
 ·refine zR 87 b13 ?_
  refine At.to (noF_stable) (noF_fewer) 20 600 [4] 0 ⟨.exit .ret, [], [(4, .v (.int .i64 1))], []⟩ (by kernel_rfl) (by kernel_rfl) ?_
  refine zE (.v (.int .i64 1)) ?_
  have hc : cmpP p q = 1 := by
   unfold cmpP
   simp only [orI, sz b0 b1, cz b2 b3, cz b4 b5, cz b6 b7, cz b8 b9, cz b10 b11, cp b12 b13]
   try rfl
  intro ρ w9 hm' hf
  exact ⟨by rw [hc]; rfl, hm'.below⟩
 refine zR 87 b13 ?_
 refine At.to (noF_stable) (noF_fewer) 20 600 [5, 6, 7, 78] 4 ⟨.code (sub B34 pAO2), [.seq (sub B34 pAO4), .block 1, .seq (sub B34 pAO7), .rounds (sub B34 pAO11) 13, .block 0, .seq (sub B34 pAO13)], [(5, .ls 2 0 8 8), (6, .ls 3 0 8 8), (7, .v (.int .i64 6)), (78, .bo (decide (p.mn < q.mn)))], [([.so (mkB p.key), .io .i64 p.st, .io .i64 p.en, .io .i64 p.kd, .io .i64 p.nt, .io .i64 p.ct, .io .i64 p.sm, .io .i64 p.mn, .io .i64 p.mx], 40), ([.so (mkB q.key), .io .i64 q.st, .io .i64 q.en, .io .i64 q.kd, .io .i64 q.nt, .io .i64 q.ct, .io .i64 q.sm, .io .i64 q.mn, .io .i64 q.mx], 40), ([.io .i64 p.st, .io .i64 p.en, .io .i64 p.kd, .io .i64 p.nt, .io .i64 p.ct, .io .i64 p.sm, .io .i64 p.mn, .io .i64 p.mx], 2), ([.io .i64 q.st, .io .i64 q.en, .io .i64 q.kd, .io .i64 q.nt, .io .i64 q.ct, .io .i64 q.sm, .io .i64 q.mn, .io .i64 q.mx], 2)]⟩ (by kernel_rfl) (by kernel_rfl) ?_
 rcases Bool.eq_false_or_eq_true (decide (p.mn < q.mn)) with b14 | b14
 ·refine zR 78 b14 ?_
  refine At.to (noF_stable) (noF_fewer) 20 600 [4] 0 ⟨.exit .ret, [], [(4, .v (.int .i64 (-1)))], []⟩ (by kernel_rfl) (by kernel_rfl) ?_
  refine zE (.v (.int .i64 (-1))) ?_
  have hc : cmpP p q = (-1) := by
   unfold cmpP
   simp only [orI, sz b0 b1, cz b2 b3, cz b4 b5, cz b6 b7, cz b8 b9, cz b10 b11, cz b12 b13, cn b14]
   try rfl
  intro ρ w9 hm' hf
  exact ⟨by rw [hc]; rfl, hm'.below⟩
 refine zR 78 b14 ?_
 refine At.to (noF_stable) (noF_fewer) 20 600 [5, 6, 7, 87] 4 ⟨.code (sub B34 pAO3), [.block 1, .seq (sub B34 pAO7), .rounds (sub B34 pAO11) 13, .block 0, .seq (sub B34 pAO13)], [(5, .ls 2 0 8 8), (6, .ls 3 0 8 8), (7, .v (.int .i64 6)), (87, .bo (decide (p.mn > q.mn)))], [([.so (mkB p.key), .io .i64 p.st, .io .i64 p.en, .io .i64 p.kd, .io .i64 p.nt, .io .i64 p.ct, .io .i64 p.sm, .io .i64 p.mn, .io .i64 p.mx], 40), ([.so (mkB q.key), .io .i64 q.st, .io .i64 q.en, .io .i64 q.kd, .io .i64 q.nt, .io .i64 q.ct, .io .i64 q.sm, .io .i64 q.mn, .io .i64 q.mx], 40), ([.io .i64 p.st, .io .i64 p.en, .io .i64 p.kd, .io .i64 p.nt, .io .i64 p.ct, .io .i64 p.sm, .io .i64 p.mn, .io .i64 p.mx], 2), ([.io .i64 q.st, .io .i64 q.en, .io .i64 q.kd, .io .i64 q.nt, .io .i64 q.ct, .io .i64 q.sm, .io .i64 q.mn, .io .i64 q.mx], 2)]⟩ (by kernel_rfl) (by kernel_rfl) ?_
 rcases Bool.eq_false_or_eq_true (decide (p.mn > q.mn)) with b15 | b15
 ·refine zR 87 b15 ?_
  refine At.to (noF_stable) (noF_fewer) 20 600 [4] 0 ⟨.exit .ret, [], [(4, .v (.int .i64 1))], []⟩ (by kernel_rfl) (by kernel_rfl) ?_
  refine zE (.v (.int .i64 1)) ?_
  have hc : cmpP p q = 1 := by
   unfold cmpP
   simp only [orI, sz b0 b1, cz b2 b3, cz b4 b5, cz b6 b7, cz b8 b9, cz b10 b11, cz b12 b13, cp b14 b15]
   try rfl
  intro ρ w9 hm' hf
  exact ⟨by rw [hc]; rfl, hm'.below⟩
 refine zR 87 b15 ?_
 refine At.to (noF_stable) (noF_fewer) 20 600 [5, 6, 7, 78] 4 ⟨.code (sub B34 pAO2), [.seq (sub B34 pAO4), .block 1, .seq (sub B34 pAO7), .rounds (sub B34 pAO11) 12, .block 0, .seq (sub B34 pAO13)], [(5, .ls 2 0 8 8), (6, .ls 3 0 8 8), (7, .v (.int .i64 7)), (78, .bo (decide (p.mx < q.mx)))], [([.so (mkB p.key), .io .i64 p.st, .io .i64 p.en, .io .i64 p.kd, .io .i64 p.nt, .io .i64 p.ct, .io .i64 p.sm, .io .i64 p.mn, .io .i64 p.mx], 40), ([.so (mkB q.key), .io .i64 q.st, .io .i64 q.en, .io .i64 q.kd, .io .i64 q.nt, .io .i64 q.ct, .io .i64 q.sm, .io .i64 q.mn, .io .i64 q.mx], 40), ([.io .i64 p.st, .io .i64 p.en, .io .i64 p.kd, .io .i64 p.nt, .io .i64 p.ct, .io .i64 p.sm, .io .i64 p.mn, .io .i64 p.mx], 2), ([.io .i64 q.st, .io .i64 q.en, .io .i64 q.kd, .io .i64 q.nt, .io .i64 q.ct, .io .i64 q.sm, .io .i64 q.mn, .io .i64 q.mx], 2)]⟩ (by kernel_rfl) (by kernel_rfl) ?_
 rcases Bool.eq_false_or_eq_true (decide (p.mx < q.mx)) with b16 | b16
 ·refine zR 78 b16 ?_
  refine At.to (noF_stable) (noF_fewer) 20 600 [4] 0 ⟨.exit .ret, [], [(4, .v (.int .i64 (-1)))], []⟩ (by kernel_rfl) (by kernel_rfl) ?_
  refine zE (.v (.int .i64 (-1))) ?_
  have hc : cmpP p q = (-1) := by
   unfold cmpP
   simp only [orI, sz b0 b1, cz b2 b3, cz b4 b5, cz b6 b7, cz b8 b9, cz b10 b11, cz b12 b13, cz b14 b15, cn b16]
   try rfl
  intro ρ w9 hm' hf
  exact ⟨by rw [hc]; rfl, hm'.below⟩
 refine zR 78 b16 ?_
 refine At.to (noF_stable) (noF_fewer) 20 600 [5, 6, 7, 87] 4 ⟨.code (sub B34 pAO3), [.block 1, .seq (sub B34 pAO7), .rounds (sub B34 pAO11) 12, .block 0, .seq (sub B34 pAO13)], [(5, .ls 2 0 8 8), (6, .ls 3 0 8 8), (7, .v (.int .i64 7)), (87, .bo (decide (p.mx > q.mx)))], [([.so (mkB p.key), .io .i64 p.st, .io .i64 p.en, .io .i64 p.kd, .io .i64 p.nt, .io .i64 p.ct, .io .i64 p.sm, .io .i64 p.mn, .io .i64 p.mx], 40), ([.so (mkB q.key), .io .i64 q.st, .io .i64 q.en, .io .i64 q.kd, .io .i64 q.nt, .io .i64 q.ct, .io .i64 q.sm, .io .i64 q.mn, .io .i64 q.mx], 40), ([.io .i64 p.st, .io .i64 p.en, .io .i64 p.kd, .io .i64 p.nt, .io .i64 p.ct, .io .i64 p.sm, .io .i64 p.mn, .io .i64 p.mx], 2), ([.io .i64 q.st, .io .i64 q.en, .io .i64 q.kd, .io .i64 q.nt, .io .i64 q.ct, .io .i64 q.sm, .io .i64 q.mn, .io .i64 q.mx], 2)]⟩ (by kernel_rfl) (by kernel_rfl) ?_
 rcases Bool.eq_false_or_eq_true (decide (p.mx > q.mx)) with b17 | b17
 ·refine zR 87 b17 ?_
  refine At.to (noF_stable) (noF_fewer) 20 600 [4] 0 ⟨.exit .ret, [], [(4, .v (.int .i64 1))], []⟩ (by kernel_rfl) (by kernel_rfl) ?_
  refine zE (.v (.int .i64 1)) ?_
  have hc : cmpP p q = 1 := by
   unfold cmpP
   simp only [orI, sz b0 b1, cz b2 b3, cz b4 b5, cz b6 b7, cz b8 b9, cz b10 b11, cz b12 b13, cz b14 b15, cp b16 b17]
   try rfl
  intro ρ w9 hm' hf
  exact ⟨by rw [hc]; rfl, hm'.below⟩
 refine zR 87 b17 ?_
 refine At.to (noF_stable) (noF_fewer) 20 600 [4] 0 ⟨.exit .ret, [], [(4, .v (.int .i64 0))], []⟩ (by kernel_rfl) (by kernel_rfl) ?_
 refine zE (.v (.int .i64 0)) ?_
 have hc : cmpP p q = 0 := by
  unfold cmpP
  simp only [orI, sz b0 b1, cz b2 b3, cz b4 b5, cz b6 b7, cz b8 b9, cz b10 b11, cz b12 b13, cz b14 b15, cz b16 b17]
  try rfl
 intro ρ w9 hm' hf
 exact ⟨by rw [hc]; rfl, hm'.below⟩
end Go.Proofs.YtkjnbafdmjakgaaGreatDoor
end
section
/- A slice's tail, whatever it is a slice of; the reference's key lists. -/
namespace Go.Sx
open Go.RowKit
section
variable {P : Program} {Q : Exit → Act → World → Prop} {N : Nat} {w0 : World} {ntm : Nat} {F : List Nat → World → Prop}
def slGQ (P : Program) (fr : Fr) (o : Oper) : Option (Option Addr × Nat × Nat × Int × Nat) :=
 match o.op with
 | .slice t x (some lo) none none => match P.underlying t, evalS fr x, (evalS fr lo).bind litOf with
  | some (.slice e), some (.sl A n c), some (.int _ l, _) => match sizeT P e with
   | some size => some (A, n, c, l, size)
   | none => none
  | _, _, _ => none
 | _ => none
theorem run_slGx {ρ : List Nat} {fr : Fr} {act : Act} (ha : AInv ntm ρ fr act) {o : Oper} {A : Option Addr} {n c size : Nat} {l : Int} (hq : slGQ P fr o = some (A, n, c, l, size)) (h0 : 0 ≤ l) (h1 : l ≤ n) (w : World) :
  (execOp act.eval o).run P w = .ok (.value (.slice (if c = l.toNat then A else A.map (·.add (l.toNat * size))) (n - l.toNat) (c - l.toNat))) w := by
 obtain ⟨dst, op, ty, pos, after, guard⟩ := o
 unfold slGQ at hq
 simp only at hq
 split at hq
 ·rename_i t x lo
  split at hq
  ·rename_i e A' n' c' k l' lf hu hx hlo
   obtain ⟨sl, hsl, hll⟩ := Option.bind_eq_some_iff.1 hlo
   have hel : P.underlying t = some (.slice (P.elem t)) := by simp [Program.elem, hu]
   have hel2 : P.elem t = e := by simp [Program.elem, hu]
   split at hq
   ·rename_i size' hs
    simp only [Option.some.injEq, Prod.mk.injEq] at hq
    obtain ⟨rfl, rfl, rfl, rfl, rfl⟩ := hq
    have := run_slice_l (P := P) w t A' n' c' hel k l' h0 h1
    rw [hel2] at this
    simp [execOp, evalS_sound ha hx, evalS_sound ha hsl, litOf_den hll, SV.den, run_sliceAt_slice w t _ _ _ _ hel, this, run_sizeT hs, sliced, Result.andThen]
   cases hq
  cases hq
 cases hq
def slGI (P : Program) (ntm : Nat) (s : S) : Option (Option Addr × Nat × Nat × Int × Nat) :=
 match s.head?, s.dstOk ntm with
 | some o, true => slGQ P s.fr o
 | _, _ => none
theorem At.slG {s : S} (A : Option Addr) (n c : Nat) (l : Int) (size : Nat) (r : SV) (hq : slGI P ntm s = some (A, n, c, l, size)) (hF : Stable F) (h0 : 0 ≤ l) (h1 : l ≤ n)
  (hr : ∀ ρ, r.den ρ = .slice (if c = l.toNat then A else A.map (·.add (l.toNat * size))) (n - l.toNat) (c - l.toNat))
  (hk : At P Q N w0 ntm F (s.tail ntm r)) : At P Q N w0 ntm F s := by
 unfold slGI at hq
 split at hq
 ·rename_i o ho hd
  exact At.op hF o r ho hd (fun ρ act w hi _ => by rw [hr]; exact run_slGx hi.act hq h0 h1 w) hk
 cases hq
end
def subA (A : Option Addr) (c k size : Nat) : Option Addr := if c = k then A else A.map (·.add (k * size))
theorem Rws.shape {b : Nat} {L : List Rw} {ρ : List Nat} {w : World} {x : Rw} (h : Rws b L ρ w) (hx : x ∈ L) : x.A = Option.none ∨ ∃ g, x.A = Option.some ⟨g, 0, Option.none⟩ := by
 rcases (h.1 x hx).1.2 with ⟨h', _⟩ | ⟨g, cap, cur, hv, _⟩
 ·exact .inl (by injection h' with h1 h2 h3)
 exact .inr ⟨g, by injection hv with h1 h2 h3⟩
theorem addZ (A : Option Addr) (c size : Nat) (h : A = none ∨ ∃ g, A = some ⟨g, 0, none⟩) : (if c = 0 then A else A.map (·.add (0 * size))) = A := by
 rcases h with rfl | ⟨g, rfl⟩
 ·simp
 simp [add_ok]
end Go.Sx
namespace Go.Proofs.YtkjnbafdmjakgaaGreatDoor
open Go.RowKit Go.Sx
theorem ins_keys {k : List UInt8} : ∀ (M : List (List UInt8 × Unit)) (j : Nat), j ≤ M.length → (∀ i x, i < j → (M.map (·.1))[i]? = some x → cmp1 x k < 0) → (∀ x, (M.map (·.1))[j]? = some x → ¬ cmp1 x k < 0) →
  (insL cmp1 k () M).map (·.1) = if (M.map (·.1))[j]? = some k then M.map (·.1) else (M.map (·.1)).take j ++ k :: (M.map (·.1)).drop j
 | [], j, hj, h1, h2 => by
  have : j = 0 := by simpa using hj
  subst this
  rfl
 | (a, ()) :: M, 0, hj, h1, h2 => by
  have h3 := h2 a rfl
  have e1 := lin1.eq k a
  have e2 := lin1.anti a k
  have e3 := lin1.anti k a
  rw [insL]
  split
  ·rename_i h
   have : ¬ a = k := fun e => by
    subst e
    have := e1.2 rfl
    omega
   simp [this]
  rename_i h
  split
  ·omega
  have : k = a := e1.1 (by omega)
  subst this
  simp
 | (a, ()) :: M, j + 1, hj, h1, h2 => by
  have h3 := h1 0 a (by omega) rfl
  have e2 := lin1.anti a k
  have e3 := lin1.anti k a
  rw [insL, if_neg (by omega), if_pos (by omega)]
  have ih := ins_keys (k := k) M j (by simpa using hj) (fun i x hi hx => h1 (i + 1) x (by omega) (by simpa using hx)) (fun x hx => h2 x (by simpa using hx))
  rw [List.map_cons, ih]
  simp only [List.map_cons, List.getElem?_cons_succ, List.take_succ_cons, List.drop_succ_cons]
  split <;> simp
theorem rkeyL_snoc (l : List Pn) (p : Pn) (j : Nat) (hj : j ≤ (rkeyL l).length) (h1 : ∀ i x, i < j → (rkeyL l)[i]? = some x → cmp1 x p.key < 0) (h2 : ∀ x, (rkeyL l)[j]? = some x → ¬ cmp1 x p.key < 0) :
  rkeyL (l ++ [p]) = if (rkeyL l)[j]? = some p.key then rkeyL l else (rkeyL l).take j ++ p.key :: (rkeyL l).drop j := by
 unfold rkeyL at *
 rw [← ins_keys (rkeysM l) j (by simpa using hj) h1 h2]
 simp [rkeysM, List.foldl_append]
theorem rkeyL_len (l : List Pn) : (rkeyL l).length ≤ l.length := by
 have h := congrArg List.length (rkeys_alike l)
 unfold withG at h
 rw [List.length_map] at h
 exact h ▸ keysM_len l
def svK (ks : List (List UInt8)) : List Value := ks.map fun k => .string (mkB k)
theorem svK_one (ks : List (List UInt8)) : ∀ u ∈ svK ks, u.oneCell' = true := fun u hu => by
 obtain ⟨k, _, rfl⟩ := List.mem_map.1 hu
 rfl
end Go.Proofs.YtkjnbafdmjakgaaGreatDoor
end
