/- Joined texts: SO, SF, SC, LN, XA, XB, SxRw, AK, XC. -/
import Derived.Test.YthfpekhpeiebjaaGreatDoorTAM
import Derived.Lib.AppendIntMem
import Derived.Lib.Walk
import Derived.BigCall
import Derived.BigGuard
set_option linter.unusedSectionVars false
set_option linter.unusedSimpArgs false
set_option linter.unusedVariables false
namespace Go.Sx
open Go
def cfAN (g s k sz sl of gp lt ea : Int) (d : Bool) : List SV := [.io .i64 g, .io .i64 s, .io .i64 k, .io .i64 sz, .io .i64 sl, .io .i64 of, .io .i64 gp, .io .i64 lt, .io .i64 ea, .bo d]
def cwAN (g s k sz sl of gp lt ea : Int) (d : Bool) (wk : Int) (A : Option Addr) (n c : Nat) : List SV := [.io .i64 g, .io .i64 s, .io .i64 k, .io .i64 sz, .io .i64 sl, .io .i64 of, .io .i64 gp, .io .i64 lt, .io .i64 ea, .bo d, .io .i64 wk, .sl A n c]
def zAN0 : List SV := [.v (.int .i64 0), .v (.int .i64 0), .v (.int .i64 0), .v (.int .i64 0), .v (.int .i64 0), .v (.int .i64 0), .v (.int .i64 0), .v (.int .i64 0), .v (.int .i64 0), .v (.bool false), .v (.int .i64 0), .v (.slice none 0 0)]
def zAN1 : List SV := [.io .i64 0, .io .i64 0, .io .i64 0, .io .i64 0, .io .i64 0, .io .i64 0, .io .i64 0, .io .i64 0, .io .i64 0, .bo false, .io .i64 0, .sl none 0 0]
def pAN2 : List Nat := [1, 0, 1, 4, 1, 2, 0, 1, 4, 1, 2, 1]
def pAN3 : List Nat := [1, 4, 1, 1, 1, 1, 0, 1, 2, 1]
def pAN4 : List Nat := [1, 1, 1, 0, 1, 4, 4, 1, 1, 1]
def pAN5 : List Nat := [1, 1, 0, 1, 4, 4, 1, 0, 4, 1]
def pAN6 : List Nat := [1, 1, 1, 1, 0, 1, 4, 4, 1, 1]
def pAN7 : List Nat := [1, 4, 1, 1, 1, 0, 1, 4]
def pAN8 : List Nat := [1, 1, 0, 1, 4, 4, 1, 1]
def pAN9 : List Nat := [1, 4, 1, 1, 1, 1, 1]
def pAN10 : List Nat := [1, 0, 1, 4, 1, 2, 1]
def pAN11 : List Nat := [1, 4, 1, 1, 1, 1]
def pAN12 : List Nat := [1, 1, 1, 1, 1]
def pAN13 : List Nat := [1, 1, 0, 1]
def pAN14 : List Nat := [1, 1, 1]
end Go.Sx
section
namespace Go.Proofs.YthfpekhpeiebjaaGreatDoor
open Go.RowKit Go.Sx
theorem clos_den {ρ ρc : List Nat} {f : FuncId} (h : ρ.length = 5) : (SV.fn (.func f) [.lp 5 0]).den (ρ ++ ρc) = (SV.fn (.func f) [.lp 0 0]).den ρc := by
 simp [SV.den, SV.denL, Go.Sx.nth, List.getElem?_append_right, h]
def zscr : Value := .agg #[.int .i64 0, .int .i64 0, .int .i64 0, .int .i64 0, .int .i64 0, .int .i64 0, .int .i64 0, .int .i64 0, .int .i64 0, .bool false, .int .i64 0, .slice none 0 0]
def parseE (w : World) (fo : FO) (e : Ending) (w' : World) : Prop :=
 if fo.ok then ∃ A' c', e = .returned (.tuple #[.agg (fo.c.w ++ [Value.int .i64 fo.wk, Value.slice A' fo.xs.length c']).toArray, .int .i64 (fo.n : Int), .int .i64 0]) ∧ RowF w (fun _ => False) [] w.heap.size 41 10 A' fo.xs.length c' (stW fo.xs) [] w'
 else e = .returned (.tuple #[zscr, .int .i64 (fo.n : Int), .int .i64 370]) ∧ Below w.heap.size w w'
def FT (w : World) (D : Nat) (A : Option Addr) (m cap : Nat) (xs : List St) (ρ : List Nat) (w' : World) : Prop := RowE w (fun _ => False) [] w.heap.size 41 10 A m cap (stW xs) [] ρ w' ∧ Rec D (.deferred (some [])) ρ w'
theorem FT.stable {w : World} {D : Nat} {A : Option Addr} {m cap : Nat} {xs : List St} : Stable (FT w D A m cap xs) := RowE.stable.and Rec.stable
theorem FT.fewer {w : World} {D : Nat} {A : Option Addr} {m cap : Nat} {xs : List St} : FewerK 0 (FT w D A m cap xs) := fun ρ w k hk ⟨h1, h2⟩ => ⟨RowE.fewer ρ w k hk h1, Rec.fewer 0 ρ w k hk h2⟩
def GX (w : World) (t : List UInt8) (x : XP) (D : Nat) (ρ : List Nat) (w' : World) : Prop := FT w D x.A x.m x.cap x.xs ρ w' ∧ (EndX (parseS t) x ∧ w.heap.size ≤ D)
theorem winv_alloc {N : Nat} {w0 w : World} {ρ : List Nat} {loc : Sx.Loc} (h : WInv N w0 ρ loc w) (o : Obj) : WInv N w0 ρ loc (w.alloc o) := by
 refine ⟨h.below.alloc h.hN o, ?_, h.len, h.nodup, fun b hb => ⟨(h.ge b hb).1, ?_⟩, fun i c t hi => ?_⟩
 ·have := h.hN
  rw [show (w.alloc o).heap = w.heap.push o from rfl]
  simp; omega
 ·have := (h.ge b hb).2
  rw [show (w.alloc o).heap = w.heap.push o from rfl]
  simp; omega
 have hold := h.cells i c t hi
 have hlt := (Array.getElem?_eq_some_iff.1 hold).1
 rw [show (w.alloc o).heap = w.heap.push o from rfl]
 rw [Array.getElem?_push, if_neg (by omega)]
 exact hold
set_option maxHeartbeats 8000000 in
set_option maxRecDepth 100000 in
theorem tail_ok [Md] {D : Nat} (hdf : Md.dfs = [{ target := .collected D, args := #[] }]) {w : World} {t : List UInt8} (x : XP) :
  At Tryz.prog (bodyPostM Fence.wide 0 Tryz.prog Tryz.f9 (parseE w (parseS t))) w.heap.size w Tryz.f9.ntmps (GX w t x D) ⟨(match jmpX x.stop with | none => .exit .normal | some c => .code c), [.block 0, (sq9 pAN11), .scope], [(2, .lp 0 0), (3, .lp 1 0), (4, .lp 2 0), (5, .lp 3 0), (6, .lp 4 0), (20, .fn (.func 49) [.lp 5 0])], locX x⟩ := by
 obtain ⟨t1, n, ⟨g, s, k, sz, sl, of, gp, lt, ea, d⟩, wk, A, m, cap, xs, stop⟩ := x
 refine At.pure fun ⟨hE, hDw⟩ => ?_
 obtain ⟨hE, hm, hwr⟩ := hE
 simp only at hE hm
 subst hm
 match stop, hE with
 | some true, hE =>
  refine zT FT.stable FT.fewer [2, 3, 4] 3 ⟨.exit .ret, [], [(2, .lp 0 0), (3, .lp 1 0), (4, .lp 2 0)], [(zAN1, 28), ([.io .i64 (↑n : Int)], 3), ([.io .i64 370], 29)]⟩ ?_
  refine At.retM hdf (by kernel_rfl) (.tup [.agg zAN1, .io .i64 (↑n : Int), .io .i64 370]) (by kernel_rfl) (fun ρ w h => ⟨hDw, h.2.1⟩) ?_
  intro ρ w9 hm' hD9 hf
  rw [hE]
  unfold parseE
  rw [if_neg (by simp [FO.ok])]
  exact ⟨rfl, hm'.below⟩
 | some false, hE =>
  refine zTq FT.stable FT.fewer [2, 3, 4, 5, 6, 110] 5 ?_
  rcases zB (decide ((↑n : Int) < 2)) with b0 | b0
  ·refine zR 110 b0 ?_
   refine zT FT.stable FT.fewer [2, 3, 4, 6] 5 ⟨.any (opsOf (sub B9 [1, 4, 1, 1, 1, 1, 0, 1, 2, 0])) 5 [], [(sq9 pAN3), (sq9 pAN9), .scope], [(2, .lp 0 0), (3, .lp 1 0), (4, .lp 2 0), (6, .lp 4 0)], [(zAN1, 28), ([.io .i64 0], 3), ([.io .i64 0], 29), ((cwAN g s k sz sl of gp lt ea d wk A xs.length cap), 28), ([.io .i64 (↑n : Int)], 3)]⟩ ?_
   refine At.anyOrder FT.stable (j := 0) FT.fewer rfl 20 2 [2, 3, 4] 3 [(2, .lp 0 0), (3, .lp 1 0), (4, .lp 2 0)] [(zAN0, 28), ([.io .i64 (n : Int)], 3), ([.v (.int .i64 370)], 29)] (by kernel_rfl) (by kernel_rfl) ?_
   refine zT FT.stable FT.fewer [2, 3, 4] 3 ⟨.exit .ret, [], [(2, .lp 0 0), (3, .lp 1 0), (4, .lp 2 0)], [(zAN0, 28), ([.io .i64 (↑n : Int)], 3), ([.v (.int .i64 370)], 29)]⟩ ?_
   refine At.retM hdf (by kernel_rfl) (.tup [.agg zAN0, .io .i64 (↑n : Int), .v (.int .i64 370)]) (by kernel_rfl) (fun ρ w h => ⟨hDw, h.2.1⟩) ?_
   intro ρ w9 hm' hD9 hf
   have hn2 := of_decide_eq_true b0
   rw [hE]
   unfold parseE
   rw [if_neg (by simp [FO.ok]; omega)]
   exact ⟨rfl, hm'.below⟩
  refine zR 110 b0 ?_
  refine zT FT.stable FT.fewer [2, 3, 4, 5, 6] 5 ⟨.any (opsOf (sub B9 [1, 4, 1, 1, 1, 1, 1, 0])) 5 [], [(sq9 pAN3), .scope], [(2, .lp 0 0), (3, .lp 1 0), (4, .lp 2 0), (5, .lp 3 0), (6, .lp 4 0)], [(zAN1, 28), ([.io .i64 0], 3), ([.io .i64 0], 29), ((cwAN g s k sz sl of gp lt ea d wk A xs.length cap), 28), ([.io .i64 (↑n : Int)], 3)]⟩ ?_
  refine At.anyOrder FT.stable (j := 0) FT.fewer rfl 20 3 [2, 3, 4] 3 [(2, .lp 0 0), (3, .lp 1 0), (4, .lp 2 0)] [((cwAN g s k sz sl of gp lt ea d wk A xs.length cap), 28), ([.io .i64 (n : Int)], 3), ([.v (.int .i64 0)], 29)] (by kernel_rfl) (by kernel_rfl) ?_
  refine zT FT.stable FT.fewer [2, 3, 4] 3 ⟨.exit .ret, [], [(2, .lp 0 0), (3, .lp 1 0), (4, .lp 2 0)], [((cwAN g s k sz sl of gp lt ea d wk A xs.length cap), 28), ([.io .i64 (↑n : Int)], 3), ([.v (.int .i64 0)], 29)]⟩ ?_
  refine At.retM hdf (by kernel_rfl) (.tup [.agg (cwAN g s k sz sl of gp lt ea d wk A xs.length cap), .io .i64 (↑n : Int), .v (.int .i64 0)]) (by kernel_rfl) (fun ρ w h => ⟨hDw, h.2.1⟩) ?_
  intro ρ w9 hm' hD9 hf
  have hn2 := of_decide_eq_false b0
  rw [hE]
  unfold parseE
  rw [if_pos (by simp [FO.ok]; omega)]
  exact ⟨A, cap, rfl, (RowF.fewer _ _ 0 (Nat.zero_le _) hf.1.1).putObj hf.2.1 (fun _ _ _ => by simp) (.inr hDw) _⟩
 | none, hE =>
  refine zTq FT.stable FT.fewer [2, 3, 4, 5, 6, 110] 5 ?_
  rcases zB (decide ((↑n : Int) < 2)) with b0 | b0
  ·refine zR 110 b0 ?_
   refine zT FT.stable FT.fewer [2, 3, 4, 6] 5 ⟨.any (opsOf (sub B9 [1, 4, 1, 1, 1, 1, 0, 1, 2, 0])) 5 [], [(sq9 pAN3), (sq9 pAN9), .scope], [(2, .lp 0 0), (3, .lp 1 0), (4, .lp 2 0), (6, .lp 4 0)], [(zAN1, 28), ([.io .i64 0], 3), ([.io .i64 0], 29), ((cwAN g s k sz sl of gp lt ea d wk A xs.length cap), 28), ([.io .i64 (↑n : Int)], 3)]⟩ ?_
   refine At.anyOrder FT.stable (j := 0) FT.fewer rfl 20 2 [2, 3, 4] 3 [(2, .lp 0 0), (3, .lp 1 0), (4, .lp 2 0)] [(zAN0, 28), ([.io .i64 (n : Int)], 3), ([.v (.int .i64 370)], 29)] (by kernel_rfl) (by kernel_rfl) ?_
   refine zT FT.stable FT.fewer [2, 3, 4] 3 ⟨.exit .ret, [], [(2, .lp 0 0), (3, .lp 1 0), (4, .lp 2 0)], [(zAN0, 28), ([.io .i64 (↑n : Int)], 3), ([.v (.int .i64 370)], 29)]⟩ ?_
   refine At.retM hdf (by kernel_rfl) (.tup [.agg zAN0, .io .i64 (↑n : Int), .v (.int .i64 370)]) (by kernel_rfl) (fun ρ w h => ⟨hDw, h.2.1⟩) ?_
   intro ρ w9 hm' hD9 hf
   have hn2 := of_decide_eq_true b0
   rw [hE]
   unfold parseE
   rw [if_neg (by simp [FO.ok]; omega)]
   exact ⟨rfl, hm'.below⟩
  refine zR 110 b0 ?_
  refine zT FT.stable FT.fewer [2, 3, 4, 5, 6] 5 ⟨.any (opsOf (sub B9 [1, 4, 1, 1, 1, 1, 1, 0])) 5 [], [(sq9 pAN3), .scope], [(2, .lp 0 0), (3, .lp 1 0), (4, .lp 2 0), (5, .lp 3 0), (6, .lp 4 0)], [(zAN1, 28), ([.io .i64 0], 3), ([.io .i64 0], 29), ((cwAN g s k sz sl of gp lt ea d wk A xs.length cap), 28), ([.io .i64 (↑n : Int)], 3)]⟩ ?_
  refine At.anyOrder FT.stable (j := 0) FT.fewer rfl 20 3 [2, 3, 4] 3 [(2, .lp 0 0), (3, .lp 1 0), (4, .lp 2 0)] [((cwAN g s k sz sl of gp lt ea d wk A xs.length cap), 28), ([.io .i64 (n : Int)], 3), ([.v (.int .i64 0)], 29)] (by kernel_rfl) (by kernel_rfl) ?_
  refine zT FT.stable FT.fewer [2, 3, 4] 3 ⟨.exit .ret, [], [(2, .lp 0 0), (3, .lp 1 0), (4, .lp 2 0)], [((cwAN g s k sz sl of gp lt ea d wk A xs.length cap), 28), ([.io .i64 (↑n : Int)], 3), ([.v (.int .i64 0)], 29)]⟩ ?_
  refine At.retM hdf (by kernel_rfl) (.tup [.agg (cwAN g s k sz sl of gp lt ea d wk A xs.length cap), .io .i64 (↑n : Int), .v (.int .i64 0)]) (by kernel_rfl) (fun ρ w h => ⟨hDw, h.2.1⟩) ?_
  intro ρ w9 hm' hD9 hf
  have hn2 := of_decide_eq_false b0
  rw [hE]
  unfold parseE
  rw [if_pos (by simp [FO.ok]; omega)]
  exact ⟨A, cap, rfl, (RowF.fewer _ _ 0 (Nat.zero_le _) hf.1.1).putObj hf.2.1 (fun _ _ _ => by simp) (.inr hDw) _⟩
set_option maxHeartbeats 8000000 in
set_option maxRecDepth 100000 in
theorem parse_kit (t : List UInt8) (ht : t.length ≤ 1048576) (w : World) (hw : Wd w) :
  Calls Tryz.prog 9 #[.string (mkB t)] w (parseE w (parseS t)) := by
 refine enterM (N := w.heap.size) (F := RowE w (fun _ => False) [] w.heap.size 41 10 none 0 0 [] []) (fn := Tryz.f9) (c := B9) [.so (mkB t)] Tryz.func9 rfl rfl (Nat.le_refl _) ⟨⟨⟨⟨World.ownsRow_nil _ _ _ _, by simp [Value.ownBlock]⟩, Nat.le_refl _⟩, FrameR.start _ [] (by simp), by simp [Value.ownBlock]⟩, by simp⟩ ?_
 refine zH [2, 3, 4, 5, 6, 19] 5 ⟨pops B9 [1, 4, 1, 1, 1, 0, 0] 1, [(sq9 [1, 4, 1, 1, 1, 0, 1]), (sq9 pAN11), .scope], [(2, .lp 0 0), (3, .lp 1 0), (4, .lp 2 0), (5, .lp 3 0), (6, .lp 4 0), (19, .so (mkB t))], [(zAN0, 28), ([.v (.int .i64 0)], 3), ([.v (.int .i64 0)], 29), (zAN0, 28), ([.v (.int .i64 0)], 3)]⟩ ?_
 refine At.newcallV 26 [.so (mkB t)] (.fn (.func 49) [.lp 0 0]) (.fn (.func 49) [.lp 5 0]) [([.so (mkB t)], 9)] RowE.stable (by kernel_rfl) (by kernel_rfl) (by kernel_rfl) (by kernel_rfl) (by kernel_rfl) (by kernel_rfl) (fun ρ ρc h => clos_den h) (by kernel_rfl) (fun ρ w1 hm' hf => lines_any t w1) ?_
 refine zH [2, 3, 4, 5, 6, 20] 6 ⟨.code (sub B9 pAN7), [.block 0, (sq9 pAN11), .scope], [(2, .lp 0 0), (3, .lp 1 0), (4, .lp 2 0), (5, .lp 3 0), (6, .lp 4 0), (20, .fn (.func 49) [.lp 5 0])], [(zAN0, 28), ([.v (.int .i64 0)], 3), ([.v (.int .i64 0)], 29), (zAN0, 28), ([.v (.int .i64 0)], 3), ([.so (mkB t)], 9)]⟩ ?_
 refine At.canL (s' := ⟨.code (sub B9 pAN7), [.block 0, (sq9 pAN11), .scope], [(2, .lp 0 0), (3, .lp 1 0), (4, .lp 2 0), (5, .lp 3 0), (6, .lp 4 0), (20, .fn (.func 49) [.lp 5 0])], canL [(zAN0, 28), ([.v (.int .i64 0)], 3), ([.v (.int .i64 0)], 29), (zAN0, 28), ([.v (.int .i64 0)], 3), ([.so (mkB t)], 9)]⟩) rfl ?_
 refine At.slLoc (s' := ⟨.code (sub B9 pAN7), [.block 0, (sq9 pAN11), .scope], [(2, .lp 0 0), (3, .lp 1 0), (4, .lp 2 0), (5, .lp 3 0), (6, .lp 4 0), (20, .fn (.func 49) [.lp 5 0])], locP t 0 cf0 0 none 0 0 0 0⟩) (by kernel_rfl) ?_
 refine At.range (X := XP) (t := 20) (params := #[21, 22]) (assign := BPa) (body := BPb) (g := 49) (caps := [.lp 5 0]) (by kernel_rfl) (by kernel_rfl) (by kernel_rfl) (fun x => jmpX x.stop) locX (GX w t) (by kernel_rfl) (fun D fid ρ a wl w2 hi hf hD hw2 => ?_) (fun x D => @tail_ok (Md.mark D) D rfl w t x)
 subst hD
 have hlen : ρ.length = 6 := hi.mem.len
 have hm1 := winv_alloc (winv_alloc hi.mem (.deferred (some []))) (.loop (recOf fid a.tmps #[21, 22] BPa BPb wl.heap.size .ready none))
 rw [← hw2] at hm1
 have hk : Keep ρ wl w2 := by
  rw [hw2]
  exact Keep.of_below (((Below.refl wl.heap.size wl).alloc (Nat.le_refl _) _).alloc (by rw [show ∀ (v : World) o, (v.alloc o).heap = v.heap.push o from fun _ _ => rfl]; simp) _)
 have hd : w2.heap[wl.heap.size]? = some (.deferred (some [])) := by
  rw [hw2, show ∀ (v : World) o, (v.alloc o).heap = v.heap.push o from fun _ _ => rfl, show ∀ (v : World) o, (v.alloc o).heap = v.heap.push o from fun _ _ => rfl]
  simp [Array.getElem?_push]
 have hl2 : w2.heap[wl.heap.size + 1]? = some (.loop (recP fid a.tmps wl.heap.size)) := by
  rw [hw2, show ∀ (v : World) o, (v.alloc o).heap = v.heap.push o from fun _ _ => rfl, show ∀ (v : World) o, (v.alloc o).heap = v.heap.push o from fun _ _ => rfl]
  rw [Array.getElem?_push, if_pos (by simp)]
  rfl
 have hnr : ∀ k, wl.heap.size ≤ k → k ∉ ρ := fun k hk hm => by
  have := (hi.mem.ge k hm).2
  omega
 have hN := hi.mem.hN
 have hfr := (hi.act.sub (small := frP) (by unfold subFr; kernel_rfl)).slot
 refine iter_go (w0 := w) (w1 := w2) (ρ1 := ρ) (D := wl.heap.size) (tmps := a.tmps) (fid := fid) hlen hN hi.act.size hfr hw ht rfl hm1 ⟨RowE.stable ρ wl ρ w2 (Grow.refl _ _) hk hf, ⟨hd, hnr _ (Nat.le_refl _)⟩, ⟨hl2, hnr _ (by omega)⟩, ?_⟩ (fun w3 h => by obtain ⟨⟨v, hv⟩, _⟩ := h; cases hv) ?_
 ·unfold Tk
  rw [List.take_length]
 intro x r3 w3 hm3 hF3 hE hst hpd
 have hnl : ∀ (c : Array Value) (t : TypeId) (f : Nat × Nat), Obj.loop r3 ≠ .cells c t f := fun _ _ _ => by simp
 have hr3 := hF3.2.2.1
 refine ⟨⟨_, rfl⟩, x, ρ, r3, Grow.refl _ _, hm3.putObj (by omega) hr3.2 _, hr3.1, hst, hpd, ⟨⟨⟨hF3.1.1.putObj hr3.1 hnl (.inr (by omega)) _, by simp⟩, ?_, hF3.2.1.2⟩, hE, hN⟩⟩
 rw [World.putObj_heap_other (by omega)]
 exact hF3.2.1.1
end Go.Proofs.YthfpekhpeiebjaaGreatDoor
end
section
/- strconv.FormatUint at base 10. -/
namespace Go.Proofs.YthfpekhpeiebjaaGreatDoor
open Go.Shelf Go.RowKit Go.Sort Go.Lib
set_option maxHeartbeats 6400000 in
set_option maxRecDepth 100000 in
theorem fmtU_in (u : Nat) (hu64 : u < 18446744073709551616) (w : World) (htab : Lib.TabIs Tryz.prog w "internal/strconv.uint64pow10" .u64 Lib.pow10Tab) :
  Calls Tryz.prog 89 #[.int .u64 u, .int .i64 10] w fun e w' => e = .returned (.string ⟨(Lib.decDigits u).toArray⟩) ∧ ∃ k os, w' = grow (w.drewN k) os := by
 have L := Tryz.laysC174
 have mixed : Tryz.prog.follows .mixedOrders = true := L.mixed
 have t3 := L.t3; have a3 := L.a3; have z3 := L.z3; have v3 := L.v3
 have t9 := L.t9; have a9 := L.a9; have z9 := L.z9; have v9 := L.v9
 have t4 := L.t4; have a4 := L.a4; have z4 := L.z4; have v4 := L.v4
 have t171 := L.t171; have a171 := L.a171; have z171 := L.z171; have v171 := L.v171
 have t53 := L.t53; have a53 := L.a53; have z53 := L.z53; have v53 := L.v53
 have t37 := L.t37; have a37 := L.a37; have z37 := L.z37; have v37 := L.v37
 have t5 := L.t5; have a5 := L.a5; have z5 := L.z5; have v5 := L.v5
 have e283 : ∀ args w, (callFunc 102 args).run Tryz.prog w = .ok (.enter 102 args) w := enters_of L.f283 (by kernel_rfl) rfl
 have e284 : ∀ args w, (callFunc 103 args).run Tryz.prog w = .ok (.enter 103 args) w := enters_of L.f284 (by kernel_rfl) rfl
 have e285 : ∀ args w, (callFunc 104 args).run Tryz.prog w = .ok (.enter 104 args) w := enters_of L.f285 (by kernel_rfl) rfl
 by_cases hs : u < 100
 ·have hwr : IntKind.i64.wrap (u : Int) = (u : Int) := wrap63 (by omega) (by omega)
  go_enter Tryz.func89, Tryz.ntmps89
  go_wp2_with (go_at_fn 102; refine (Any.internal_strconv_small { L with } u hs _).mono ?_; rintro e w' ⟨rfl, rfl⟩)
  go_ret
  refine ⟨?_, 0, #[], by simp [World.drewN_zero]⟩
  rfl
 have hu1 : 1 ≤ u := by omega
 have hnd20 : Lib.nDigits u ≤ 20 := by have := Lib.numDigits_eq u hu1 hu64; split at this <;> omega
 have hal : Tryz.prog.arrayLen 149 = 24 := by
  have h := L.t171
  rw [show Tryz.laysC174_ren.t 171 = 149 from rfl] at h
  simp [Program.arrayLen, h]
 have hsl : ∀ W, (Instr.sliceAt 149 (.pointer (some ⟨w.heap.size, 0, none⟩)) none (some (.int .i64 (Lib.nDigits u : Int))) none).run Tryz.prog W = .ok (.slice (some ⟨w.heap.size, 0, none⟩) (Lib.nDigits u) 24) W := fun W => by
  have h := L.t171
  rw [show Tryz.laysC174_ren.t 171 = 149 from rfl] at h
  rw [run_sliceAt_array_h W 149 ⟨w.heap.size, 0, none⟩ (by simp [Program.arrayLen, Program.elem, h]) .i64 (Lib.nDigits u : Int) (by omega) (by rw [hal]; omega)]
  go_simp
 have hH0 := Lib.holds_zero0 w 149 (Lib.nDigits u) (by omega)
 have hfmt := Any.internal_strconv_formatBase10 { L with } w.heap.size 0 24 u (Array.replicate (Lib.nDigits u) 0) (w.alloc (.cells Lib.zeros24 149)) hH0 (by rw [Array.size_replicate]; exact Lib.lt_pow_nDigits u) hu64 (by rw [Array.size_replicate]; omega)
 rw [Array.size_replicate] at hfmt
 have HH0 := Lib.hid hH0
 clear hH0 hal
 go_enter Tryz.func89, Tryz.ntmps89
 go_wp2_with (first
  | (go_at_fn 103; refine (Any.internal_strconv_numDigits { L with } u hu1 hu64 _ (Lib.tabIs_alloc htab _)).mono ?_; rintro e w' ⟨rfl, rfl⟩))
 go_at_fn 104
 refine hfmt.mono ?_
 rintro e w' ⟨rfl, k, v', dk, rfl, hF⟩
 have hcv : (convert 55 9 (.slice (some ⟨w.heap.size, 0, none⟩) (Lib.nDigits u) 24)).run Tryz.prog ((putRow (fun (b : UInt8) => Value.int .u8 (b.toNat : Int)) (w.alloc (.cells Lib.zeros24 149)) w.heap.size 0 dk).drewN k) = .ok (.string ⟨(Lib.decDigits u).toArray⟩) ((putRow (fun (b : UInt8) => Value.int .u8 (b.toNat : Int)) (w.alloc (.cells Lib.zeros24 149)) w.heap.size 0 dk).drewN k) := by
  have h := run_convert_bytes_back (P := Tryz.prog) ((putRow (fun (b : UInt8) => Value.int .u8 (b.toNat : Int)) (w.alloc (.cells Lib.zeros24 149)) w.heap.size 0 dk).drewN k) 55 9 5 ⟨w.heap.size, 0, none⟩ 24 (Lib.decDigits u) L.t37 L.t5 L.t9 (fun j hj => by
   rw [Lib.row_is_numeral hF j hj, Lib.add_plain, World.cell?_drewN]
   exact cell?_putRow (fun (b : UInt8) => Value.int .u8 (b.toNat : Int)) _ w.heap.size 0 _ dk HH0.out (by rw [hF.size, Array.size_replicate]) j (by rw [hF.size]; rw [Lib.decDigits_length] at hj; exact hj))
  rw [Lib.decDigits_length] at h
  exact h
 go_wp2
 go_ret
 obtain ⟨os, eo⟩ := Lib.fin_at w (.cells Lib.zeros24 149) dk k 0
 exact ⟨rfl, k, os, eo⟩
theorem fmtU_any (u : Nat) (hu64 : u < 18446744073709551616) (w : World) (htab : Lib.TabIs Tryz.prog w "internal/strconv.uint64pow10" .u64 Lib.pow10Tab) :
  Calls Tryz.prog 71 #[.int .u64 u, .int .i64 10] w fun e w' => e = .returned (.string (mkB (Lib.itoa u))) ∧ Below w.heap.size w w' := by
 have L := Tryz.laysC174
 have mixed : Tryz.prog.follows .mixedOrders = true := L.mixed
 have t3 := L.t3; have a3 := L.a3; have z3 := L.z3; have v3 := L.v3
 have t9 := L.t9; have a9 := L.a9; have z9 := L.z9; have v9 := L.v9
 have t53 := L.t53; have a53 := L.a53; have z53 := L.z53; have v53 := L.v53
 have e89 : ∀ args w, (callFunc 89 args).run Tryz.prog w = .ok (.enter 89 args) w := enters_of Tryz.func89 (by kernel_rfl) rfl
 go_enter Tryz.func71, Tryz.ntmps71
 go_wp2_with (go_at_fn 89; refine (fmtU_in u hu64 _ htab).mono ?_; rintro e w' ⟨rfl, k, os, rfl⟩)
 go_ret
 refine ⟨?_, YthfpekhpeiebjaaGreatDoor.grown_under w k os⟩
 rw [Lib.itoa_nonneg]
 rfl
end Go.Proofs.YthfpekhpeiebjaaGreatDoor
end
section
namespace Go.Proofs.YthfpekhpeiebjaaGreatDoor
open Go.RowKit Go.Sx
noncomputable def B13 : Code := (Tryz.f13.body).getD .skip
noncomputable def sq13 (p : List Nat) : Go.Sx.K := .seq (sub B13 p)
theorem stW_at : ∀ (xs : List St) (i : Nat) (x : St) (j : Nat), xs[i]? = some x → j < 10 → (stW xs)[i * 10 + j]? = x.w[j]?
 | [], i, x, j, h, _ => by simp at h
 | y :: xs, 0, x, j, h, hj => by
  simp only [List.getElem?_cons_zero, Option.some.injEq] at h
  subst h
  simp only [stW, List.flatMap_cons, Nat.zero_mul, Nat.zero_add]
  rw [List.getElem?_append_left (by rw [St.w_len]; exact hj)]
 | y :: xs, i + 1, x, j, h, hj => by
  have ih := stW_at xs i x j (by simpa using h) hj
  simp only [stW, List.flatMap_cons] at ih ⊢
  rw [List.getElem?_append_right (by rw [St.w_len]; omega), St.w_len, ← ih]
  congr 1
  omega
def SlS (w : World) (A : Option Addr) (n : Nat) (xs : List St) : Prop := n = xs.length ∧ (A = none → xs = []) ∧ ∀ a, A = some a → Src w a (stW xs)
theorem SlS.below {w w' : World} {A : Option Addr} {n : Nat} {xs : List St} (h : SlS w A n xs) (hb : Below w.heap.size w w') : SlS w' A n xs := ⟨h.1, h.2.1, fun a ha j u hj => cell_below (h.2.2 a ha j u hj) hb⟩
theorem SlS.get {w : World} {A : Option Addr} {n : Nat} {xs : List St} (h : SlS w A n xs) {i : Nat} {x : St} (hx : xs[i]? = some x) : ∃ a, A = some a ∧ ∀ (j : Nat) (v : Value), x.w[j]? = some v → w.cell? ((a.add ((i : Int).toNat * 10)).add j) = some v := by
 cases A with
 | none => rw [h.2.1 rfl] at hx; simp at hx
 | some a =>
  refine ⟨a, rfl, fun j v hj => ?_⟩
  have hj10 : j < 10 := by have := (List.getElem?_eq_some_iff.1 hj).1; rw [St.w_len] at this; exact this
  have := h.2.2 a rfl (i * 10 + j) v (by rw [stW_at xs i x j hx hj10]; exact hj)
  rw [Int.toNat_natCast, Addr.add_add]
  exact this
def badI (c : Cf) : List St → Nat → Option Nat
 | [], _ => none
 | x :: l, i => if mayB c x then badI c l (i + 1) else some i
def chkE : Option Nat → Int × Int
 | some i => (2 + (i : Int), 2)
 | none => (0, 0)
def chkP (c : Cf) (wk : Int) (xs : List St) : Int × Int := if ¬ c.wr = 0 then (0, 2) else if wk < 1 ∨ c.g < wk then (1, 2) else chkE (badI c xs 0)
theorem chkP_1 {c : Cf} {wk : Int} {xs : List St} (h : c.wr = 0) (h2 : wk < 1 ∨ c.g < wk) : chkP c wk xs = (1, 2) := by
 unfold chkP
 rw [if_neg (Classical.not_not.2 h), if_pos h2]
theorem chkP_2 {c : Cf} {wk : Int} {xs : List St} (h : c.wr = 0) (h2 : ¬ (wk < 1 ∨ c.g < wk)) : chkP c wk xs = chkE (badI c xs 0) := by
 unfold chkP
 rw [if_neg (Classical.not_not.2 h), if_neg h2]
def frC (A : Option Addr) (n cap : Nat) (i : Nat) : Fr := [(1, .lp 0 0), (22, .sl A n cap), (23, .io .i64 (n : Int)), (24, .io .i64 (i : Int))]
def locC (c : Cf) (wk : Int) (A : Option Addr) (n cap : Nat) (_ : Nat) : Sx.Loc := match c with
 | ⟨g, s, k, sz, sl, of, gp, lt, ea, d⟩ => [((cwAN g s k sz sl of gp lt ea d wk A n cap), 28)]
def GC (c : Cf) (xs : List St) (R : Int × Int) (i : Nat) (_ : List Nat) (_ : World) : Prop := True ∧ (chkE (badI c (xs.drop i) i) = R ∧ i ≤ xs.length)
set_option maxHeartbeats 8000000 in
set_option maxRecDepth 100000 in
theorem check_go (g s k sz sl of gp lt ea : Int) (d : Bool) (wk : Int) (A : Option Addr) (n cap : Nat) (xs : List St) (w : World) (hS : SlS w A n xs) (hn : n ≤ 1048576) :
  Calls Tryz.prog 13 #[.agg #[.int .i64 g, .int .i64 s, .int .i64 k, .int .i64 sz, .int .i64 sl, .int .i64 of, .int .i64 gp, .int .i64 lt, .int .i64 ea, .bool d, .int .i64 wk, .slice A n cap]] w fun e w' => e = .returned (.tuple #[.int .i64 (chkP ⟨g, s, k, sz, sl, of, gp, lt, ea, d⟩ wk xs).1, .int .i64 (chkP ⟨g, s, k, sz, sl, of, gp, lt, ea, d⟩ wk xs).2]) ∧ Below w.heap.size w w' := by
 have hl := hS.1
 refine enter (fn := Tryz.f13) (c := B13) [.agg (cwAN g s k sz sl of gp lt ea d wk A n cap)] Tryz.func13 rfl rfl ?_
 refine zN [1, 7] 1 ⟨pops B13 [1, 0, 0] 2, [(sq13 [1, 0, 1]), (sq13 [1, 1])], [(1, .lp 0 0), (7, .agg (cfAN g s k sz sl of gp lt ea d))], [((cwAN g s k sz sl of gp lt ea d wk A n cap), 28)]⟩ ?_
 refine zC noF_stable 41 [.agg (cfAN g s k sz sl of gp lt ea d)] (.io .i64 (jobE (wrongF g s k sz sl of gp lt ea))) (fun _ _ w1 _ _ => check_any g s k sz sl of gp lt ea d w1) ?_
 refine zN [1, 9] 1 ⟨.code (sub B13 [1, 0, 1]), [(sq13 [1, 1])], [(1, .lp 0 0), (9, .bo (jobE (wrongF g s k sz sl of gp lt ea) != 0))], [((cwAN g s k sz sl of gp lt ea d wk A n cap), 28)]⟩ ?_
 rcases zB (jobE (wrongF g s k sz sl of gp lt ea) != 0) with b0 | b0
 ·refine zR 9 b0 ?_
  refine zN [2, 3] 0 ⟨.exit .ret, [], [(2, .v (.int .i64 0)), (3, .v (.int .i64 2))], []⟩ ?_
  refine zE (.tup [.v (.int .i64 0), .v (.int .i64 2)]) ?_
  have hwr : ¬ wrongR g s k sz sl of gp lt ea = 0 := by rw [jobE_zero, wrong_eq] at b0; simpa using b0
  have hR2 : chkP ⟨g, s, k, sz, sl, of, gp, lt, ea, d⟩ wk xs = (0, 2) := if_pos hwr
  intro ρ w9 hm' hf
  exact ⟨by rw [hR2]; rfl, hm'.below⟩
 refine zR 9 b0 ?_
 refine zN [1, 13] 1 ⟨pops B13 [1, 1, 0, 0] 4, [(sq13 pAN13), (sq13 pAN14)], [(1, .lp 0 0), (13, .bo (decide (wk < 1)))], [((cwAN g s k sz sl of gp lt ea d wk A n cap), 28)]⟩ ?_
 rcases zB (decide (wk < 1)) with b1 | b1
 ·refine zR 13 b1 ?_
  refine zN [2, 3] 0 ⟨.exit .ret, [], [(2, .v (.int .i64 1)), (3, .v (.int .i64 2))], []⟩ ?_
  refine zE (.tup [.v (.int .i64 1), .v (.int .i64 2)]) ?_
  have hwr : wrongR g s k sz sl of gp lt ea = 0 := by rw [jobE_zero, wrong_eq] at b0; simpa using b0
  have hR2 : chkP ⟨g, s, k, sz, sl, of, gp, lt, ea, d⟩ wk xs = (1, 2) := chkP_1 hwr (Or.inl (of_decide_eq_true b1))
  intro ρ w9 hm' hf
  exact ⟨by rw [hR2]; rfl, hm'.below⟩
 refine zR 13 b1 ?_
 refine zN [1, 20] 1 ⟨.code (sub B13 pAN13), [(sq13 pAN14)], [(1, .lp 0 0), (20, .bo (decide (wk > g)))], [((cwAN g s k sz sl of gp lt ea d wk A n cap), 28)]⟩ ?_
 rcases zB (decide (wk > g)) with b2 | b2
 ·refine zR 20 b2 ?_
  refine zN [2, 3] 0 ⟨.exit .ret, [], [(2, .v (.int .i64 1)), (3, .v (.int .i64 2))], []⟩ ?_
  refine zE (.tup [.v (.int .i64 1), .v (.int .i64 2)]) ?_
  have hwr : wrongR g s k sz sl of gp lt ea = 0 := by rw [jobE_zero, wrong_eq] at b0; simpa using b0
  have hR2 : chkP ⟨g, s, k, sz, sl, of, gp, lt, ea, d⟩ wk xs = (1, 2) := chkP_1 hwr (Or.inr (of_decide_eq_true b2))
  intro ρ w9 hm' hf
  exact ⟨by rw [hR2]; rfl, hm'.below⟩
 refine zR 20 b2 ?_
 refine zN [1, 22, 23, 24] 1 ⟨.code (sub B13 [1, 1, 1, 0, 1, 4]), [.block 0, (sq13 [1, 1, 1, 1])], [(1, .lp 0 0), (22, .sl A n cap), (23, .io .i64 (↑n : Int)), (24, .v (.int .i64 0))], [((cwAN g s k sz sl of gp lt ea d wk A n cap), 28)]⟩ ?_
 have hwr : wrongR g s k sz sl of gp lt ea = 0 := by rw [jobE_zero, wrong_eq] at b0; simpa using b0
 have hlo := of_decide_eq_false b1
 have hhi := of_decide_eq_false b2
 clear b0 b1 b2
 have hR2 : chkP ⟨g, s, k, sz, sl, of, gp, lt, ea, d⟩ wk xs = chkE (badI ⟨g, s, k, sz, sl, of, gp, lt, ea, d⟩ xs 0) := chkP_2 hwr (by show ¬ (wk < 1 ∨ g < wk); omega)
 rw [hR2]
 generalize hR : chkE (badI ⟨g, s, k, sz, sl, of, gp, lt, ea, d⟩ xs 0) = R
 refine At.canonT [24] _ rfl ?_
 refine At.slFr _ rfl ?_
 refine At.loop (σ := Nat) (sub B13 [1, 1, 1, 0, 1, 4, 4]) (frC A n cap) (locC ⟨g, s, k, sz, sl, of, gp, lt, ea, d⟩ wk A n cap) (GC ⟨g, s, k, sz, sl, of, gp, lt, ea, d⟩ xs R) (fun i => n - i) 0 (by kernel_rfl) (by unfold subFr; kernel_rfl) (by kernel_rfl) (fun _ _ _ _ h => ⟨h, hR, Nat.zero_le _⟩) ?_
 clear hR hR2
 intro i
 refine At.pure fun ⟨h1, h2⟩ => ?_
 refine zN [1, 22, 23, 24, 25] 1 ⟨.code (sub B13 [1, 1, 1, 0, 1, 4, 4, 1, 0]), [(sq13 [1, 1, 1, 0, 1, 4, 4, 1, 1]), .next (Sx.Next w.heap.size w Tryz.f13.ntmps (frC A n cap) (locC (Cf.mk g s k sz sl of gp lt ea d) wk A n cap) (GC (Cf.mk g s k sz sl of gp lt ea d) xs R) (fun i => n - i) i), .block 0, (sq13 [1, 1, 1, 1])], [(1, .lp 0 0), (22, .sl A n cap), (23, .io .i64 (↑n : Int)), (24, .io .i64 (↑i : Int)), (25, .bo (decide ((↑i : Int) < (↑n : Int))))], [((cwAN g s k sz sl of gp lt ea d wk A n cap), 28)]⟩ ?_
 rcases zB (decide ((↑i : Int) < (↑n : Int))) with b0 | b0
 ·refine zR 25 b0 ?_
  refine zN [1, 22, 23, 24, 26] 1 ⟨pops B13 [1, 1, 1, 0, 1, 4, 4, 1, 1, 0, 4, 0] 1, [(sq13 [1, 1, 1, 0, 1, 4, 4, 1, 1, 0, 4, 1]), .block 1, (sq13 pAN4), .next (Sx.Next w.heap.size w Tryz.f13.ntmps (frC A n cap) (locC (Cf.mk g s k sz sl of gp lt ea d) wk A n cap) (GC (Cf.mk g s k sz sl of gp lt ea d) xs R) (fun i => n - i) i), .block 0, (sq13 [1, 1, 1, 1])], [(1, .lp 0 0), (22, .sl A n cap), (23, .io .i64 (↑n : Int)), (24, .io .i64 (↑i : Int)), (26, .io .i64 (↑i : Int))], [((cwAN g s k sz sl of gp lt ea d wk A n cap), 28)]⟩ ?_
  have hi : i < n := by have := of_decide_eq_true b0; omega
  clear b0
  obtain ⟨x, hx⟩ : ∃ x, xs[i]? = some x := ⟨_, List.getElem?_eq_getElem (by rw [← hS.1]; exact hi)⟩
  obtain ⟨a, rfl, hcell⟩ := hS.get hx
  rw [drop_at hx] at h1
  simp only [badI] at h1
  obtain ⟨kd, ik, key, ti, v, src, wk2, wks, bit, mask⟩ := x
  refine At.idx a n 10 (i : Int) (by kernel_rfl) (by omega) (by omega) noF_stable ?_
  refine At.lda (a.add ((i : Int).toNat * 10)) 10 [.io .i64 kd, .io .i64 ik, .so (mkB key), .io .i64 ti, .io .i64 v, .io .i64 src, .io .i64 wk2, .io .i64 wks, .io .i64 bit, .io .u32 mask] (by kernel_rfl) rfl noF_stable (fun ρ w1 hm' hf j v2 hj => cell_below (hcell j v2 hj) hm'.below) ?_
  let kn0 : K := .next (Sx.Next w.heap.size w Tryz.f13.ntmps (frC (some a) n cap) (locC (Cf.mk g s k sz sl of gp lt ea d) wk (some a) n cap) (GC (Cf.mk g s k sz sl of gp lt ea d) xs R) (fun i => n - i) i)
  refine zN [1, 4, 22, 23, 24, 30, 31] 1 ⟨pops B13 [1, 1, 1, 0, 1, 4, 4, 1, 1, 0, 4, 1, 0] 3, [(sq13 [1, 1, 1, 0, 1, 4, 4, 1, 1, 0, 4, 1, 1]), .block 1, (sq13 pAN4), kn0, .block 0, (sq13 [1, 1, 1, 1])], [(1, .lp 0 0), (4, .io .i64 (↑i : Int)), (22, .sl (some a) n cap), (23, .io .i64 (↑n : Int)), (24, .io .i64 (↑i : Int)), (30, .agg (cfAN g s k sz sl of gp lt ea d)), (31, .agg [.io .i64 kd, .io .i64 ik, .so (mkB key), .io .i64 ti, .io .i64 v, .io .i64 src, .io .i64 wk2, .io .i64 wks, .io .i64 bit, .io IntKind.u32 mask])], [((cwAN g s k sz sl of gp lt ea d wk (some a) n cap), 28)]⟩ ?_
  refine zC noF_stable 31 [.agg (cfAN g s k sz sl of gp lt ea d), .agg [.io .i64 kd, .io .i64 ik, .so (mkB key), .io .i64 ti, .io .i64 v, .io .i64 src, .io .i64 wk2, .io .i64 wks, .io .i64 bit, .io .u32 mask]] (.bo (mayB ⟨g, s, k, sz, sl, of, gp, lt, ea, d⟩ ⟨kd, ik, key, ti, v, src, wk2, wks, bit, mask⟩)) (fun _ _ w1 _ _ => may_any ⟨g, s, k, sz, sl, of, gp, lt, ea, d⟩ ⟨kd, ik, key, ti, v, src, wk2, wks, bit, mask⟩ hwr w1) ?_
  refine zN [1, 4, 22, 23, 24, 33] 1 ⟨.code (sub B13 [1, 1, 1, 0, 1, 4, 4, 1, 1, 0, 4, 1, 1]), [.block 1, (sq13 pAN4), kn0, .block 0, (sq13 [1, 1, 1, 1])], [(1, .lp 0 0), (4, .io .i64 (↑i : Int)), (22, .sl (some a) n cap), (23, .io .i64 (↑n : Int)), (24, .io .i64 (↑i : Int)), (33, .bo !mayB (Cf.mk g s k sz sl of gp lt ea d) (St.mk kd ik key ti v src wk2 wks bit mask))], [((cwAN g s k sz sl of gp lt ea d wk (some a) n cap), 28)]⟩ ?_
  rcases zB (!mayB (Cf.mk g s k sz sl of gp lt ea d) (St.mk kd ik key ti v src wk2 wks bit mask)) with b0 | b0
  ·refine zR 33 b0 ?_
   refine zN [2, 3] 0 ⟨.exit .ret, [], [(2, .io .i64 (IntKind.i64.wrap (2 + (↑i : Int)))), (3, .v (.int .i64 2))], []⟩ ?_
   refine zE (.tup [.io .i64 (IntKind.i64.wrap (2 + (↑i : Int))), .v (.int .i64 2)]) ?_
   have hmay : mayB ⟨g, s, k, sz, sl, of, gp, lt, ea, d⟩ ⟨kd, ik, key, ti, v, src, wk2, wks, bit, mask⟩ = false := by simpa using b0
   rw [hmay] at h1
   have hw2 : IntKind.i64.wrap (2 + (i : Int)) = 2 + (i : Int) := wrap63 (by omega) (by omega)
   rw [hw2]
   intro ρ w9 hm' hf
   exact ⟨by rw [← h1]; rfl, hm'.below⟩
  refine zR 33 b0 ?_
  refine zN [1, 4, 22, 23, 24] 1 ⟨.exit .normal, [.next (Sx.Next w.heap.size w Tryz.f13.ntmps (frC (some a) n cap) (locC (Cf.mk g s k sz sl of gp lt ea d) wk (some a) n cap) (GC (Cf.mk g s k sz sl of gp lt ea d) xs R) (fun i => n - i) i), .block 0, (sq13 [1, 1, 1, 1])], [(1, .lp 0 0), (4, .io .i64 (↑i : Int)), (22, .sl (some a) n cap), (23, .io .i64 (↑n : Int)), (24, .io .i64 (IntKind.i64.wrap ((↑i : Int) + 1)))], [((cwAN g s k sz sl of gp lt ea d wk (some a) n cap), 28)]⟩ ?_
  have hmay : mayB ⟨g, s, k, sz, sl, of, gp, lt, ea, d⟩ ⟨kd, ik, key, ti, v, src, wk2, wks, bit, mask⟩ = true := by simpa using b0
  rw [hmay] at h1
  have hw3 : IntKind.i64.wrap ((i : Int) + 1) = ((i + 1 : Nat) : Int) := by
   rw [wrap63 (by omega) (by omega)]
   omega
  rw [hw3]
  refine At.next (σ := Nat) (i + 1) rfl rfl (by unfold subFr; kernel_rfl) (by kernel_rfl) ?_ ?_
  ·intro ρ a' w' hi' hf
   exact ⟨hf, h1, by omega⟩
  show n - (i + 1) < n - i
  omega
 refine zR 25 b0 ?_
 refine zN [2, 3] 0 ⟨.exit .ret, [], [(2, .v (.int .i64 0)), (3, .v (.int .i64 0))], []⟩ ?_
 refine zE (.tup [.v (.int .i64 0), .v (.int .i64 0)]) ?_
 have hi : ¬ (i : Int) < (n : Int) := of_decide_eq_false b0
 rw [List.drop_eq_nil_of_le (by rw [← hS.1]; omega)] at h1
 simp only [badI] at h1
 intro ρ w9 hm' hf
 exact ⟨by rw [← h1]; rfl, hm'.below⟩
theorem check_kit (c : Cf) (wk : Int) (A : Option Addr) (n cap : Nat) (xs : List St) (w : World) (hS : SlS w A n xs) (hn : n ≤ 1048576) :
  Calls Tryz.prog 13 #[.agg (c.w ++ [Value.int .i64 wk, Value.slice A n cap]).toArray] w fun e w' => e = .returned (.tuple #[.int .i64 (chkP c wk xs).1, .int .i64 (chkP c wk xs).2]) ∧ Below w.heap.size w w' := by
 obtain ⟨g, s, k, sz, sl, of, gp, lt, ea, d⟩ := c
 exact check_go g s k sz sl of gp lt ea d wk A n cap xs w hS hn
end Go.Proofs.YthfpekhpeiebjaaGreatDoor
end
section
namespace Go.Proofs.YthfpekhpeiebjaaGreatDoor
open Go.RowKit Go.Sx
def lineS : St → List UInt8
 | ⟨kd, ik, key, ti, v, src, wk, wks, bit, mask⟩ => if kd = 1 then (if ik = 1 then [101, 118, 101, 110, 116, 32] ++ quoteB key ++ [32] ++ Lib.itoa ti ++ [32] ++ Lib.itoa v else if ik = 2 then [109, 97, 114, 107, 32] ++ Lib.itoa src ++ [32] ++ Lib.itoa ti else [115, 97, 118, 101])
  else if kd = 2 then [112, 105, 99, 107, 32] ++ Lib.itoa wk else if kd = 4 then [114, 101, 115, 116, 111, 114, 101, 32] ++ Lib.itoa wks else if kd = 5 then [115, 112, 111, 105, 108, 32] ++ Lib.itoa bit ++ [32] ++ Lib.itoa mask else [100, 114, 97, 105, 110]
def St.ok (x : St) : Prop := in64 x.t ∧ in64 x.v ∧ in64 x.src ∧ in64 x.wk ∧ in64 x.wks ∧ in64 x.bit ∧ (0 ≤ x.mask ∧ x.mask < 4294967296)
section
variable {Q : Exit → Act → World → Prop} {N : Nat} {w0 : World} {ntm : Nat} {F : List Nat → World → Prop} [Md]
theorem catX {s : S} (x y : List UInt8) (hq : catI Tryz.prog ntm s = some (mkB x, mkB y)) (hs : x.length + y.length ≤ 1000000) (hF : Stable F) (h : At Tryz.prog Q N w0 ntm F (s.tail ntm (.so (mkB (x ++ y))))) : At Tryz.prog Q N w0 ntm F s := by
 refine At.cat _ _ hq (by rw [mkB_size, mkB_size]; omega) hF ?_
 rw [mkB_app]
 exact h
end
theorem itoa_any (n : Int) (h : in64 n) (w : World) (htab : Lib.TabIs Tryz.prog w "internal/strconv.uint64pow10" .u64 Lib.pow10Tab) : Calls Tryz.prog 38 #[.int .i64 n] w fun e w' => e = .returned (.string (mkB (Lib.itoa n))) ∧ Below w.heap.size w w' :=
 (Tryz.strconv_Itoa n h.1 h.2 w htab).mono fun e w' h => by
  obtain ⟨rfl, k, os, rfl⟩ := h
  exact ⟨rfl, grown_under w k os⟩
theorem fmtM (mask : Int) (h : 0 ≤ mask ∧ mask < 4294967296) (w : World) (htab : Lib.TabIs Tryz.prog w "internal/strconv.uint64pow10" .u64 Lib.pow10Tab) : Calls Tryz.prog 71 #[.int .u64 (IntKind.u64.wrap mask), .int .i64 10] w fun e w' => e = .returned (.string (mkB (Lib.itoa mask))) ∧ Below w.heap.size w w' := by
 obtain ⟨u, rfl⟩ : ∃ u : Nat, mask = u := ⟨mask.toNat, by omega⟩
 rw [show IntKind.u64.wrap (u : Int) = (u : Int) from by rw [wrap_u64]; omega]
 exact fmtU_any u (by omega) w htab
noncomputable def B39 : Code := (Tryz.f39.body).getD .skip
noncomputable def sq39 (p : List Nat) : Go.Sx.K := .seq (sub B39 p)
set_option maxHeartbeats 8000000 in
set_option maxRecDepth 100000 in
theorem line_go (kd ik : Int) (key : List UInt8) (ti v src wk2 wks bit mask : Int) (hk : key.length ≤ 256) (i0 : in64 ti) (i1 : in64 v) (i2 : in64 src) (i3 : in64 wk2) (i4 : in64 wks) (i5 : in64 bit) (i6 : 0 ≤ mask ∧ mask < 4294967296) (w : World) (htp : Lib.TabIs Tryz.prog w "internal/strconv.uint64pow10" .u64 Lib.pow10Tab) :
  Calls Tryz.prog 39 #[.agg #[.int .i64 kd, .int .i64 ik, .string (mkB key), .int .i64 ti, .int .i64 v, .int .i64 src, .int .i64 wk2, .int .i64 wks, .int .i64 bit, .int .u32 mask]] w fun e w' => e = .returned (.string (mkB (lineS ⟨kd, ik, key, ti, v, src, wk2, wks, bit, mask⟩))) ∧ Below w.heap.size w w' := by
 have hq0 := quote_short hk
 have hl0 := itoa_short i0
 have hl1 := itoa_short i1
 have hl2 := itoa_short i2
 have hl3 := itoa_short i3
 have hl4 := itoa_short i4
 have hl5 := itoa_short i5
 have hl6 := itoa_short (show in64 mask from ⟨by omega, by omega⟩)
 refine enter (fn := Tryz.f39) (c := B39) [.agg [.io .i64 kd, .io .i64 ik, .so (mkB key), .io .i64 ti, .io .i64 v, .io .i64 src, .io .i64 wk2, .io .i64 wks, .io .i64 bit, .io .u32 mask]] Tryz.func39 rfl rfl ?_
 refine zM [1, 4, 5] 1 ⟨.code (sub B39 [1, 0, 1, 4, 1]), [.block 0, (sq39 [1, 1])], [(1, .lp 0 0), (4, .io .i64 kd), (5, .bo (kd == 1))], [([.io .i64 kd, .io .i64 ik, .so (mkB key), .io .i64 ti, .io .i64 v, .io .i64 src, .io .i64 wk2, .io .i64 wks, .io .i64 bit, .io IntKind.u32 mask], 41)]⟩ ?_
 rcases zB (kd == 1) with b0 | b0
 ·refine zR 5 b0 ?_
  refine zM [1, 9, 10] 1 ⟨.code (sub B39 [1, 0, 1, 4, 1, 2, 0, 1, 4, 1]), [.block 1, (sq39 pAN10), .block 0, (sq39 [1, 1])], [(1, .lp 0 0), (9, .io .i64 ik), (10, .bo (ik == 1))], [([.io .i64 kd, .io .i64 ik, .so (mkB key), .io .i64 ti, .io .i64 v, .io .i64 src, .io .i64 wk2, .io .i64 wks, .io .i64 bit, .io IntKind.u32 mask], 41)]⟩ ?_
  rcases zB (ik == 1) with b1 | b1
  ·refine zR 10 b1 ?_
   refine zM [1, 14] 1 ⟨pqops B39 [1, 0, 1, 4, 1, 2, 0, 1, 4, 1, 2, 0] 3, [(sq39 pAN2), .block 1, (sq39 pAN10), .block 0, (sq39 [1, 1])], [(1, .lp 0 0), (14, .so (mkB key))], [([.io .i64 kd, .io .i64 ik, .so (mkB key), .io .i64 ti, .io .i64 v, .io .i64 src, .io .i64 wk2, .io .i64 wks, .io .i64 bit, .io IntKind.u32 mask], 41)]⟩ ?_
   refine zC noF_stable 19 [.so (mkB key)] (.so (mkB (quoteB key))) (fun _ _ w1 _ _ => quote_any key (by omega) w1) ?_
   refine zM [1, 15] 1 ⟨pqops B39 [1, 0, 1, 4, 1, 2, 0, 1, 4, 1, 2, 0] 4, [(sq39 pAN2), .block 1, (sq39 pAN10), .block 0, (sq39 [1, 1])], [(1, .lp 0 0), (15, .so (mkB (quoteB key)))], [([.io .i64 kd, .io .i64 ik, .so (mkB key), .io .i64 ti, .io .i64 v, .io .i64 src, .io .i64 wk2, .io .i64 wks, .io .i64 bit, .io IntKind.u32 mask], 41)]⟩ ?_
   refine catX ([101, 118, 101, 110, 116, 32] : List UInt8) (quoteB key) (by kernel_rfl) (by simp only [List.length_append, List.length_cons, List.length_nil]; omega) noF_stable ?_
   refine zM [1, 16] 1 ⟨pqops B39 [1, 0, 1, 4, 1, 2, 0, 1, 4, 1, 2, 0] 5, [(sq39 pAN2), .block 1, (sq39 pAN10), .block 0, (sq39 [1, 1])], [(1, .lp 0 0), (16, .so (mkB ([101, 118, 101, 110, 116, 32] ++ quoteB key)))], [([.io .i64 kd, .io .i64 ik, .so (mkB key), .io .i64 ti, .io .i64 v, .io .i64 src, .io .i64 wk2, .io .i64 wks, .io .i64 bit, .io IntKind.u32 mask], 41)]⟩ ?_
   refine catX ([101, 118, 101, 110, 116, 32] ++ quoteB key) ([32] : List UInt8) (by kernel_rfl) (by simp only [List.length_append, List.length_cons, List.length_nil]; omega) noF_stable ?_
   refine zM [1, 17, 20] 1 ⟨pqops B39 [1, 0, 1, 4, 1, 2, 0, 1, 4, 1, 2, 0] 9, [(sq39 pAN2), .block 1, (sq39 pAN10), .block 0, (sq39 [1, 1])], [(1, .lp 0 0), (17, .so (mkB ([101, 118, 101, 110, 116, 32] ++ quoteB key ++ [32]))), (20, .io .i64 ti)], [([.io .i64 kd, .io .i64 ik, .so (mkB key), .io .i64 ti, .io .i64 v, .io .i64 src, .io .i64 wk2, .io .i64 wks, .io .i64 bit, .io IntKind.u32 mask], 41)]⟩ ?_
   refine zC noF_stable 59 [.io .i64 ti, .v (.int .i64 10)] (.so (mkB (Lib.itoa ti))) (fun _ _ w1 hi _ => fmt_any ti i0 w1 (tab_below htp hi.mem.below rfl)) ?_
   refine zM [1, 17, 21] 1 ⟨pqops B39 [1, 0, 1, 4, 1, 2, 0, 1, 4, 1, 2, 0] 10, [(sq39 pAN2), .block 1, (sq39 pAN10), .block 0, (sq39 [1, 1])], [(1, .lp 0 0), (17, .so (mkB ([101, 118, 101, 110, 116, 32] ++ quoteB key ++ [32]))), (21, .so (mkB (Lib.itoa ti)))], [([.io .i64 kd, .io .i64 ik, .so (mkB key), .io .i64 ti, .io .i64 v, .io .i64 src, .io .i64 wk2, .io .i64 wks, .io .i64 bit, .io IntKind.u32 mask], 41)]⟩ ?_
   refine catX ([101, 118, 101, 110, 116, 32] ++ quoteB key ++ [32]) (Lib.itoa ti) (by kernel_rfl) (by simp only [List.length_append, List.length_cons, List.length_nil]; omega) noF_stable ?_
   refine zM [1, 22] 1 ⟨pqops B39 [1, 0, 1, 4, 1, 2, 0, 1, 4, 1, 2, 0] 11, [(sq39 pAN2), .block 1, (sq39 pAN10), .block 0, (sq39 [1, 1])], [(1, .lp 0 0), (22, .so (mkB ([101, 118, 101, 110, 116, 32] ++ quoteB key ++ [32] ++ Lib.itoa ti)))], [([.io .i64 kd, .io .i64 ik, .so (mkB key), .io .i64 ti, .io .i64 v, .io .i64 src, .io .i64 wk2, .io .i64 wks, .io .i64 bit, .io IntKind.u32 mask], 41)]⟩ ?_
   refine catX ([101, 118, 101, 110, 116, 32] ++ quoteB key ++ [32] ++ Lib.itoa ti) ([32] : List UInt8) (by kernel_rfl) (by simp only [List.length_append, List.length_cons, List.length_nil]; omega) noF_stable ?_
   refine zM [23, 26] 0 ⟨pqops B39 [1, 0, 1, 4, 1, 2, 0, 1, 4, 1, 2, 0] 15, [(sq39 pAN2), .block 1, (sq39 pAN10), .block 0, (sq39 [1, 1])], [(23, .so (mkB ([101, 118, 101, 110, 116, 32] ++ quoteB key ++ [32] ++ Lib.itoa ti ++ [32]))), (26, .io .i64 v)], []⟩ ?_
   refine zC noF_stable 59 [.io .i64 v, .v (.int .i64 10)] (.so (mkB (Lib.itoa v))) (fun _ _ w1 hi _ => fmt_any v i1 w1 (tab_below htp hi.mem.below rfl)) ?_
   refine zM [23, 27] 0 ⟨pqops B39 [1, 0, 1, 4, 1, 2, 0, 1, 4, 1, 2, 0] 16, [(sq39 pAN2), .block 1, (sq39 pAN10), .block 0, (sq39 [1, 1])], [(23, .so (mkB ([101, 118, 101, 110, 116, 32] ++ quoteB key ++ [32] ++ Lib.itoa ti ++ [32]))), (27, .so (mkB (Lib.itoa v)))], []⟩ ?_
   refine catX ([101, 118, 101, 110, 116, 32] ++ quoteB key ++ [32] ++ Lib.itoa ti ++ [32]) (Lib.itoa v) (by kernel_rfl) (by simp only [List.length_append, List.length_cons, List.length_nil]; omega) noF_stable ?_
   refine zM [2] 0 ⟨.exit .ret, [], [(2, .so (mkB ([101, 118, 101, 110, 116, 32] ++ quoteB key ++ [32] ++ Lib.itoa ti ++ [32] ++ Lib.itoa v)))], []⟩ ?_
   refine zE (.so (mkB ([101, 118, 101, 110, 116, 32] ++ quoteB key ++ [32] ++ Lib.itoa ti ++ [32] ++ Lib.itoa v))) ?_
   intro ρ w9 hm' hf
   refine ⟨?_, hm'.below⟩
   have hq9 : lineS ⟨kd, ik, key, ti, v, src, wk2, wks, bit, mask⟩ = ([101, 118, 101, 110, 116, 32] ++ quoteB key ++ [32] ++ Lib.itoa ti ++ [32] ++ Lib.itoa v) := by
    unfold lineS
    simp only [beq_iff_eq, bne_iff_ne, ne_eq, beq_eq_false_iff_ne] at *
    simp [*]
   rw [hq9]
   rfl
  refine zR 10 b1 ?_
  refine zM [1, 29] 1 ⟨.code (sub B39 [1, 0, 1, 4, 1, 2, 0, 1, 4, 1, 3, 1]), [.block 1, (sq39 pAN10), .block 0, (sq39 [1, 1])], [(1, .lp 0 0), (29, .bo (ik == 2))], [([.io .i64 kd, .io .i64 ik, .so (mkB key), .io .i64 ti, .io .i64 v, .io .i64 src, .io .i64 wk2, .io .i64 wks, .io .i64 bit, .io IntKind.u32 mask], 41)]⟩ ?_
  rcases zB (ik == 2) with b2 | b2
  ·refine zR 29 b2 ?_
   refine zM [1, 33] 1 ⟨pqops B39 [1, 0, 1, 4, 1, 2, 0, 1, 4, 1, 3, 1, 2, 0] 3, [(sq39 pAN2), .block 1, (sq39 pAN10), .block 0, (sq39 [1, 1])], [(1, .lp 0 0), (33, .io .i64 src)], [([.io .i64 kd, .io .i64 ik, .so (mkB key), .io .i64 ti, .io .i64 v, .io .i64 src, .io .i64 wk2, .io .i64 wks, .io .i64 bit, .io IntKind.u32 mask], 41)]⟩ ?_
   refine zC noF_stable 38 [.io .i64 src] (.so (mkB (Lib.itoa src))) (fun _ _ w1 hi _ => itoa_any src i2 w1 (tab_below htp hi.mem.below rfl)) ?_
   refine zM [1, 34] 1 ⟨pqops B39 [1, 0, 1, 4, 1, 2, 0, 1, 4, 1, 3, 1, 2, 0] 4, [(sq39 pAN2), .block 1, (sq39 pAN10), .block 0, (sq39 [1, 1])], [(1, .lp 0 0), (34, .so (mkB (Lib.itoa src)))], [([.io .i64 kd, .io .i64 ik, .so (mkB key), .io .i64 ti, .io .i64 v, .io .i64 src, .io .i64 wk2, .io .i64 wks, .io .i64 bit, .io IntKind.u32 mask], 41)]⟩ ?_
   refine catX ([109, 97, 114, 107, 32] : List UInt8) (Lib.itoa src) (by kernel_rfl) (by simp only [List.length_append, List.length_cons, List.length_nil]; omega) noF_stable ?_
   refine zM [1, 35] 1 ⟨pqops B39 [1, 0, 1, 4, 1, 2, 0, 1, 4, 1, 3, 1, 2, 0] 5, [(sq39 pAN2), .block 1, (sq39 pAN10), .block 0, (sq39 [1, 1])], [(1, .lp 0 0), (35, .so (mkB ([109, 97, 114, 107, 32] ++ Lib.itoa src)))], [([.io .i64 kd, .io .i64 ik, .so (mkB key), .io .i64 ti, .io .i64 v, .io .i64 src, .io .i64 wk2, .io .i64 wks, .io .i64 bit, .io IntKind.u32 mask], 41)]⟩ ?_
   refine catX ([109, 97, 114, 107, 32] ++ Lib.itoa src) ([32] : List UInt8) (by kernel_rfl) (by simp only [List.length_append, List.length_cons, List.length_nil]; omega) noF_stable ?_
   refine zM [36, 39] 0 ⟨pqops B39 [1, 0, 1, 4, 1, 2, 0, 1, 4, 1, 3, 1, 2, 0] 9, [(sq39 pAN2), .block 1, (sq39 pAN10), .block 0, (sq39 [1, 1])], [(36, .so (mkB ([109, 97, 114, 107, 32] ++ Lib.itoa src ++ [32]))), (39, .io .i64 ti)], []⟩ ?_
   refine zC noF_stable 59 [.io .i64 ti, .v (.int .i64 10)] (.so (mkB (Lib.itoa ti))) (fun _ _ w1 hi _ => fmt_any ti i0 w1 (tab_below htp hi.mem.below rfl)) ?_
   refine zM [36, 40] 0 ⟨pqops B39 [1, 0, 1, 4, 1, 2, 0, 1, 4, 1, 3, 1, 2, 0] 10, [(sq39 pAN2), .block 1, (sq39 pAN10), .block 0, (sq39 [1, 1])], [(36, .so (mkB ([109, 97, 114, 107, 32] ++ Lib.itoa src ++ [32]))), (40, .so (mkB (Lib.itoa ti)))], []⟩ ?_
   refine catX ([109, 97, 114, 107, 32] ++ Lib.itoa src ++ [32]) (Lib.itoa ti) (by kernel_rfl) (by simp only [List.length_append, List.length_cons, List.length_nil]; omega) noF_stable ?_
   refine zM [2] 0 ⟨.exit .ret, [], [(2, .so (mkB ([109, 97, 114, 107, 32] ++ Lib.itoa src ++ [32] ++ Lib.itoa ti)))], []⟩ ?_
   refine zE (.so (mkB ([109, 97, 114, 107, 32] ++ Lib.itoa src ++ [32] ++ Lib.itoa ti))) ?_
   intro ρ w9 hm' hf
   refine ⟨?_, hm'.below⟩
   have hq9 : lineS ⟨kd, ik, key, ti, v, src, wk2, wks, bit, mask⟩ = ([109, 97, 114, 107, 32] ++ Lib.itoa src ++ [32] ++ Lib.itoa ti) := by
    unfold lineS
    simp only [beq_iff_eq, bne_iff_ne, ne_eq, beq_eq_false_iff_ne] at *
    simp [*]
   rw [hq9]
   rfl
  refine zR 29 b2 ?_
  refine zM [2] 0 ⟨.exit .ret, [], [(2, .v (.string (ByteArray.mk #[115, 97, 118, 101])))], []⟩ ?_
  refine zE (.v (.string (ByteArray.mk #[115, 97, 118, 101]))) ?_
  intro ρ w9 hm' hf
  refine ⟨?_, hm'.below⟩
  have hq9 : lineS ⟨kd, ik, key, ti, v, src, wk2, wks, bit, mask⟩ = [115, 97, 118, 101] := by
   unfold lineS
   simp only [beq_iff_eq, bne_iff_ne, ne_eq, beq_eq_false_iff_ne] at *
   simp [*]
  rw [hq9]
  rfl
 refine zR 5 b0 ?_
 refine zM [1, 4, 42] 1 ⟨.code (sub B39 [1, 0, 1, 4, 1, 3, 1]), [.block 0, (sq39 [1, 1])], [(1, .lp 0 0), (4, .io .i64 kd), (42, .bo (kd == 2))], [([.io .i64 kd, .io .i64 ik, .so (mkB key), .io .i64 ti, .io .i64 v, .io .i64 src, .io .i64 wk2, .io .i64 wks, .io .i64 bit, .io IntKind.u32 mask], 41)]⟩ ?_
 rcases zB (kd == 2) with b3 | b3
 ·refine zR 42 b3 ?_
  refine zM [45] 0 ⟨pops B39 [1, 0, 1, 4, 1, 3, 1, 2, 0] 2, [(sq39 pAN2), .block 0, (sq39 [1, 1])], [(45, .io .i64 wk2)], []⟩ ?_
  refine zC noF_stable 38 [.io .i64 wk2] (.so (mkB (Lib.itoa wk2))) (fun _ _ w1 hi _ => itoa_any wk2 i3 w1 (tab_below htp hi.mem.below rfl)) ?_
  refine zM [46] 0 ⟨pops B39 [1, 0, 1, 4, 1, 3, 1, 2, 0] 3, [(sq39 pAN2), .block 0, (sq39 [1, 1])], [(46, .so (mkB (Lib.itoa wk2)))], []⟩ ?_
  refine catX ([112, 105, 99, 107, 32] : List UInt8) (Lib.itoa wk2) (by kernel_rfl) (by simp only [List.length_append, List.length_cons, List.length_nil]; omega) noF_stable ?_
  refine zM [2] 0 ⟨.exit .ret, [], [(2, .so (mkB ([112, 105, 99, 107, 32] ++ Lib.itoa wk2)))], []⟩ ?_
  refine zE (.so (mkB ([112, 105, 99, 107, 32] ++ Lib.itoa wk2))) ?_
  intro ρ w9 hm' hf
  refine ⟨?_, hm'.below⟩
  have hq9 : lineS ⟨kd, ik, key, ti, v, src, wk2, wks, bit, mask⟩ = ([112, 105, 99, 107, 32] ++ Lib.itoa wk2) := by
   unfold lineS
   simp only [beq_iff_eq, bne_iff_ne, ne_eq, beq_eq_false_iff_ne] at *
   simp [*]
  rw [hq9]
  rfl
 refine zR 42 b3 ?_
 refine zM [1, 4, 48] 1 ⟨.code (sub B39 [1, 0, 1, 4, 1, 3, 1, 3, 1]), [.block 0, (sq39 [1, 1])], [(1, .lp 0 0), (4, .io .i64 kd), (48, .bo (kd == 4))], [([.io .i64 kd, .io .i64 ik, .so (mkB key), .io .i64 ti, .io .i64 v, .io .i64 src, .io .i64 wk2, .io .i64 wks, .io .i64 bit, .io IntKind.u32 mask], 41)]⟩ ?_
 rcases zB (kd == 4) with b4 | b4
 ·refine zR 48 b4 ?_
  refine zM [51] 0 ⟨pops B39 [1, 0, 1, 4, 1, 3, 1, 3, 1, 2, 0] 2, [(sq39 pAN2), .block 0, (sq39 [1, 1])], [(51, .io .i64 wks)], []⟩ ?_
  refine zC noF_stable 38 [.io .i64 wks] (.so (mkB (Lib.itoa wks))) (fun _ _ w1 hi _ => itoa_any wks i4 w1 (tab_below htp hi.mem.below rfl)) ?_
  refine zM [52] 0 ⟨pops B39 [1, 0, 1, 4, 1, 3, 1, 3, 1, 2, 0] 3, [(sq39 pAN2), .block 0, (sq39 [1, 1])], [(52, .so (mkB (Lib.itoa wks)))], []⟩ ?_
  refine catX ([114, 101, 115, 116, 111, 114, 101, 32] : List UInt8) (Lib.itoa wks) (by kernel_rfl) (by simp only [List.length_append, List.length_cons, List.length_nil]; omega) noF_stable ?_
  refine zM [2] 0 ⟨.exit .ret, [], [(2, .so (mkB ([114, 101, 115, 116, 111, 114, 101, 32] ++ Lib.itoa wks)))], []⟩ ?_
  refine zE (.so (mkB ([114, 101, 115, 116, 111, 114, 101, 32] ++ Lib.itoa wks))) ?_
  intro ρ w9 hm' hf
  refine ⟨?_, hm'.below⟩
  have hq9 : lineS ⟨kd, ik, key, ti, v, src, wk2, wks, bit, mask⟩ = ([114, 101, 115, 116, 111, 114, 101, 32] ++ Lib.itoa wks) := by
   unfold lineS
   simp only [beq_iff_eq, bne_iff_ne, ne_eq, beq_eq_false_iff_ne] at *
   simp [*]
  rw [hq9]
  rfl
 refine zR 48 b4 ?_
 refine zM [1, 54] 1 ⟨.code (sub B39 [1, 0, 1, 4, 1, 3, 1, 3, 1, 3, 1]), [.block 0, (sq39 [1, 1])], [(1, .lp 0 0), (54, .bo (kd == 5))], [([.io .i64 kd, .io .i64 ik, .so (mkB key), .io .i64 ti, .io .i64 v, .io .i64 src, .io .i64 wk2, .io .i64 wks, .io .i64 bit, .io IntKind.u32 mask], 41)]⟩ ?_
 rcases zB (kd == 5) with b5 | b5
 ·refine zR 54 b5 ?_
  refine zM [1, 57] 1 ⟨pqops B39 [1, 0, 1, 4, 1, 3, 1, 3, 1, 3, 1, 2, 0] 2, [(sq39 pAN2), .block 0, (sq39 [1, 1])], [(1, .lp 0 0), (57, .io .i64 bit)], [([.io .i64 kd, .io .i64 ik, .so (mkB key), .io .i64 ti, .io .i64 v, .io .i64 src, .io .i64 wk2, .io .i64 wks, .io .i64 bit, .io IntKind.u32 mask], 41)]⟩ ?_
  refine zC noF_stable 38 [.io .i64 bit] (.so (mkB (Lib.itoa bit))) (fun _ _ w1 hi _ => itoa_any bit i5 w1 (tab_below htp hi.mem.below rfl)) ?_
  refine zM [1, 58] 1 ⟨pqops B39 [1, 0, 1, 4, 1, 3, 1, 3, 1, 3, 1, 2, 0] 3, [(sq39 pAN2), .block 0, (sq39 [1, 1])], [(1, .lp 0 0), (58, .so (mkB (Lib.itoa bit)))], [([.io .i64 kd, .io .i64 ik, .so (mkB key), .io .i64 ti, .io .i64 v, .io .i64 src, .io .i64 wk2, .io .i64 wks, .io .i64 bit, .io IntKind.u32 mask], 41)]⟩ ?_
  refine catX ([115, 112, 111, 105, 108, 32] : List UInt8) (Lib.itoa bit) (by kernel_rfl) (by simp only [List.length_append, List.length_cons, List.length_nil]; omega) noF_stable ?_
  refine zM [1, 59] 1 ⟨pqops B39 [1, 0, 1, 4, 1, 3, 1, 3, 1, 3, 1, 2, 0] 4, [(sq39 pAN2), .block 0, (sq39 [1, 1])], [(1, .lp 0 0), (59, .so (mkB ([115, 112, 111, 105, 108, 32] ++ Lib.itoa bit)))], [([.io .i64 kd, .io .i64 ik, .so (mkB key), .io .i64 ti, .io .i64 v, .io .i64 src, .io .i64 wk2, .io .i64 wks, .io .i64 bit, .io IntKind.u32 mask], 41)]⟩ ?_
  refine catX ([115, 112, 111, 105, 108, 32] ++ Lib.itoa bit) ([32] : List UInt8) (by kernel_rfl) (by simp only [List.length_append, List.length_cons, List.length_nil]; omega) noF_stable ?_
  refine zM [60, 63] 0 ⟨pqops B39 [1, 0, 1, 4, 1, 3, 1, 3, 1, 3, 1, 2, 0] 8, [(sq39 pAN2), .block 0, (sq39 [1, 1])], [(60, .so (mkB ([115, 112, 111, 105, 108, 32] ++ Lib.itoa bit ++ [32]))), (63, .io IntKind.u64 (IntKind.u64.wrap mask))], []⟩ ?_
  refine zC noF_stable 71 [.io IntKind.u64 (IntKind.u64.wrap mask), .v (.int .i64 10)] (.so (mkB (Lib.itoa mask))) (fun _ _ w1 hi _ => fmtM mask i6 w1 (tab_below htp hi.mem.below rfl)) ?_
  refine zM [60, 64] 0 ⟨pqops B39 [1, 0, 1, 4, 1, 3, 1, 3, 1, 3, 1, 2, 0] 9, [(sq39 pAN2), .block 0, (sq39 [1, 1])], [(60, .so (mkB ([115, 112, 111, 105, 108, 32] ++ Lib.itoa bit ++ [32]))), (64, .so (mkB (Lib.itoa mask)))], []⟩ ?_
  refine catX ([115, 112, 111, 105, 108, 32] ++ Lib.itoa bit ++ [32]) (Lib.itoa mask) (by kernel_rfl) (by simp only [List.length_append, List.length_cons, List.length_nil]; omega) noF_stable ?_
  refine zM [2] 0 ⟨.exit .ret, [], [(2, .so (mkB ([115, 112, 111, 105, 108, 32] ++ Lib.itoa bit ++ [32] ++ Lib.itoa mask)))], []⟩ ?_
  refine zE (.so (mkB ([115, 112, 111, 105, 108, 32] ++ Lib.itoa bit ++ [32] ++ Lib.itoa mask))) ?_
  intro ρ w9 hm' hf
  refine ⟨?_, hm'.below⟩
  have hq9 : lineS ⟨kd, ik, key, ti, v, src, wk2, wks, bit, mask⟩ = ([115, 112, 111, 105, 108, 32] ++ Lib.itoa bit ++ [32] ++ Lib.itoa mask) := by
   unfold lineS
   simp only [beq_iff_eq, bne_iff_ne, ne_eq, beq_eq_false_iff_ne] at *
   simp [*]
  rw [hq9]
  rfl
 refine zR 54 b5 ?_
 refine zM [2] 0 ⟨.exit .ret, [], [(2, .v (.string (ByteArray.mk #[100, 114, 97, 105, 110])))], []⟩ ?_
 refine zE (.v (.string (ByteArray.mk #[100, 114, 97, 105, 110]))) ?_
 intro ρ w9 hm' hf
 refine ⟨?_, hm'.below⟩
 have hq9 : lineS ⟨kd, ik, key, ti, v, src, wk2, wks, bit, mask⟩ = [100, 114, 97, 105, 110] := by
  unfold lineS
  simp only [beq_iff_eq, bne_iff_ne, ne_eq, beq_eq_false_iff_ne] at *
  simp [*]
 rw [hq9]
 rfl
end Go.Proofs.YthfpekhpeiebjaaGreatDoor
end
section
namespace Go.Proofs.YthfpekhpeiebjaaGreatDoor
open Go.RowKit Go.Sx
def behP (s wd : List UInt8) : Option (List UInt8) := if Lib.hasPrefix s (wd ++ [32]) = true then some (Lib.trimPrefix s (wd ++ [32])) else none
def bhV : Option (List UInt8) → Value
 | some r => .tuple #[.string (mkB r), .bool true]
 | none => .tuple #[.string ⟨#[]⟩, .bool false]
theorem pre_iff {s wd : List UInt8} : Lib.hasPrefix s (wd ++ [32]) = true ↔ s.take (wd.length + 1) = wd ++ [32] := by
 unfold Lib.hasPrefix
 rw [List.isPrefixOf_iff_prefix, List.prefix_iff_eq_take, List.length_append, List.length_singleton]
 exact eq_comm
theorem beh_not {s wd : List UInt8} (h : ¬ s.take (wd.length + 1) = wd ++ [32]) : behP s wd = none := if_neg fun h0 => h (pre_iff.1 h0)
theorem beh_short {s wd : List UInt8} (h : s.length < wd.length + 1) : behP s wd = none := beh_not fun h0 => by
 have h1 := congrArg List.length h0
 rw [List.length_take, List.length_append, List.length_singleton] at h1
 omega
theorem beh_yes {s wd : List UInt8} (h : s.take (wd.length + 1) = wd ++ [32]) : behP s wd = some (s.drop (wd.length + 1)) := by
 unfold behP Lib.trimPrefix
 rw [if_pos (pre_iff.2 h), if_pos (pre_iff.2 h), List.length_append, List.length_singleton]
noncomputable def B32 : Code := (Tryz.f32.body).getD .skip
noncomputable def sq32 (p : List Nat) : Go.Sx.K := .seq (sub B32 p)
set_option maxHeartbeats 20000000 in
set_option maxRecDepth 100000 in
theorem behind_any (s wd : List UInt8) (hs : s.length ≤ 1048576) (hwd : wd.length ≤ 1000) (w : World) :
  Calls Tryz.prog 32 #[.string (mkB s), .string (mkB wd)] w fun e w' => e = .returned (bhV (behP s wd)) ∧ Below w.heap.size w w' := by
 have hw : IntKind.i64.wrap ((↑(mkB wd).size : Int) + 1) = ((wd.length + 1 : Nat) : Int) := by
  rw [mkB_size, wrap63 (by omega) (by omega)]
  omega
 refine enter (fn := Tryz.f32) (c := B32) [.so (mkB s), .so (mkB wd)] Tryz.func32 rfl rfl ?_
 refine zNq [0, 1, 6, 14] 0 ?_
 rcases zB (decide ((↑(mkB s).size : Int) < IntKind.i64.wrap ((↑(mkB wd).size : Int) + 1))) with b0 | b0
 ·refine zR 14 b0 ?_
  refine zN [4, 5] 0 ⟨.exit .ret, [], [(4, .v (.string (ByteArray.mk #[]))), (5, .v (.bool false))], []⟩ ?_
  refine zE (.tup [.v (.string (ByteArray.mk #[])), .v (.bool false)]) ?_
  intro ρ w9 hm hf
  exact ⟨by rw [beh_short (by have h9 := of_decide_eq_true b0; rw [hw, mkB_size] at h9; omega)]; rfl, hm.below⟩
 refine zR 14 b0 ?_
 refine zN [0, 1, 6, 14, 15, 16] 0 ⟨pops B32 [1, 1, 0, 0] 7, [(sq32 pAN13), (sq32 pAN14)], [(0, .so (mkB s)), (1, .so (mkB wd)), (6, .io .i64 (IntKind.i64.wrap ((↑(mkB wd).size : Int) + 1))), (14, .v (.bool false)), (15, .so (mkB s)), (16, .io .i64 (IntKind.i64.wrap ((↑(mkB wd).size : Int) + 1)))], []⟩ ?_
 rw [hw] at b0
 rw [hw]
 have hb := of_decide_eq_false b0
 rw [mkB_size] at hb
 refine sslT s (wd.length + 1) (by kernel_rfl) (by omega) noF_stable ?_
 refine zN [0, 6, 14, 17, 18] 0 ⟨pops B32 [1, 1, 0, 0] 9, [(sq32 pAN13), (sq32 pAN14)], [(0, .so (mkB s)), (6, .io .i64 (↑(wd.length + 1) : Int)), (14, .v (.bool false)), (17, .so (mkB (List.take (wd.length + 1) s))), (18, .so (mkB wd))], []⟩ ?_
 refine catX wd [32] (by kernel_rfl) (by simp only [List.length_singleton]; omega) noF_stable ?_
 refine zNq [0, 6, 21] 0 ?_
 rcases zB (!(mkB (List.take (wd.length + 1) s)).toList == (mkB (wd ++ [32])).toList) with b0 | b0
 ·refine zR 21 b0 ?_
  refine zN [4, 5] 0 ⟨.exit .ret, [], [(4, .v (.string (ByteArray.mk #[]))), (5, .v (.bool false))], []⟩ ?_
  refine zE (.tup [.v (.string (ByteArray.mk #[])), .v (.bool false)]) ?_
  intro ρ w9 hm hf
  exact ⟨by rw [beh_not (by rw [strB] at b0; simpa using b0)]; rfl, hm.below⟩
 refine zR 21 b0 ?_
 refine zN [22, 23] 0 ⟨pops B32 [1, 1, 1, 0] 2, [(sq32 [1, 1, 0, 1, 2, 1])], [(22, .so (mkB s)), (23, .io .i64 (↑(wd.length + 1) : Int))], []⟩ ?_
 rw [strB] at b0
 have ht : s.take (wd.length + 1) = wd ++ [32] := by simpa using b0
 refine sslW s (wd.length + 1) _ rfl (by kernel_rfl) (by omega) noF_stable ?_
 refine zN [4, 5] 0 ⟨.exit .ret, [], [(4, .so (mkB (List.drop (wd.length + 1) s))), (5, .v (.bool true))], []⟩ ?_
 refine zE (.tup [.so (mkB (List.drop (wd.length + 1) s)), .v (.bool true)]) ?_
 intro ρ w9 hm hf
 exact ⟨by rw [beh_yes ht]; rfl, hm.below⟩
end Go.Proofs.YthfpekhpeiebjaaGreatDoor
end
section
namespace Go.Proofs.YthfpekhpeiebjaaGreatDoor
open Go.RowKit Go.Sx
theorem rowE_some {w0 : World} {ok : Nat → Prop} {ρ0 : List Nat} {base e n c : Nat} {A : Option Addr} {xs : List Value} {L : List (Option Addr × List Value)} {ρ : List Nat} {w : World} (h : RowE w0 ok ρ0 base e 1 A n c xs L ρ w) (hn : 0 < n) : ∃ a, A = some a := by
 rcases h.1.1.1.1.2 with ⟨h', h2⟩ | ⟨g, cap, cur, hv, _⟩
 ·omega
 injection hv with hv _ _
 exact ⟨_, hv⟩
theorem rowE_cell {w0 : World} {ok : Nat → Prop} {ρ0 : List Nat} {base e n c j : Nat} {a : Addr} {xs : List Value} {L : List (Option Addr × List Value)} {ρ : List Nat} {w : World} {v : Value} (h : RowE w0 ok ρ0 base e 1 (some a) n c xs L ρ w) (hj : xs[j]? = some v) : w.cell? (a.add j) = some v := by
 have hlen := h.1.1.1.1.1
 have hj' := (List.getElem?_eq_some_iff.1 hj).1
 obtain ⟨g, hg, hc⟩ := h.1.1.1.cell (j := j) (by omega)
 injection hg with hg
 subst hg
 rw [add_ok, Nat.zero_add, hc, hj]
theorem one_of {s : List UInt8} {i : Nat} {y : UInt8} (h : s[i]? = some y) : (mkB s).extract ((i : Nat) : Int).toNat ((some ((i + 1 : Nat) : Int)).getD (mkB s).size).toNat = mkB [y] := by
 rw [Option.getD_some, Int.toNat_natCast, Int.toNat_natCast]
 apply ByteArray.ext
 rw [ByteArray.data_extract]
 apply Array.ext'
 simp only [mkB, Array.toList_extract, List.extract_eq_take_drop]
 rw [show i + 1 - i = 1 by omega, drop_at h]
 rfl
structure PSt where
 A : Option Addr
 n : Nat
 c : Nat
 ds : List (List UInt8)
 cur : List UInt8
 i : Nat
def sv (x : List UInt8) : Value := .string (mkB x)
theorem set_last (ds : List (List UInt8)) (x y : List UInt8) : ((ds ++ [x]).map sv).set ds.length (sv y) = (ds ++ [y]).map sv := by
 simp
def frPS (s : List UInt8) : PSt → Fr
 | ⟨A, n, c, _, _, i⟩ => [(0, .so (mkB s)), (3, .sl A n c), (4, .io .i64 (i : Int))]
def locPS (_ : PSt) : Sx.Loc := []
def muPS (s : List UInt8) (x : PSt) : Nat := s.length - x.i
def GPS (w0 : World) (s : List UInt8) (R : List (List UInt8)) (x : PSt) (ρ : List Nat) (w : World) : Prop :=
 RowE w0 (fun _ => False) [] w0.heap.size 9 1 x.A x.n x.c ((x.ds ++ [x.cur]).map sv) [] ρ w ∧ (x.ds ++ pcs x.cur (s.drop x.i) = R ∧ x.i ≤ s.length ∧ x.n = x.ds.length + 1 ∧ x.ds.length + x.cur.length ≤ x.i ∧ ∃ a, x.A = some a)
noncomputable def B62 : Code := (Tryz.f62.body).getD .skip
noncomputable def sq62 (p : List Nat) : Go.Sx.K := .seq (sub B62 p)
set_option maxHeartbeats 20000000 in
set_option maxRecDepth 100000 in
theorem rsplit_any (s : List UInt8) (hs : s.length ≤ 1048576) (w : World) :
  Calls Tryz.prog 62 #[.string (mkB s)] w fun e w' => ∃ A n c, e = .returned (.slice A n c) ∧ RowF w (fun _ => False) [] w.heap.size 9 1 A n c ((pcs [] s).map sv) [] w' := by
 refine enter (fn := Tryz.f62) (c := B62) [.so (mkB s)] Tryz.func62 rfl rfl ?_
 refine zN [0, 3, 4] 1 ⟨.code (sub B62 [1, 1, 0, 1, 4]), [.block 0, (sq62 pAN14)], [(0, .so (mkB s)), (3, .ls 0 0 1 1), (4, .v (.int .i64 0))], [([.v (.string (ByteArray.mk #[]))], 9)]⟩ ?_
 refine At.lsRow1 3 [0, 4] 0 1 9 1 [.v (.string (ByteArray.mk #[]))] [.string ⟨#[]⟩] rfl rfl rfl rfl rfl (by decide) (fun _ => rfl) (by kernel_rfl) ?_
 intro A
 refine At.mono (F' := RowE w (fun _ => False) [] w.heap.size 9 1 A 1 1 [.string ⟨#[]⟩] []) (fun ρ w1 h => ⟨h, by simp⟩) ?_
 generalize hR : pcs [] s = R
 refine At.canon _ rfl ?_
 refine At.loop (σ := PSt) (sub B62 [1, 1, 0, 1, 4, 4]) (frPS s) locPS (GPS w s R) (muPS s) ⟨A, 1, 1, [], [], 0⟩ (by kernel_rfl) (by unfold subFr; kernel_rfl) (by kernel_rfl) (fun _ _ _ _ h => ⟨h, by simpa using hR, Nat.zero_le _, rfl, by simp, rowE_some h (by decide)⟩) ?_
 clear hR
 rintro ⟨A, n, c, ds, cur, i⟩
 refine At.pure fun ⟨h1, h2, h3, h4, h5⟩ => ?_
 simp only at h1 h2 h3 h4 h5
 refine zTq RowE.stable RowE.fewer [0, 3, 4, 9] 0 ?_
 rcases zB (decide ((↑i : Int) < (↑(mkB s).size : Int))) with b0 | b0
 ·refine zR 9 b0 ?_
  let kn1 : K := .next (Sx.Next w.heap.size w Tryz.f62.ntmps (frPS s) locPS (GPS w s R) (muPS s) (PSt.mk A n c ds cur i))
  refine zH [0, 3, 4, 12, 13] 0 ⟨pops B62 [1, 1, 0, 1, 4, 4, 1, 0, 4, 0, 0] 2, [(sq62 [1, 1, 0, 1, 4, 4, 1, 0, 4, 0, 1]), (sq62 pAN5), .block 1, (sq62 pAN8), kn1, .block 0, (sq62 pAN14)], [(0, .so (mkB s)), (3, .sl A n c), (4, .io .i64 (↑i : Int)), (12, .so (mkB s)), (13, .io .i64 (↑i : Int))], []⟩ ?_
  have hi : i < s.length := by have := of_decide_eq_true b0; rw [mkB_size] at this; omega
  clear b0
  obtain ⟨y, hz⟩ : ∃ y, s[i]? = some y := ⟨_, List.getElem?_eq_getElem hi⟩
  have hy := y.toNat_lt
  rw [drop_at hz] at h1
  refine At.six (mkB s) (i : Int) y (by kernel_rfl) (by omega) (by rw [Int.toNat_natCast]; exact hz) RowE.stable ?_
  refine zTq RowE.stable RowE.fewer [0, 3, 4, 15] 0 ?_
  rcases zB ((↑y.toNat : Int) == 32) with b0 | b0
  ·refine zR 15 b0 ?_
   refine zH [0, 4, 16, 17] 1 ⟨pops B62 [1, 1, 0, 1, 4, 4, 1, 0, 4, 0, 1, 2, 0] 2, [(sq62 [1, 1, 0, 1, 4, 4, 1, 0, 4, 0, 1, 2, 1]), (sq62 pAN5), .block 1, (sq62 pAN8), kn1, .block 0, (sq62 pAN14)], [(0, .so (mkB s)), (4, .io .i64 (↑i : Int)), (16, .sl A n c), (17, .ls 0 0 1 1)], [([.v (.string (ByteArray.mk #[]))], 9)]⟩ ?_
   refine At.appE (103) (9) (1) (16) (A) (n) (c) (1) ([.v (.string (ByteArray.mk #[]))]) _ _ _ _ ([.string (ByteArray.mk #[])]) _ (by kernel_rfl) (fun ρ => by kernel_rfl) (by first | omega | (simp only [Go.maxLen]; omega)) (by first | omega | (simp only [Go.maxLen]; omega)) (by first | omega | (simp only [Go.maxLen]; omega)) fun A1 c1 => ?_
   refine zH [0, 3, 4] 0 ⟨.exit .normal, [kn1, .block 0, (sq62 pAN14)], [(0, .so (mkB s)), (3, .sl A1 (n + 1) c1), (4, .io .i64 (IntKind.i64.wrap ((↑i : Int) + 1)))], []⟩ ?_
   have e32 : y = 32 := UInt8.toNat_inj.1 (by simp at b0; show y.toNat = 32; omega)
   subst e32
   rw [show pcs cur (32 :: s.drop (i + 1)) = cur :: pcs [] (s.drop (i + 1)) from if_pos rfl] at h1
   have hw3 : IntKind.i64.wrap ((i : Int) + 1) = ((i + 1 : Nat) : Int) := by
    rw [wrap63 (by omega) (by omega)]
    omega
   rw [hw3]
   refine At.next (σ := PSt) ⟨A1, n + 1, c1, ds ++ [cur], [], i + 1⟩ rfl rfl (by unfold subFr; kernel_rfl) (by kernel_rfl) ?_ ?_
   ·intro ρ a' w' hi' hf
    exact ⟨by rw [List.map_append (l₁ := ds ++ [cur])]; exact hf, by rw [← h1]; simp, by simp only; omega, by simp only [List.length_append, List.length_singleton]; omega, by simp only [List.length_append, List.length_singleton, List.length_nil]; omega, rowE_some hf (by omega)⟩
   simp only [muPS]
   omega
  refine zR 15 b0 ?_
  refine zH [0, 3, 4, 19, 22, 23, 26] 0 ⟨.qops (opsOf (sub B62 pAN5)) (((opsOf (sub B62 pAN5)).toList.take 17).drop 8), [.tail (opsOf (sub B62 pAN5)) ((opsOf (sub B62 pAN5)).toList.drop 17), .block 1, (sq62 pAN8), kn1, .block 0, (sq62 pAN14)], [(0, .so (mkB s)), (3, .sl A n c), (4, .io .i64 (↑i : Int)), (19, .sl A n c), (22, .io .i64 (IntKind.i64.wrap ((↑n : Int) - 1))), (23, .sl A n c), (26, .io .i64 (IntKind.i64.wrap ((↑n : Int) - 1)))], []⟩ ?_
  have n32 : y ≠ 32 := fun e => by subst e; exact absurd b0 (by decide)
  clear b0
  rw [show pcs cur (y :: s.drop (i + 1)) = pcs (cur ++ [y]) (s.drop (i + 1)) from if_neg n32] at h1
  obtain ⟨a, rfl⟩ := h5
  have hwn : IntKind.i64.wrap ((n : Int) - 1) = ((ds.length : Nat) : Int) := by
   rw [wrap63 (by omega) (by omega)]
   omega
  rw [hwn]
  refine At.idx a n 1 (ds.length : Int) (by kernel_rfl) (by omega) (by omega) RowE.stable ?_
  let kn0 : K := .next (Sx.Next w.heap.size w Tryz.f62.ntmps (frPS s) locPS (GPS w s R) (muPS s) (PSt.mk (some a) n c ds cur i))
  refine zH [0, 3, 4, 19, 22, 27] 0 ⟨.qops (opsOf (sub B62 pAN5)) (((opsOf (sub B62 pAN5)).toList.take 17).drop 9), [.tail (opsOf (sub B62 pAN5)) ((opsOf (sub B62 pAN5)).toList.drop 17), .block 1, (sq62 pAN8), kn0, .block 0, (sq62 pAN14)], [(0, .so (mkB s)), (3, .sl (some a) n c), (4, .io .i64 (↑i : Int)), (19, .sl (some a) n c), (22, .io .i64 (↑ds.length : Int)), (27, .v (.pointer (some (a.add ((↑ds.length : Int).toNat * 1)))))], []⟩ ?_
  refine At.ldx (a.add (((ds.length : Nat) : Int).toNat * 1)) (.so (mkB cur)) (by kernel_rfl) RowE.stable (fun ρ w1 hm' hf => by rw [Int.toNat_natCast, Nat.mul_one]; exact rowE_cell hf (by simp [sv]; rfl)) ?_
  refine zH [0, 3, 4, 19, 22, 28, 29, 30, 32] 0 ⟨.qops (opsOf (sub B62 pAN5)) (((opsOf (sub B62 pAN5)).toList.take 17).drop 14), [.tail (opsOf (sub B62 pAN5)) ((opsOf (sub B62 pAN5)).toList.drop 17), .block 1, (sq62 pAN8), kn0, .block 0, (sq62 pAN14)], [(0, .so (mkB s)), (3, .sl (some a) n c), (4, .io .i64 (↑i : Int)), (19, .sl (some a) n c), (22, .io .i64 (↑ds.length : Int)), (28, .so (mkB cur)), (29, .so (mkB s)), (30, .io .i64 (↑i : Int)), (32, .io .i64 (IntKind.i64.wrap ((↑i : Int) + 1)))], []⟩ ?_
  have hw1 : IntKind.i64.wrap ((i : Int) + 1) = ((i + 1 : Nat) : Int) := by
   rw [wrap63 (by omega) (by omega)]
   omega
  rw [hw1]
  refine At.ssl (mkB s) (i : Int) (some ((i + 1 : Nat) : Int)) (by kernel_rfl) (by omega) (by rw [Option.getD_some]; omega) (by rw [Option.getD_some, mkB_size]; omega) RowE.stable ?_
  rw [one_of hz]
  refine zH [0, 3, 4, 19, 22, 28, 33] 0 ⟨.qops (opsOf (sub B62 pAN5)) (((opsOf (sub B62 pAN5)).toList.take 17).drop 15), [.tail (opsOf (sub B62 pAN5)) ((opsOf (sub B62 pAN5)).toList.drop 17), .block 1, (sq62 pAN8), kn0, .block 0, (sq62 pAN14)], [(0, .so (mkB s)), (3, .sl (some a) n c), (4, .io .i64 (↑i : Int)), (19, .sl (some a) n c), (22, .io .i64 (↑ds.length : Int)), (28, .so (mkB cur)), (33, .so (mkB [y]))], []⟩ ?_
  refine At.cat (mkB cur) (mkB [y]) (by kernel_rfl) (by rw [mkB_size, mkB_size]; simp only [List.length_singleton]; omega) RowE.stable ?_
  rw [mkB_app]
  refine zH [0, 3, 4, 19, 22, 34] 0 ⟨.qops (opsOf (sub B62 pAN5)) (((opsOf (sub B62 pAN5)).toList.take 17).drop 16), [.tail (opsOf (sub B62 pAN5)) ((opsOf (sub B62 pAN5)).toList.drop 17), .block 1, (sq62 pAN8), kn0, .block 0, (sq62 pAN14)], [(0, .so (mkB s)), (3, .sl (some a) n c), (4, .io .i64 (↑i : Int)), (19, .sl (some a) n c), (22, .io .i64 (↑ds.length : Int)), (34, .so (mkB (cur ++ [y])))], []⟩ ?_
  refine At.idx a n 1 (ds.length : Int) (by kernel_rfl) (by omega) (by omega) RowE.stable ?_
  refine zH [0, 3, 4, 34, 35] 0 ⟨pops B62 pAN5 17, [.block 1, (sq62 pAN8), kn0, .block 0, (sq62 pAN14)], [(0, .so (mkB s)), (3, .sl (some a) n c), (4, .io .i64 (↑i : Int)), (34, .so (mkB (cur ++ [y]))), (35, .v (.pointer (some (a.add ((↑ds.length : Int).toNat * 1)))))], []⟩ ?_
  refine At.stRow ds.length (a.add (((ds.length : Nat) : Int).toNat * 1)) (.so (mkB (cur ++ [y]))) (sv (cur ++ [y])) (by kernel_rfl) (by rw [Int.toNat_natCast, Nat.mul_one]) (show ds.length < n by omega) (fun _ => rfl) (Nat.le_refl _) ?_
  refine zH [0, 3, 4] 0 ⟨.exit .normal, [kn0, .block 0, (sq62 pAN14)], [(0, .so (mkB s)), (3, .sl (some a) n c), (4, .io .i64 (IntKind.i64.wrap ((↑i : Int) + 1)))], []⟩ ?_
  have hw3 : IntKind.i64.wrap ((i : Int) + 1) = ((i + 1 : Nat) : Int) := by
   rw [wrap63 (by omega) (by omega)]
   omega
  rw [hw3]
  refine At.next (σ := PSt) ⟨some a, n, c, ds, cur ++ [y], i + 1⟩ rfl rfl (by unfold subFr; kernel_rfl) (by kernel_rfl) ?_ ?_
  ·intro ρ a' w' hi' hf
   exact ⟨by rw [set_last] at hf; exact hf, by rw [← h1], by simp only; omega, by simp only; omega, by simp only [List.length_append, List.length_singleton]; omega, ⟨a, rfl⟩⟩
  simp only [muPS]
  omega
 refine zR 9 b0 ?_
 refine zH [2] 0 ⟨.exit .ret, [], [(2, .sl A n c)], []⟩ ?_
 refine zE (.sl A n c) ?_
 have hi : ¬ (i : Int) < ((mkB s).size : Int) := of_decide_eq_false b0
 rw [mkB_size] at hi
 have hd : s.drop i = [] := List.drop_eq_nil_of_le (by omega)
 rw [hd, show pcs cur [] = [cur] from rfl] at h1
 subst h1
 intro ρ w9 hm' hf
 exact ⟨A, n, c, rfl, RowF.fewer _ _ 0 (Nat.zero_le _) hf.1⟩
end Go.Proofs.YthfpekhpeiebjaaGreatDoor
end
section
/- Several rows of one's own, each in memory of its own. -/
namespace Go.Sx
open Go.RowKit
structure Rw where
 e : Nat
 size : Nat
 A : Option Addr
 n : Nat
 c : Nat
 xs : List Value
def Rw.own (x : Rw) : Option Nat := (Value.slice x.A x.n x.c).ownBlock
def Apart (x y : Rw) : Prop := ∀ g, x.own = some g → y.own ≠ some g
theorem Apart.symm {x y : Rw} (h : Apart x y) : Apart y x := fun g hg he => h g he hg
def Rws (b : Nat) (L : List Rw) (ρ : List Nat) (w : World) : Prop := (∀ x ∈ L, Row b x.e x.size x.A x.n x.c x.xs ρ w) ∧ L.Pairwise Apart
theorem Rws.none (b : Nat) (ρ : List Nat) (w : World) : Rws b [] ρ w := ⟨fun x h => (by cases h), List.Pairwise.nil⟩
theorem Rws.stable {b : Nat} {L : List Rw} : Stable (Rws b L) := fun ρ w ρ' w' hg hk h => ⟨fun x hx => (h.1 x hx).keep hg hk, h.2⟩
theorem Rws.fewer {b : Nat} {L : List Rw} : FewerK 0 (Rws b L) := fun ρ w k _ h => ⟨fun x hx => Row.fewer _ _ _ _ _ _ _ ρ w k (h.1 x hx), h.2⟩
theorem Rws.perm {b : Nat} {L L' : List Rw} {ρ : List Nat} {w : World} (h : Rws b L ρ w) (hp : L'.Perm L) : Rws b L' ρ w :=
 ⟨fun x hx => h.1 x (hp.subset hx), (hp.pairwise_iff (fun h => Apart.symm h)).2 h.2⟩
theorem Rws.sub {b : Nat} {L L' : List Rw} {ρ : List Nat} {w : World} (h : Rws b L ρ w) (hs : L'.Sublist L) : Rws b L' ρ w := ⟨fun x hx => h.1 x (hs.subset hx), h.2.sublist hs⟩
theorem Rws.nil {b : Nat} {L : List Rw} {ρ : List Nat} {w : World} (h : Rws b L ρ w) (e size : Nat) : Rws b (⟨e, size, .none, 0, 0, []⟩ :: L) ρ w :=
 ⟨fun x hx => by
  rcases List.mem_cons.1 hx with rfl | hx
  ·exact Row.nil b e size ρ w
  exact h.1 x hx, List.pairwise_cons.2 ⟨fun y _ g hg => by simp [Rw.own, Value.ownBlock] at hg, h.2⟩⟩
theorem Rws.len {b : Nat} {L : List Rw} {x : Rw} {ρ : List Nat} {w : World} (h : Rws b L ρ w) (hx : x ∈ L) : x.xs.length = x.n * x.size := (h.1 x hx).1.1
theorem Rws.cap {b : Nat} {L : List Rw} {x : Rw} {ρ : List Nat} {w : World} (h : Rws b L ρ w) (hx : x ∈ L) : x.n ≤ x.c := by
 rcases (h.1 x hx).1.2 with ⟨h2, h3⟩ | ⟨g, cap, cur, hv, _, _, hnc, _⟩
 ·omega
 injection hv with _ _ hcc
 omega
theorem Rws.some {b : Nat} {L : List Rw} {x : Rw} {ρ : List Nat} {w : World} (h : Rws b L ρ w) (hx : x ∈ L) (hn : 0 < x.n) : ∃ a, x.A = Option.some a := by
 rcases (h.1 x hx).1.2 with ⟨h2, h3⟩ | ⟨g, cap, cur, hv, _⟩
 ·omega
 injection hv with hv _ _
 exact ⟨_, hv⟩
theorem Rws.isNil {b : Nat} {L : List Rw} {x : Rw} {ρ : List Nat} {w : World} (h : Rws b L ρ w) (hx : x ∈ L) (hA : x.A = Option.none) : x.n = 0 ∧ x.xs = [] := by
 rcases (h.1 x hx).1.2 with ⟨h2, h3⟩ | ⟨g, cap, cur, hv, _⟩
 ·exact ⟨h3, List.eq_nil_of_length_eq_zero (by rw [(h.1 x hx).1.1, h3, Nat.zero_mul])⟩
 injection hv with hv _ _
 rw [hA] at hv
 cases hv
theorem Rws.src {b : Nat} {L : List Rw} {x : Rw} {ρ : List Nat} {w : World} (h : Rws b L ρ w) (hx : x ∈ L) {a : Addr} (ha : x.A = Option.some a) : Src w a x.xs := by
 intro j u hj
 have hj' := (List.getElem?_eq_some_iff.1 hj).1
 obtain ⟨g, hg, hc⟩ := (h.1 x hx).cell (j := j) (by have := (h.1 x hx).1.1; omega)
 rw [ha] at hg
 injection hg with hg
 subst hg
 rw [add_ok, Nat.zero_add, hc]
 exact hj
theorem own_base' {w : World} {b b' e size n : Nat} {v : Value} {xs : List Value} (h : w.ownsRow b e size v n xs) (hb : b' ≤ b) : w.ownsRow b' e size v n xs := by
 refine ⟨h.1, ?_⟩
 rcases h.2 with h2 | ⟨g, cap, cur, hv, hg, h3⟩
 ·exact .inl h2
 exact .inr ⟨g, cap, cur, hv, Nat.le_trans hb hg, h3⟩
theorem Row.chg' {b e size : Nat} {A : Option Addr} {n c : Nat} {xs : List Value} {ρ : List Nat} {w w' : World} (h : Row b e size A n c xs ρ w) (hc : ∀ g, (Value.slice A n c).ownBlock = some g → w'.heap[g]? = w.heap[g]?) : Row b e size A n c xs ρ w' := by
 have hlt := h.1.lt
 refine ⟨⟨h.1.1, ?_⟩, h.2⟩
 rcases h.1.2 with h2 | ⟨g, cap, cur, hv, hb, hcur, hr⟩
 ·exact .inl h2
 have hg : (Value.slice A n c).ownBlock = some g := by rw [hv]; rfl
 exact .inr ⟨g, cap, cur, hv, hb, by rw [hc g hg]; exact hcur, hr⟩
theorem Rws.grown {b : Nat} {L : List Rw} {x y : Rw} {ρ : List Nat} {w w' : World} (h : Rws b (x :: L) ρ w) (hy : Row b y.e y.size y.A y.n y.c y.xs ρ w') (hg : w.grownBy w' x.own) (ho : y.own = x.own ∨ y.own = Option.some w.heap.size ∨ y.own = Option.none) : Rws b (y :: L) ρ w' := by
 obtain ⟨h1, h2⟩ := h
 have h2 := List.pairwise_cons.1 h2
 refine ⟨fun z hz => ?_, List.pairwise_cons.2 ⟨fun z hz g hg' he => ?_, h2.2⟩⟩
 ·rcases List.mem_cons.1 hz with rfl | hz
  ·exact hy
  have hz' := h1 z (List.mem_cons_of_mem _ hz)
  exact hz'.chg' fun g hg' => hg.block g (hz'.1.lt g hg').2 fun e => h2.1 z hz g e.symm hg'
 rcases ho with ho | ho | ho
 ·exact h2.1 z hz g (ho ▸ hg') he
 ·rw [ho] at hg'
  injection hg' with hg'
  have := ((h1 z (List.mem_cons_of_mem _ hz)).1.lt g he).2
  omega
 rw [ho] at hg'
 cases hg'
section
variable {P : Program} {Q : Exit → Act → World → Prop} {N : Nat} {w0 : World} {ntm : Nat} {F : List Nat → World → Prop}
variable [Md]
theorem At.rowCall {s : S} {L : List Rw} {e size : Nat} (g : FuncId) (vs : List SV) (xs : List Value) (rv : Option Addr → Nat → Nat → SV) (hc : s.call? = some (g, vs)) (hb : bodied P g = true) (hd : s.dstOk ntm = true) (hq : (match s.pc with | .ops .. => true | _ => false) = true)
  (hr : ∀ ρ w, WInv N w0 ρ s.loc w → Rws N L ρ w → Calls P g (SV.denL ρ vs).toArray w fun e' w' => ∃ A n c, e' = .returned ((rv A n c).den ρ) ∧ RowF w (fun _ => False) [] w.heap.size e size A n c xs [] w')
  (h : ∀ A n c, xs.length = n * size → At P Q N w0 ntm (Rws N (⟨e, size, A, n, c, xs⟩ :: L)) (s.tail ntm (rv A n c))) : At P Q N w0 ntm (Rws N L) s := by
 refine At.callx (X := Option Addr × Nat × Nat) Rws.stable g vs (fun x => rv x.1 x.2.1 x.2.2) (fun x ρ w => Rws N (⟨e, size, x.1, x.2.1, x.2.2, xs⟩ :: L) ρ w) (fun x => Rws.stable) hc hb hd hq (fun ρ a w hi hf => (hr ρ w hi.mem hf).mono ?_) (fun x => At.mono (F' := fun ρ w => Rws N (⟨e, size, x.1, x.2.1, x.2.2, xs⟩ :: L) ρ w ∧ xs.length = x.2.1 * size) (fun ρ w h => ⟨h.2, h.2.len (x := ⟨e, size, x.1, x.2.1, x.2.2, xs⟩) (List.mem_cons_self ..)⟩) (At.pure fun hl => h x.1 x.2.1 x.2.2 hl))
 rintro e' w' ⟨A, n, c, rfl, ⟨⟨h1, h2⟩, h3, h4⟩⟩
 have hbel : Below w.heap.size w w' := ⟨h3.1.os, h3.1.tape, h3.1.output, h3.1.size, fun k hk => h3.1.block k hk (fun h => h)⟩
 have hnew : ∀ g, (Value.slice A n c).ownBlock = some g → w.heap.size ≤ g := fun g hg => (h4 g hg).resolve_left fun h => h
 refine ⟨(A, n, c), rfl, hbel, fun x hx => ?_, List.pairwise_cons.2 ⟨fun y hy g hg => ?_, hf.2⟩⟩
 ·rcases List.mem_cons.1 hx with rfl | hx
  ·refine ⟨own_base' h1.1 hi.mem.hN, fun g hg hm => ?_⟩
   have h5 := hnew g hg
   have h6 := (hi.mem.ge g hm).2
   omega
  exact (hf.1 x hx).keep (Grow.refl _ _) (Keep.of_below hbel)
 intro he
 have h5 := hnew g hg
 have h6 := ((hf.1 y hy).1.lt g he).2
 omega
theorem At.appV {s : S} (t e size bytes : Nat) (A : Option Addr) (n c m : Nat) (nl : List SV) (xs news : List Value) (L : List Rw) (hq : appI P ntm s = some ⟨t, e, size, bytes, A, n, c, m, nl⟩) (hnews : ∀ ρ, SV.denL ρ nl = news)
  (hbytes : (n + m) * bytes ≤ 140737488355328) (h63 : n + m ≤ maxLen)
  (h : ∀ (A' : Option Addr) (c' : Nat), n + m ≤ c' → At P Q N w0 ntm (Rws N (⟨e, size, A', n + m, c', xs ++ news⟩ :: L)) (s.tail ntm (.sl A' (n + m) c'))) : At P Q N w0 ntm (Rws N (⟨e, size, A, n, c, xs⟩ :: L)) s := by
 unfold appI at hq
 obtain ⟨⟨o, q', i, off, k, cells, ct⟩, h1, h2⟩ := Option.map_eq_some_iff.1 hq
 simp only at h2
 subst h2
 unfold appQ at h1
 split at h1
 ·rename_i o' ho
  split at h1
  ·rename_i t' A1 n1 c1 i' off' m' k' ha
   split at h1
   ·rename_i e1 size1 bytes1 cells' ct' ht hl
    split at h1
    ·rename_i hb
     simp only [Option.some.injEq, Prod.mk.injEq, AppQ.mk.injEq] at h1
     obtain ⟨rfl, ⟨rfl, rfl, rfl, rfl, rfl, rfl, rfl, rfl, rfl⟩, rfl, rfl, rfl, rfl, rfl⟩ := h1
     simp only [Bool.and_eq_true] at hb
     refine At.opx o' (fun x : Option Addr × Nat => .sl x.1 (n1 + m') x.2) (fun x ρ w => Rws N (⟨e1, size1, x.1, n1 + m', x.2, xs ++ news⟩ :: L) ρ w) ho hb.2 hb.1.1 ?_ (fun x => At.mono (F' := fun ρ w => Rws N (⟨e1, size1, x.1, n1 + m', x.2, xs ++ news⟩ :: L) ρ w ∧ n1 + m' ≤ x.2) (fun ρ w h => ⟨h, h.cap (x := ⟨e1, size1, x.1, n1 + m', x.2, xs ++ news⟩) (List.mem_cons_self ..)⟩) (At.pure fun hl => h x.1 x.2 hl))
     intro ρ a w hi hf
     have hrow := hf.1 _ (List.mem_cons_self ..)
     have hle := hb.1.2.1
     have hlen : news.length = m' * size1 := by
      rw [← hnews ρ]
      have := Nat.le_of_ble_eq_true hle
      simp [SV.denL_eq]; omega
     obtain ⟨A', c', w', r1, r2, r3, r4⟩ := run_append_row (P := P) (ty := o'.type) ht hrow hi.mem.hN (fun b hb => (hi.mem.ge b hb).2) ⟨nth ρ i', off', none⟩ m' k' news hlen (fun j u hj => by
       rw [add_ok, cell_of_loc hi.mem hl]
       rw [← hnews ρ] at hj
       have hjn : j < m' * size1 := by
        have := (List.getElem?_eq_some_iff.1 hj).1
        simp [SV.denL_eq] at this
        omega
       simpa [SV.denL_eq, List.getElem?_take, hjn, List.getElem?_drop] using hj) (by rw [← hnews ρ]; exact oneL_den hb.1.2.2) hbytes h63
     exact ⟨(A', c'), w', run_appS hi.act ha r1, hi.mem.grown r3 (fun g hg => ⟨(hrow.1.lt g hg).1, hrow.2 g hg⟩), hf.grown r2 r3 (r4.imp id .inl)⟩
    cases h1
   cases h1
  cases h1
 cases h1
theorem At.join {σ : Type} {s : S} (G : σ → List Nat → World → Prop) (s' : σ → S) (h1 : (∀ x, At P Q N w0 ntm (G x) (s' x)) → At P Q N w0 ntm F s) (h2 : ∀ x, At P Q N w0 ntm (G x) (s' x)) : At P Q N w0 ntm F s := h1 h2
def bixQ (P : Program) (ntm : Nat) (s : S) : Option (BinOp × IntKind × Int × IntKind × Int) :=
 match s.head?, s.dstOk ntm with
 | some o, true => match o.op with
  | .binOp op t x y _ => match evalS s.fr x, evalS s.fr y with
   | some sx, some sy => match litOf sx, litOf sy, sx.calm with
    | some (.int k a, _), some (.int k2 b, _), true => some (op, k, a, k2, b)
    | _, _, _ => none
   | _, _ => none
  | _ => none
 | _, _ => none
end
end Go.Sx
end
section
/- Whole elements stored into the first of several rows of one's own. -/
namespace Go.Sx
open Go.RowKit
section
variable {P : Program} {Q : Exit → Act → World → Prop} {N : Nat} {w0 : World} {ntm : Nat} {F : List Nat → World → Prop}
theorem At.know {s : S} {p : Prop} (h : ∀ ρ w, F ρ w → p) (k : p → At P Q N w0 ntm F s) : At P Q N w0 ntm F s :=
 fun ρ a w hi hf => k (h ρ w hf) ρ a w hi hf
theorem At.stRN {s : S} {e size n c : Nat} {a : Addr} {xs : List Value} {L : List Rw} (j : Nat) (p : Addr) (l : List SV) (hq : stnI P s = some (p, l)) (hp : p = a.add j) (hj : j + l.length ≤ n * size)
  (h : ∀ ys, At P Q N w0 ntm (Rws N (⟨e, size, some a, n, c, ys⟩ :: L)) s.past) : At P Q N w0 ntm (Rws N (⟨e, size, some a, n, c, xs⟩ :: L)) s := by
 unfold stnI at hq
 split at hq
 ·rename_i o ho hpl
  obtain ⟨all, rest, h1, h2, h3⟩ := S.past_at ho hpl
  intro ρ act w hi hf
  have hrow : Row N e size (some a) n c xs ρ w := hf.1 _ (.head _)
  have ha : a = ⟨a.block, 0, none⟩ := by
   rcases hrow.1.2 with ⟨h', _⟩ | ⟨g, cap, cur, hv, _⟩
   ·cases h'
   injection hv with hv _ _
   injection hv with hv
   rw [hv]
  generalize hg : a.block = g at ha
  subst ha
  have hlen : xs.length = n * size := hrow.1.1
  have hp' : p = ⟨g, j, none⟩ := by rw [hp, add_ok, Nat.zero_add]
  subst hp'
  obtain ⟨hd, hrun⟩ := run_stnQ hi.act hq (w := w) (fun k hk => by
   obtain ⟨g', hg', hcell⟩ := hrow.cell (j := j + k) (by omega)
   injection hg' with hg'
   injection hg' with hg' _ _
   subst hg'
   rw [hcell, List.getElem?_eq_getElem (by omega)]
   rfl) (fun k hk => hrow.1.frozenAt (j + k))
  obtain ⟨ys, hs1, hs2⟩ := storedN (SV.denL ρ l) j w xs hrow.1
  have hown : ∀ k, some g = some k → N ≤ k ∧ k ∉ ρ := fun k hk => by
   injection hk with hk
   subst hk
   exact ⟨(hrow.1.lt g rfl).1, hrow.2 g rfl⟩
  have hk := h ys ρ act _ (by rw [h2]; exact ⟨hi.act, hi.mem.grown hs2 hown⟩) (hf.grown (y := ⟨e, size, some ⟨g, 0, none⟩, n, c, ys⟩) ⟨hs1, hrow.2⟩ hs2 (.inl rfl))
  rw [h2] at hk
  rw [h1]
  show wpList P all _ (o :: rest) act w
  unfold wpList
  rw [if_pos (guardS_ok hi.act h3)]
  refine .inl ?_
  unfold Oper.wp
  rw [hrun, Oper.upon_skip, hd]
  exact hk
 cases hq
end
end Go.Sx
end
section
namespace Go.Proofs.YthfpekhpeiebjaaGreatDoor
open Go.RowKit Go.Sx
theorem rws_rowF {w0 w : World} {L : List Rw} {x : Rw} {ρ : List Nat} (h : Rws w0.heap.size L ρ w) (hx : x ∈ L) (hb : Below w0.heap.size w0 w) : RowF w0 (fun _ => False) [] w0.heap.size x.e x.size x.A x.n x.c x.xs [] w :=
 ⟨⟨⟨(h.1 x hx).1, fun g _ hm => absurd hm (List.not_mem_nil)⟩, hb.size⟩, ⟨Chg.ofBelow hb, ⟨fun b hb => absurd hb (List.not_mem_nil), rfl⟩⟩, fun g hg => .inr ((h.1 x hx).1.lt g hg).1⟩
def goN : List (List UInt8) → Option (List Int)
 | [] => some []
 | p :: r => match numK p with
  | some x => (goN r).map (x :: ·)
  | none => none
theorem goN_cons (p : List UInt8) (r : List (List UInt8)) : goN (p :: r) = (match numK p with
  | some x => (goN r).map (x :: ·)
  | none => none) := rfl
theorem goN_mapM (l : List (List UInt8)) : l.mapM numK = goN l := by
 induction l with
 | nil => rfl
 | cons p r ih =>
  rw [List.mapM_cons, ih, goN_cons]
  generalize goN r = o
  cases numK p with
  | none => rfl
  | some x => cases o <;> rfl
theorem nums_no {s : List UInt8} {k : Nat} (h : ¬ (pcs [] s).length = k) : numsP s k = none := if_neg h
theorem nums_go {s : List UInt8} {k : Nat} (h : (pcs [] s).length = k) : numsP s k = goN (pcs [] s) := by
 unfold numsP
 rw [if_pos h, goN_mapM]
def iw (l : List Int) : List Value := l.map fun x => Value.int .i64 x
theorem iw_app (l : List Int) (x : Int) : iw (l ++ [x]) = iw l ++ [Value.int .i64 x] := by simp [iw]
def rnE (w : World) (o : Option (List Int)) (e : Ending) (w' : World) : Prop :=
 match o with
 | some l => ∃ A c, e = .returned (.tuple #[.slice A l.length c, .bool true]) ∧ RowF w (fun _ => False) [] w.heap.size 2 1 A l.length c (iw l) [] w'
 | none => e = .returned (.tuple #[.slice none 0 0, .bool false]) ∧ Below w.heap.size w w'
noncomputable def B34 : Code := (Tryz.f34.body).getD .skip
noncomputable def sq34 (p : List Nat) : Go.Sx.K := .seq (sub B34 p)
set_option maxHeartbeats 20000000 in
set_option maxRecDepth 100000 in
theorem rnumbers_any (s : List UInt8) (k : Nat) (hs : s.length ≤ 1048576) (hk : k ≤ 1000) (w : World) :
  Calls Tryz.prog 34 #[.string (mkB s), .int .i64 (k : Int)] w (rnE w (numsP s k)) := by
 refine enterF (N := w.heap.size) (F := Rws w.heap.size []) (fn := Tryz.f34) (c := B34) [.so (mkB s), .io .i64 (k : Int)] Tryz.func34 rfl rfl (Nat.le_refl _) (Rws.none _ _ _) ?_
 refine zT Rws.stable Rws.fewer [1, 11] 0 ⟨pops B34 [1, 0] 1, [(sq34 [1, 1])], [(1, .io .i64 (↑k : Int)), (11, .so (mkB s))], []⟩ ?_
 refine At.rowCall (e := 9) (size := 1) 62 [.so (mkB s)] ((pcs [] s).map sv) (fun A' n' c' => .sl A' n' c') (by kernel_rfl) (by kernel_rfl) (by kernel_rfl) rfl (fun ρ w1 hm hf => rsplit_any s hs w1) (fun B m cB hlB => ?_)
 rw [List.length_map, Nat.mul_one] at hlB
 refine zTq Rws.stable Rws.fewer [1, 6, 16] 0 ?_
 rcases zB ((↑m : Int) != (↑k : Int)) with b0 | b0
 ·refine zR 16 b0 ?_
  refine zT Rws.stable Rws.fewer [4, 5] 0 ⟨.exit .ret, [], [(4, .v (.slice none 0 0)), (5, .v (.bool false))], []⟩ ?_
  refine zE (.tup [.v (.slice none 0 0), .v (.bool false)]) ?_
  intro ρ w9 hm hf
  rw [nums_no (s := s) (k := k) (by rw [hlB]; intro h; rw [h] at b0; simp at b0)]
  exact ⟨rfl, hm.below⟩
 refine zR 16 b0 ?_
 refine zT Rws.stable Rws.fewer [1, 6, 7, 8] 0 ⟨.code (sub B34 [1, 1, 1, 1, 0, 1, 4]), [.block 0, (sq34 pAN12)], [(1, .io .i64 (↑k : Int)), (6, .sl B m cB), (7, .v (.slice none 0 0)), (8, .v (.int .i64 0))], []⟩ ?_
 have hmk : m = k := by
  have : (m : Int) = (k : Int) := by simpa using b0
  omega
 clear b0
 subst hmk
 rw [nums_go hlB]
 generalize hR : goN (pcs [] s) = R
 refine At.canonT [8] _ rfl ?_
 refine At.slFr _ rfl ?_
 refine At.loop (σ := Option Addr × Nat × List Int) (sub B34 [1, 1, 1, 1, 0, 1, 4, 4]) (fun x => [(1, .io .i64 (m : Int)), (6, .sl B m cB), (7, .sl x.1 x.2.2.length x.2.1), (8, .io .i64 (x.2.2.length : Int))]) (fun _ => []) (fun x ρ w1 => Rws w.heap.size [⟨2, 1, x.1, x.2.2.length, x.2.1, iw x.2.2⟩, ⟨9, 1, B, m, cB, (pcs [] s).map sv⟩] ρ w1 ∧ ((goN ((pcs [] s).drop x.2.2.length)).map (x.2.2 ++ ·) = R ∧ x.2.2.length ≤ m)) (fun x => m - x.2.2.length) (none, 0, []) (by kernel_rfl) (by unfold subFr; kernel_rfl) (by kernel_rfl) (fun _ _ _ _ h => ⟨h.nil 2 1, by rw [show (([] : List Int)).length = 0 from rfl, List.drop_zero]; simpa using hR, Nat.zero_le _⟩) ?_
 clear hR
 rintro ⟨A, c, acc⟩
 refine At.pure fun ⟨h1, h2⟩ => ?_
 simp only at h1 h2
 dsimp only
 refine zTq Rws.stable Rws.fewer [1, 6, 7, 8, 19] 0 ?_
 rcases zB (decide ((↑acc.length : Int) < (↑m : Int))) with b0 | b0
 ·refine zR 19 b0 ?_
  refine zT Rws.stable Rws.fewer [1, 6, 7, 8, 23, 24] 0 ⟨pops B34 [1, 1, 1, 1, 0, 1, 4, 4, 1, 0, 4, 0] 2, [(sq34 [1, 1, 1, 1, 0, 1, 4, 4, 1, 0, 4, 1]), .block 1, (sq34 pAN6), .next (Sx.Next w.heap.size w Tryz.f34.ntmps (fun x => [(1, .io .i64 (↑m : Int)), (6, .sl B m cB), (7, .sl x.fst x.snd.snd.length x.snd.fst), (8, .io .i64 (↑x.snd.snd.length : Int))]) (fun x => []) (fun x ρ w1 => Rws w.heap.size [Rw.mk 2 1 x.fst x.snd.snd.length x.snd.fst (iw x.snd.snd), Rw.mk 9 1 B m cB (List.map sv (pcs [] s))] ρ w1 ∧ Option.map (fun x_1 => x.snd.snd ++ x_1) (goN (List.drop x.snd.snd.length (pcs [] s))) = R ∧ x.snd.snd.length ≤ m) (fun x => m - x.snd.snd.length) (A, c, acc)), .block 0, (sq34 pAN12)], [(1, .io .i64 (↑m : Int)), (6, .sl B m cB), (7, .sl A acc.length c), (8, .io .i64 (↑acc.length : Int)), (23, .sl B m cB), (24, .io .i64 (↑acc.length : Int))], []⟩ ?_
  have hi : acc.length < m := by have := of_decide_eq_true b0; omega
  clear b0
  obtain ⟨p, hp⟩ : ∃ p, (pcs [] s)[acc.length]? = some p := ⟨_, List.getElem?_eq_getElem (by omega)⟩
  rw [drop_at hp] at h1
  have hpl := pcs_len s [] p (List.mem_of_getElem? hp)
  simp only [List.length_nil, Nat.zero_add] at hpl
  refine At.know (p := ∃ b, B = some b) (fun ρ w1 h => h.some (.tail _ (.head _)) (show 0 < m by omega)) fun ⟨b, hb⟩ => ?_
  subst hb
  refine At.idx b m 1 (acc.length : Int) (by kernel_rfl) (by omega) (by omega) Rws.stable ?_
  refine At.ldx (b.add ((acc.length : Int).toNat * 1)) (.so (mkB p)) (by kernel_rfl) Rws.stable (fun ρ w1 hm' hf => hf.src (.tail _ (.head _)) rfl _ _ (by rw [Int.toNat_natCast, Nat.mul_one]; simp only [List.getElem?_map, hp]; rfl)) ?_
  refine zT Rws.stable Rws.fewer [1, 6, 7, 8, 26] 0 ⟨pops B34 [1, 1, 1, 1, 0, 1, 4, 4, 1, 0, 4, 0] 4, [(sq34 [1, 1, 1, 1, 0, 1, 4, 4, 1, 0, 4, 1]), .block 1, (sq34 pAN6), .next (Sx.Next w.heap.size w Tryz.f34.ntmps (fun x => [(1, .io .i64 (↑m : Int)), (6, .sl (some b) m cB), (7, .sl x.fst x.snd.snd.length x.snd.fst), (8, .io .i64 (↑x.snd.snd.length : Int))]) (fun x => []) (fun x ρ w1 => Rws w.heap.size [Rw.mk 2 1 x.fst x.snd.snd.length x.snd.fst (iw x.snd.snd), Rw.mk 9 1 (some b) m cB (List.map sv (pcs [] s))] ρ w1 ∧ Option.map (fun x_1 => x.snd.snd ++ x_1) (goN (List.drop x.snd.snd.length (pcs [] s))) = R ∧ x.snd.snd.length ≤ m) (fun x => m - x.snd.snd.length) (A, c, acc)), .block 0, (sq34 pAN12)], [(1, .io .i64 (↑m : Int)), (6, .sl (some b) m cB), (7, .sl A acc.length c), (8, .io .i64 (↑acc.length : Int)), (26, .so (mkB p))], []⟩ ?_
  rcases hn : numK p with _ | x
  ·refine zC Rws.stable 65 [.so (mkB p)] (.tup [.v (.int .i64 0), .v (.bool false)]) (fun _ _ w1 _ _ => (rnumber_any p (by omega) w1).mono fun e w2 h => by rw [nums_alike, hn] at h; exact h) ?_
   refine zT Rws.stable Rws.fewer [4, 5] 0 ⟨.exit .ret, [], [(4, .v (.slice none 0 0)), (5, .v (.bool false))], []⟩ ?_
   refine zE (.tup [.v (.slice none 0 0), .v (.bool false)]) ?_
   rw [show goN (p :: (pcs [] s).drop (acc.length + 1)) = none by simp [goN, hn]] at h1
   intro ρ w9 hm hf
   rw [← h1]
   exact ⟨rfl, hm.below⟩
  refine zC Rws.stable 65 [.so (mkB p)] (.tup [.io .i64 x, .v (.bool true)]) (fun _ _ w1 _ _ => (rnumber_any p (by omega) w1).mono fun e w2 h => by rw [nums_alike, hn] at h; exact h) ?_
  let kn0 : K := .next (Sx.Next w.heap.size w Tryz.f34.ntmps (fun x => [(1, .io .i64 (↑m : Int)), (6, .sl (some b) m cB), (7, .sl x.fst x.snd.snd.length x.snd.fst), (8, .io .i64 (↑x.snd.snd.length : Int))]) (fun x => []) (fun x ρ w1 => Rws w.heap.size [Rw.mk 2 1 x.fst x.snd.snd.length x.snd.fst (iw x.snd.snd), Rw.mk 9 1 (some b) m cB (List.map sv (pcs [] s))] ρ w1 ∧ Option.map (fun x_1 => x.snd.snd ++ x_1) (goN (List.drop x.snd.snd.length (pcs [] s))) = R ∧ x.snd.snd.length ≤ m) (fun x => m - x.snd.snd.length) (A, c, acc))
  refine zT Rws.stable Rws.fewer [1, 6, 8, 32, 34] 1 ⟨pops B34 [1, 1, 1, 1, 0, 1, 4, 4, 1, 0, 4, 1, 1] 3, [.block 1, (sq34 pAN6), kn0, .block 0, (sq34 pAN12)], [(1, .io .i64 (↑m : Int)), (6, .sl (some b) m cB), (8, .io .i64 (↑acc.length : Int)), (32, .sl A acc.length c), (34, .ls 0 0 1 1)], [([.io .i64 x], 2)]⟩ ?_
  refine At.appV 73 2 1 8 A acc.length c 1 [.io .i64 x] (iw acc) [.int .i64 x] [⟨9, 1, some b, m, cB, (pcs [] s).map sv⟩] (by kernel_rfl) (fun _ => rfl) (by omega) (by simp only [maxLen]; omega) (fun A2 c2 hc2 => ?_)
  refine zT Rws.stable Rws.fewer [1, 6, 7, 8] 0 ⟨.exit .normal, [kn0, .block 0, (sq34 pAN12)], [(1, .io .i64 (↑m : Int)), (6, .sl (some b) m cB), (7, .sl A2 (acc.length + 1) c2), (8, .io .i64 (IntKind.i64.wrap ((↑acc.length : Int) + 1)))], []⟩ ?_
  have hw3 : IntKind.i64.wrap ((acc.length : Int) + 1) = ((acc.length + 1 : Nat) : Int) := by
   rw [wrap63 (by omega) (by omega)]
   omega
  rw [hw3]
  refine At.next (σ := Option Addr × Nat × List Int) (A2, c2, acc ++ [x]) rfl rfl (by simp only [List.length_append, List.length_singleton]; unfold subFr; kernel_rfl) (by kernel_rfl) ?_ ?_
  ·intro ρ a' w' hi' hf
   refine ⟨by rw [iw_app, List.length_append, List.length_singleton]; exact hf, ?_, by simp only [List.length_append, List.length_singleton]; omega⟩
   rw [← h1]
   simp [goN, hn, Option.map_map, Function.comp_def]
  simp only [List.length_append, List.length_singleton]
  omega
 refine zR 19 b0 ?_
 refine zT Rws.stable Rws.fewer [4, 5] 0 ⟨.exit .ret, [], [(4, .sl A acc.length c), (5, .v (.bool true))], []⟩ ?_
 refine zE (.tup [.sl A acc.length c, .v (.bool true)]) ?_
 have hi : m = acc.length := by have := of_decide_eq_false b0; omega
 rw [List.drop_eq_nil_of_le (by omega)] at h1
 intro ρ w9 hm hf
 rw [← h1]
 refine ⟨A, c, ?_, ?_⟩
 ·simp [goN, SV.den, SV.denL]
 have h9 := rws_rowF hf (.head _) hm.below
 simpa [goN] using h9
end Go.Proofs.YthfpekhpeiebjaaGreatDoor
end
