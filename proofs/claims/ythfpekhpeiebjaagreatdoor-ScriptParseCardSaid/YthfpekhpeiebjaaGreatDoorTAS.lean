/- Joined texts: XG, SS, KN, LL, SE. -/
import Derived.Test.YthfpekhpeiebjaaGreatDoorTAR
set_option linter.unusedSimpArgs false
set_option linter.unusedVariables false
namespace Go.Sx
open Go
def cfAS (g s k sz sl of gp lt ea : Int) (d : Bool) : List SV := [.io .i64 g, .io .i64 s, .io .i64 k, .io .i64 sz, .io .i64 sl, .io .i64 of, .io .i64 gp, .io .i64 lt, .io .i64 ea, .bo d]
def cwAS (g s k sz sl of gp lt ea : Int) (d : Bool) (wk : Int) (A : Option Addr) (n c : Nat) : List SV := [.io .i64 g, .io .i64 s, .io .i64 k, .io .i64 sz, .io .i64 sl, .io .i64 of, .io .i64 gp, .io .i64 lt, .io .i64 ea, .bo d, .io .i64 wk, .sl A n c]
def zAS0 : List SV := [.v (.int .i64 2), .v (.int .i64 0), .v (.string (ByteArray.mk #[])), .v (.int .i64 0), .v (.int .i64 0), .v (.int .i64 0), .v (.int .i64 1), .v (.int .i64 0), .v (.int .i64 0), .v (.int IntKind.u32 0), .v (.int .i64 1), .v (.int .i64 1), .v (.string (ByteArray.mk #[97])), .v (.int .i64 5), .v (.int .i64 (-1)), .v (.int .i64 0), .v (.int .i64 0), .v (.int .i64 0), .v (.int .i64 0), .v (.int IntKind.u32 0)]
def zAS1 : List SV := [.agg [.v (.int .i64 0), .v (.int .i64 0), .v (.int .i64 0), .v (.int .i64 0), .v (.int .i64 0), .v (.int .i64 0), .v (.int .i64 0), .v (.int .i64 0), .v (.int .i64 0), .v (.bool false), .v (.int .i64 0), .v (.slice none 0 0)], .io .i64 0, .v (.bool false)]
def zAS2 : List SV := [.agg [.v (.int .i64 0), .v (.int .i64 0), .v (.int .i64 0), .v (.int .i64 0), .v (.int .i64 0), .v (.int .i64 0), .v (.int .i64 0), .v (.int .i64 0), .v (.int .i64 0), .v (.bool false), .v (.int .i64 0), .v (.slice none 0 0)], .io .i64 1, .v (.bool false)]
def zAS3 : List SV := [.v (.int .i64 0), .v (.int .i64 0), .v (.int .i64 0), .v (.int .i64 0), .v (.int .i64 0), .v (.int .i64 0), .v (.int .i64 0), .v (.int .i64 0), .v (.int .i64 0), .v (.bool false), .v (.int .i64 0), .v (.slice none 0 0)]
def zAS4 : List SV := [.agg [.v (.int .i64 0), .v (.int .i64 0), .v (.int .i64 0), .v (.int .i64 0), .v (.int .i64 0), .v (.int .i64 0), .v (.int .i64 0), .v (.int .i64 0), .v (.int .i64 0), .v (.bool false)], .v (.bool false)]
def zAS5 : List SV := [.v (.int .i64 0), .v (.int .i64 0), .v (.string (ByteArray.mk #[])), .v (.int .i64 0), .v (.int .i64 0), .v (.int .i64 0), .v (.int .i64 0), .v (.int .i64 0), .v (.int .i64 0), .v (.int IntKind.u32 0)]
def zAS6 : List SV := [.v (.int .i64 4), .v (.int .i64 2), .v (.int .i64 1), .v (.int .i64 10), .v (.int .i64 0), .v (.int .i64 0), .v (.int .i64 0), .v (.int .i64 0), .v (.int .i64 0), .v (.bool false)]
def zAS7 : List SV := [.io .i64 0, .io .i64 0, .io .i64 0, .io .i64 0, .io .i64 0, .io .i64 0, .io .i64 0, .io .i64 0, .io .i64 0, .bo false, .io .i64 0, .sl none 0 0]
def pAS8 : List Nat := [1, 1, 1, 1, 0, 4, 4, 1, 4, 1, 1, 1, 1, 0, 4, 1, 3, 1, 3, 1, 2, 1, 1, 1, 1, 2]
def pAS9 : List Nat := [1, 1, 1, 1, 0, 4, 4, 1, 4, 1, 1, 1, 1, 0, 4, 1, 3, 1, 3, 1, 2, 1, 1, 1]
def pAS10 : List Nat := [1, 1, 1, 1, 0, 4, 4, 1, 4, 1, 1, 1, 1, 0, 4, 1, 3, 1, 3, 1, 2, 1, 0]
def pAS11 : List Nat := [1, 1, 1, 1, 0, 4, 4, 1, 4, 1, 1, 1, 1, 0, 4, 1, 3, 1, 3, 1, 2, 1, 1]
def pAS12 : List Nat := [1, 1, 1, 1, 0, 4, 4, 1, 4, 1, 1, 1, 1, 0, 4, 1, 3, 1, 3, 1, 3, 1, 1]
def pAS13 : List Nat := [1, 1, 1, 1, 0, 4, 4, 1, 4, 1, 1, 1, 1, 0, 4, 1, 3, 1, 2, 1, 0]
def pAS14 : List Nat := [1, 1, 1, 1, 0, 4, 4, 1, 4, 1, 1, 1, 1, 0, 4, 1, 3, 1, 2, 1, 1]
def pAS15 : List Nat := [1, 1, 1, 1, 0, 4, 4, 1, 4, 1, 1, 1, 1, 0, 4, 1]
def pAS16 : List Nat := [1, 1, 1, 1, 0, 4, 4, 1, 4, 1, 1, 1, 1, 1, 0, 1]
def pAS17 : List Nat := [1, 1, 1, 1, 0, 4, 4, 1, 4, 1, 0, 4, 4, 0, 0]
def pAS18 : List Nat := [1, 1, 1, 1, 0, 4, 4, 1, 4, 1, 0, 4, 4, 0, 1]
def pAS19 : List Nat := [1, 1, 1, 1, 0, 4, 4, 1, 4, 1, 1, 1, 1, 1, 1]
def pAS20 : List Nat := [1, 1, 1, 1, 0, 4, 4, 1, 4, 1, 0, 4, 4, 1]
def pAS21 : List Nat := [1, 1, 1, 1, 0, 4, 4, 1, 4, 1, 1, 1, 1, 1]
def pAS22 : List Nat := [1, 1, 1, 1, 0, 4, 4, 1, 4, 1, 1]
def pAS23 : List Nat := [1, 1, 0, 1, 4, 4, 1, 0, 4, 1]
def pAS24 : List Nat := [1, 1, 0, 1, 4, 4, 1, 1]
def pAS25 : List Nat := [1, 1, 1, 1, 1]
end Go.Sx
section
namespace Go.Proofs.YthfpekhpeiebjaaGreatDoor
open Go.RowKit Go.Sx
def scX (c : Cf) (wk : Int) (A : Option Addr) (n cap : Nat) : List SV := [.io .i64 c.g, .io .i64 c.s, .io .i64 c.k, .io .i64 c.sz, .io .i64 c.sl, .io .i64 c.of, .io .i64 c.gp, .io .i64 c.lt, .io .i64 c.ea, .bo c.d, .io .i64 wk, .sl A n cap]
def zstS : St := ⟨0, 0, [], 0, 0, 0, 0, 0, 0, 0⟩
structure PXS where
 fr : Nat
 n : Nat
 c : Cf
 wk : Int
 A : Option Addr
 cap : Nat
 xs : List St
structure PI1 where
 i : Nat
def PXI (t : List UInt8) (R : FO) (x : PXS) : Prop := runL (cutsP (t.drop x.fr)) x.n x.c x.wk x.xs = R ∧ x.fr ≤ t.length ∧ x.n ≤ x.fr ∧ x.xs.length ≤ x.n ∧ True
theorem in64_zero : True := trivial
def parseRE (w : World) (fo : FO) (e : Ending) (w' : World) : Prop :=
 if fo.ok then ∃ A' c', e = .returned (.tuple #[.agg (fo.c.w ++ [Value.int .i64 fo.wk, Value.slice A' fo.xs.length c']).toArray, .int .i64 (fo.n : Int), .bool true]) ∧ RowF w (fun _ => False) [] w.heap.size 41 10 A' fo.xs.length c' (stW fo.xs) [] w'
 else e = .returned (.tuple #[zscr, .int .i64 (fo.n : Int), .bool false]) ∧ Below w.heap.size w w'
theorem beh_no {s wd : List UInt8} (h : behP s wd = none) : Lib.hasPrefix s (wd ++ [32]) = false := by
 unfold behP at h
 split at h
 ·cases h
 rename_i h0
 simpa using h0
theorem beh_is {s wd r : List UInt8} (h : behP s wd = some r) : Lib.hasPrefix s (wd ++ [32]) = true ∧ Lib.trimPrefix s (wd ++ [32]) = r := by
 unfold behP at h
 split at h
 ·rename_i h0
  injection h with h
  exact ⟨h0, h⟩
 cases h
theorem step2_bad {ln : List UInt8} {n : Nat} {c : Cf} {wk : Int} {xs : List St} (h : okS c ln = none) : stepR ln true (n + 2) c wk xs = .ret := by
 unfold okS at h
 cases hs : stepP ln with
 | none => exact step2_none hs
 | some x =>
  rw [hs] at h
  simp only at h
  split at h
  ·cases h
  rename_i hm
  exact step2_no hs (by simpa using hm)
theorem step2_go {ln : List UInt8} {n : Nat} {c : Cf} {wk : Int} {xs : List St} {x : St} (h : okS c ln = some x) : stepR ln true (n + 2) c wk xs = .go (n + 3) c wk (xs ++ [x]) := by
 unfold okS at h
 cases hs : stepP ln with
 | none => rw [hs] at h; cases h
 | some y =>
  rw [hs] at h
  simp only at h
  split at h
  ·rename_i hm
   injection h with h
   subst h
   exact step2_ok hs hm
  cases h
theorem cuts_of {l ln rs : List UInt8} {en : Bool} (hl : l ≠ []) (h : cutN l = (ln, rs, en)) : cutsP l = (ln, en) :: cutsP rs := by
 cases l with
 | nil => exact absurd rfl hl
 | cons c r => exact cutsP_cons h
theorem mem_mid {t : List UInt8} {fr i : Nat} {b : UInt8} (hb : b ∈ (t.take i).drop fr) : ∃ j, fr ≤ j ∧ j < i ∧ t[j]? = some b := by
 obtain ⟨q, hq⟩ := List.getElem?_of_mem hb
 rw [List.getElem?_drop] at hq
 have h1 := (List.getElem?_eq_some_iff.1 hq).1
 rw [List.length_take] at h1
 rw [List.getElem?_take_of_lt (by omega)] at hq
 exact ⟨fr + q, by omega, by omega, hq⟩
theorem cuts_line {t : List UInt8} {fr i : Nat} (h1 : fr ≤ i) (hz : t[i]? = some 10) (hno : ∀ j, fr ≤ j → j < i → t[j]? ≠ some 10) : cutsP (t.drop fr) = ((t.take i).drop fr, true) :: cutsP (t.drop (i + 1)) := by
 have hi := (List.getElem?_eq_some_iff.1 hz).1
 have e : t.drop fr = (t.take i).drop fr ++ 10 :: t.drop (i + 1) := by
  rw [← drop_at hz]
  conv => lhs; rw [← List.take_append_drop i t]
  rw [List.drop_append_of_le_length (by rw [List.length_take]; omega)]
 refine cuts_of (by rw [e]; simp) ?_
 rw [e]
 exact cutN_hit _ _ fun b hb => by
  obtain ⟨j, hj1, hj2, hj3⟩ := mem_mid hb
  intro e2
  subst e2
  exact hno j hj1 hj2 hj3
theorem cuts_rest {t : List UInt8} {fr : Nat} (hfr : fr < t.length) (hno : ∀ j, fr ≤ j → j < t.length → t[j]? ≠ some 10) : ∃ rs, cutsP (t.drop fr) = (t.drop fr, false) :: rs := by
 refine ⟨_, cuts_of (fun h => ?_) (cutN_none _ fun b hb => ?_)⟩
 ·have := congrArg List.length h
  rw [List.length_drop, List.length_nil] at this
  omega
 obtain ⟨j, hj1, hj2, hj3⟩ := mem_mid (t := t) (fr := fr) (i := t.length) (by rw [List.take_length]; exact hb)
 intro e2
 subst e2
 exact hno j hj1 hj2 hj3
section
variable {Q : Exit → Act → World → Prop} {N : Nat} {w0 : World} {ntm : Nat} {F : List Nat → World → Prop}
theorem sslM {s : S} (x : List UInt8) (a b : Nat) (hq : sslI Tryz.prog ntm s = some (mkB x, (a : Int), some (b : Int))) (hab : a ≤ b) (hb : b ≤ x.length) (hF : Stable F) (h : At Tryz.prog Q N w0 ntm F (s.tail ntm (.so (mkB ((x.take b).drop a))))) : At Tryz.prog Q N w0 ntm F s := by
 refine At.ssl (mkB x) (a : Int) (some (b : Int)) hq (by omega) (by rw [Option.getD_some]; omega) (by rw [Option.getD_some, mkB_size]; omega) hF ?_
 rw [Option.getD_some, Int.toNat_natCast, Int.toNat_natCast]
 have e : (mkB x).extract a b = mkB ((x.take b).drop a) := by
  apply ByteArray.ext
  rw [ByteArray.data_extract]
  apply Array.ext'
  simp only [mkB, Array.toList_extract, List.extract_eq_take_drop, List.drop_take]
 rw [e]
 exact h
end
noncomputable def B10 : Code := (Tryz.f10.body).getD .skip
noncomputable def sq10 (p : List Nat) : Go.Sx.K := .seq (sub B10 p)
set_option maxHeartbeats 20000000 in
set_option maxRecDepth 100000 in
theorem rparse_any (t : List UInt8) (ht : t.length ≤ 1048576) (w : World) :
  Calls Tryz.prog 10 #[.string (mkB t)] w (parseRE w (parseS t)) := by
 refine enterF (N := w.heap.size) (F := Rws w.heap.size []) (fn := Tryz.f10) (c := B10) [.so (mkB t)] Tryz.func10 rfl rfl (Nat.le_refl _) (Rws.none _ _ _) ?_
 refine zT Rws.stable Rws.fewer [0, 2, 5, 6, 7] 2 ⟨.code (sub B10 [1, 1, 1, 1, 0, 4]), [.block 0, (sq10 pAS25)], [(0, .so (mkB t)), (2, .lp 0 0), (5, .lp 1 0), (6, .v (.int .i64 0)), (7, .v (.int .i64 0))], [(zAS3, 28), (zAS3, 28)]⟩ ?_
 generalize hR : parseS t = R
 refine At.canonT [6, 7] _ rfl ?_
 refine At.canL _ rfl ?_
 refine At.slLoc _ rfl ?_
 refine At.loop (σ := PXS) (sub B10 [1, 1, 1, 1, 0, 4, 4]) (fun x => [(0, .so (mkB t)), (2, .lp 0 0), (5, .lp 1 0), (6, .io .i64 (x.n : Int)), (7, .io .i64 (x.fr : Int))]) (fun x => [(scX cf0 0 none 0 0, 28), (scX x.c x.wk x.A x.xs.length x.cap, 28)]) (fun x ρ w1 => Rws w.heap.size [⟨41, 10, x.A, x.xs.length, x.cap, stW x.xs⟩] ρ w1 ∧ PXI t R x) (fun x => t.length - x.fr) ⟨0, 0, cf0, 0, none, 0, []⟩ (by kernel_rfl) (by unfold subFr; kernel_rfl) (by kernel_rfl) (fun _ _ _ _ h => ⟨h.nil 41 10, hR, Nat.zero_le _, Nat.le_refl _, Nat.le_refl _, in64_zero⟩) ?_
 clear hR
 rintro ⟨fr, n, ⟨g, s, k, sz, sl, of, gp, lt, ea, d⟩, wk, A, cap, xs⟩
 refine At.pure fun ⟨h1, h2, h3, h4, h5⟩ => ?_
 simp only at h1 h2 h3 h4 h5
 dsimp only
 refine zTq Rws.stable Rws.fewer [0, 2, 5, 6, 7, 24] 2 ?_
 rcases zB (decide ((↑fr : Int) < (↑(mkB t).size : Int))) with b0 | b0
 ·refine zR 24 b0 ?_
  let kn2 : K := .next (Sx.Next w.heap.size w Tryz.f10.ntmps (fun x => [(0, .so (mkB t)), (2, .lp 0 0), (5, .lp 1 0), (6, .io .i64 (↑x.n : Int)), (7, .io .i64 (↑x.fr : Int))]) (fun x => [(scX cf0 0 none 0 0, 28), (scX x.c x.wk x.A x.xs.length x.cap, 28)]) (fun x ρ w1 => Rws w.heap.size [Rw.mk 41 10 x.A x.xs.length x.cap (stW x.xs)] ρ w1 ∧ PXI t R x) (fun x => t.length - x.fr) (PXS.mk fr n (Cf.mk g s k sz sl of gp lt ea d) wk A cap xs))
  refine zT Rws.stable Rws.fewer [0, 2, 5, 6, 7, 8] 2 ⟨.code (sub B10 [1, 1, 1, 1, 0, 4, 4, 1, 4, 1, 0, 4]), [.block 2, (sq10 pAS22), .block 1, kn2, .block 0, (sq10 pAS25)], [(0, .so (mkB t)), (2, .lp 0 0), (5, .lp 1 0), (6, .io .i64 (↑n : Int)), (7, .io .i64 (↑fr : Int)), (8, .io .i64 (↑fr : Int))], [(zAS7, 28), ((cwAS g s k sz sl of gp lt ea d wk A xs.length cap), 28)]⟩ ?_
  have hfr : fr < t.length := by have := of_decide_eq_true b0; rw [mkB_size] at this; omega
  clear b0
  refine At.loop (σ := PI1) (sub B10 [1, 1, 1, 1, 0, 4, 4, 1, 4, 1, 0, 4, 4]) (fun x => [(0, .so (mkB t)), (2, .lp 0 0), (5, .lp 1 0), (6, .io .i64 (n : Int)), (7, .io .i64 (fr : Int)), (8, .io .i64 (x.i : Int))]) (fun _ => [(scX cf0 0 none 0 0, 28), ((cwAS g s k sz sl of gp lt ea d wk A xs.length cap), 28)]) (fun x ρ w1 => Rws w.heap.size [⟨41, 10, A, xs.length, cap, stW xs⟩] ρ w1 ∧ (fr ≤ x.i ∧ x.i ≤ t.length ∧ ∀ j, fr ≤ j → j < x.i → t[j]? ≠ some 10)) (fun x => t.length - x.i) ⟨fr⟩ (by kernel_rfl) (by unfold subFr; kernel_rfl) (by kernel_rfl) (fun _ _ _ _ h => ⟨h, Nat.le_refl _, h2, fun j hj hk => absurd hj (Nat.not_le.2 hk)⟩) ?_
  rintro ⟨i⟩
  refine At.pure fun ⟨q1, q2, q3⟩ => ?_
  simp only at q1 q2 q3
  dsimp only
  refine zTq Rws.stable Rws.fewer [0, 2, 5, 6, 7, 8, 30] 2 ?_
  rcases zB (decide ((↑i : Int) < (↑(mkB t).size : Int))) with b0 | b0
  ·refine zR 30 b0 ?_
   let kn0 : K := .next (Sx.Next w.heap.size w Tryz.f10.ntmps (fun x => [(0, .so (mkB t)), (2, .lp 0 0), (5, .lp 1 0), (6, .io .i64 (↑n : Int)), (7, .io .i64 (↑fr : Int)), (8, .io .i64 (↑x.i : Int))]) (fun x => [(scX cf0 0 none 0 0, 28), ((cwAS g s k sz sl of gp lt ea d wk A xs.length cap), 28)]) (fun x ρ w1 => Rws w.heap.size [Rw.mk 41 10 A xs.length cap (stW xs)] ρ w1 ∧ fr ≤ x.i ∧ x.i ≤ t.length ∧ ∀ (j : Nat), fr ≤ j → j < x.i → t[j]? ≠ some 10) (fun x => t.length - x.i) (PI1.mk i))
   refine zT Rws.stable Rws.fewer [0, 2, 5, 6, 7, 8, 30, 31, 32] 2 ⟨pops B10 pAS17 7, [(sq10 pAS18), (sq10 pAS20), kn0, .block 2, (sq10 pAS22), .block 1, kn2, .block 0, (sq10 pAS25)], [(0, .so (mkB t)), (2, .lp 0 0), (5, .lp 1 0), (6, .io .i64 (↑n : Int)), (7, .io .i64 (↑fr : Int)), (8, .io .i64 (↑i : Int)), (30, .v (.bool true)), (31, .so (mkB t)), (32, .io .i64 (↑i : Int))], [(zAS7, 28), ((cwAS g s k sz sl of gp lt ea d wk A xs.length cap), 28)]⟩ ?_
   have hi : i < t.length := by have := of_decide_eq_true b0; rw [mkB_size] at this; omega
   have hsz := b0
   obtain ⟨y, hz⟩ : ∃ y, t[i]? = some y := ⟨_, List.getElem?_eq_getElem hi⟩
   have hy := y.toNat_lt
   refine At.six (mkB t) (i : Int) y (by kernel_rfl) (by omega) (by rw [Int.toNat_natCast]; exact hz) Rws.stable ?_
   refine zTq Rws.stable Rws.fewer [0, 2, 5, 6, 7, 8, 35] 2 ?_
   rcases zB ((↑y.toNat : Int) != 10) with b0 | b0
   ·refine zR 35 b0 ?_
    refine zT Rws.stable Rws.fewer [0, 2, 5, 6, 7, 8] 2 ⟨.exit .normal, [kn0, .block 2, (sq10 pAS22), .block 1, kn2, .block 0, (sq10 pAS25)], [(0, .so (mkB t)), (2, .lp 0 0), (5, .lp 1 0), (6, .io .i64 (↑n : Int)), (7, .io .i64 (↑fr : Int)), (8, .io .i64 (IntKind.i64.wrap ((↑i : Int) + 1)))], [(zAS7, 28), ((cwAS g s k sz sl of gp lt ea d wk A xs.length cap), 28)]⟩ ?_
    have hy10 : y ≠ 10 := fun e => by subst e; simp at b0
    have hw3 : IntKind.i64.wrap ((i : Int) + 1) = ((i + 1 : Nat) : Int) := by
     rw [wrap63 (by omega) (by omega)]
     omega
    rw [hw3]
    refine At.next (σ := PI1) ⟨i + 1⟩ rfl rfl (by unfold subFr; kernel_rfl) (by kernel_rfl) (fun _ _ _ _ h => ⟨h, (by show fr ≤ i + 1; omega), (by show i + 1 ≤ t.length; omega), fun j hj hk => ?_⟩) ?_
    ·simp only at hk
     by_cases e : j = i
     ·subst e
      rw [hz]
      intro e2
      injection e2 with e2
      exact hy10 e2
     exact q3 j hj (by omega)
    show t.length - (i + 1) < t.length - i
    omega
   refine zR 35 b0 ?_
   refine zT Rws.stable Rws.fewer [0, 2, 5, 6, 8, 38, 39, 40] 2 ⟨pops B10 [1, 1, 1, 1, 0, 4, 4, 1, 4, 1, 1, 0] 3, [(sq10 [1, 1, 1, 1, 0, 4, 4, 1, 4, 1, 1, 1]), .block 1, kn2, .block 0, (sq10 pAS25)], [(0, .so (mkB t)), (2, .lp 0 0), (5, .lp 1 0), (6, .io .i64 (↑n : Int)), (8, .io .i64 (↑i : Int)), (38, .so (mkB t)), (39, .io .i64 (↑fr : Int)), (40, .io .i64 (↑i : Int))], [(zAS7, 28), ((cwAS g s k sz sl of gp lt ea d wk A xs.length cap), 28)]⟩ ?_
   have hy10 : y = 10 := UInt8.toNat_inj.1 (by simp at b0; show y.toNat = 10; omega)
   subst hy10
   refine sslM t fr i (by kernel_rfl) q1 q2 Rws.stable ?_
   have hc := cuts_line q1 hz q3
   generalize hln : (t.take i).drop fr = ln at hc ⊢
   have hlnl : ln.length ≤ t.length := by rw [← hln, List.length_drop, List.length_take]; omega
   rw [hc, runL_cons] at h1
   have hw3 : IntKind.i64.wrap ((i : Int) + 1) = ((i + 1 : Nat) : Int) := by
    rw [wrap63 (by omega) (by omega)]
    omega
   have hw4 : IntKind.i64.wrap ((n : Int) + 1) = ((n + 1 : Nat) : Int) := by
    rw [wrap63 (by omega) (by omega)]
    omega
   have hnt : (!decide ((i : Int) < ((mkB t).size : Int))) = false := by rw [hsz]; rfl
   clear b0 hz hy q3 hc
   refine zTq Rws.stable Rws.fewer [0, 2, 5, 6, 8, 9, 10, 60] 2 ?_
   refine zR 60 hnt ?_
   refine zT Rws.stable Rws.fewer [0, 2, 5, 6, 8, 9, 63] 2 ⟨.code (sub B10 [1, 1, 1, 1, 0, 4, 4, 1, 4, 1, 1, 1, 1, 0, 4, 1, 3, 1]), [.block 4, (sq10 pAS21), .block 1, kn2, .block 0, (sq10 pAS25)], [(0, .so (mkB t)), (2, .lp 0 0), (5, .lp 1 0), (6, .io .i64 (↑n : Int)), (8, .io .i64 (↑i : Int)), (9, .so (mkB ln)), (63, .bo ((↑n : Int) == 0))], [(zAS7, 28), ((cwAS g s k sz sl of gp lt ea d wk A xs.length cap), 28)]⟩ ?_
   rcases zB ((↑n : Int) == 0) with b0 | b0
   ·refine zR 63 b0 ?_
    refine zT Rws.stable Rws.fewer [0, 2, 5, 6, 8, 9, 67] 2 ⟨pops B10 [1, 1, 1, 1, 0, 4, 4, 1, 4, 1, 1, 1, 1, 0, 4, 1, 3, 1, 2, 0] 1, [(sq10 [1, 1, 1, 1, 0, 4, 4, 1, 4, 1, 1, 1, 1, 0, 4, 1, 3, 1, 2, 1]), .block 4, (sq10 pAS21), .block 1, .next (Sx.Next w.heap.size w Tryz.f10.ntmps (fun x => [(0, .so (mkB t)), (2, .lp 0 0), (5, .lp 1 0), (6, .io .i64 (↑x.n : Int)), (7, .io .i64 (↑x.fr : Int))]) (fun x => [(scX cf0 0 none 0 0, 28), (scX x.c x.wk x.A x.xs.length x.cap, 28)]) (fun x ρ w1 => Rws w.heap.size [Rw.mk 41 10 x.A x.xs.length x.cap (stW x.xs)] ρ w1 ∧ PXI t R x) (fun x => t.length - x.fr) (PXS.mk fr n (Cf.mk g s k sz sl of gp lt ea d) wk A cap xs)), .block 0, (sq10 pAS25)], [(0, .so (mkB t)), (2, .lp 0 0), (5, .lp 1 0), (6, .io .i64 (↑n : Int)), (8, .io .i64 (↑i : Int)), (9, .so (mkB ln)), (67, .so (mkB ln))], [(zAS7, 28), ((cwAS g s k sz sl of gp lt ea d wk A xs.length cap), 28)]⟩ ?_
    obtain rfl : n = 0 := by have := b0; simp at this; omega
    cases hb : behP ln [106, 111, 98] with
    | none =>
     refine zC Rws.stable 32 [.so (mkB ln), .v (.string ⟨#[106, 111, 98]⟩)] (.tup [.v (.string ⟨#[]⟩), .v (.bool false)]) (fun _ _ w1 _ _ => (behind_any ln [106, 111, 98] (by omega) (by decide) w1).mono fun e w2 h => by rw [hb] at h; exact h) ?_
     refine zT Rws.stable Rws.fewer [0, 2, 5, 6, 8, 12, 72] 2 ⟨pops B10 pAS13 1, [(sq10 pAS14), .block 4, (sq10 pAS21), .block 1, .next (Sx.Next w.heap.size w Tryz.f10.ntmps (fun x => [(0, .so (mkB t)), (2, .lp 0 0), (5, .lp 1 0), (6, .io .i64 (↑x.n : Int)), (7, .io .i64 (↑x.fr : Int))]) (fun x => [(scX cf0 0 none 0 0, 28), (scX x.c x.wk x.A x.xs.length x.cap, 28)]) (fun x ρ w1 => Rws w.heap.size [Rw.mk 41 10 x.A x.xs.length x.cap (stW x.xs)] ρ w1 ∧ PXI t R x) (fun x => t.length - x.fr) (PXS.mk fr 0 (Cf.mk g s k sz sl of gp lt ea d) wk A cap xs)), .block 0, (sq10 pAS25)], [(0, .so (mkB t)), (2, .lp 0 0), (5, .lp 1 0), (6, .io .i64 0), (8, .io .i64 (↑i : Int)), (12, .v (.bool false)), (72, .v (.string (ByteArray.mk #[])))], [(zAS7, 28), ((cwAS g s k sz sl of gp lt ea d wk A xs.length cap), 28)]⟩ ?_
     refine zC Rws.stable 33 [.v (.string ⟨#[]⟩)] (.tup zAS4) (fun _ _ w1 _ _ => rreadj_any [] (by decide) w1) ?_
     refine zT Rws.stable Rws.fewer [2, 3, 4] 1 ⟨.exit .ret, [], [(2, .lp 0 0), (3, .io .i64 0), (4, .v (.bool false))], [(zAS3, 28)]⟩ ?_
     refine zE (.tup zAS1) ?_
     rw [step0_no (beh_no hb)] at h1
     intro ρ w9 hm hf
     rw [← h1]
     show parseRE w ⟨0, ⟨g, s, k, sz, sl, of, gp, lt, ea, d⟩, wk, xs, some false⟩ _ _
     unfold parseRE
     rw [if_neg (by simp [FO.ok])]
     exact ⟨rfl, hm.below⟩
    | some rst =>
     refine zC Rws.stable 32 [.so (mkB ln), .v (.string ⟨#[106, 111, 98]⟩)] (.tup [.so (mkB rst), .v (.bool true)]) (fun _ _ w1 _ _ => (behind_any ln [106, 111, 98] (by omega) (by decide) w1).mono fun e w2 h => by rw [hb] at h; exact h) ?_
     have hrl := beh_len hb
     refine zT Rws.stable Rws.fewer [0, 2, 5, 6, 8, 12, 72] 2 ⟨pops B10 pAS13 1, [(sq10 pAS14), .block 4, (sq10 pAS21), .block 1, .next (Sx.Next w.heap.size w Tryz.f10.ntmps (fun x => [(0, .so (mkB t)), (2, .lp 0 0), (5, .lp 1 0), (6, .io .i64 (↑x.n : Int)), (7, .io .i64 (↑x.fr : Int))]) (fun x => [(scX cf0 0 none 0 0, 28), (scX x.c x.wk x.A x.xs.length x.cap, 28)]) (fun x ρ w1 => Rws w.heap.size [Rw.mk 41 10 x.A x.xs.length x.cap (stW x.xs)] ρ w1 ∧ PXI t R x) (fun x => t.length - x.fr) (PXS.mk fr 0 (Cf.mk g s k sz sl of gp lt ea d) wk A cap xs)), .block 0, (sq10 pAS25)], [(0, .so (mkB t)), (2, .lp 0 0), (5, .lp 1 0), (6, .io .i64 0), (8, .io .i64 (↑i : Int)), (12, .v (.bool true)), (72, .so (mkB rst))], [(zAS7, 28), ((cwAS g s k sz sl of gp lt ea d wk A xs.length cap), 28)]⟩ ?_
     cases hk : cfgP rst with
     | none =>
      refine zC Rws.stable 33 [.so (mkB rst)] (.tup zAS4) (fun _ _ w1 _ _ => (rreadj_any rst (by omega) w1).mono fun e w2 h => by rw [hk] at h; exact h) ?_
      refine zT Rws.stable Rws.fewer [2, 3, 4] 1 ⟨.exit .ret, [], [(2, .lp 0 0), (3, .io .i64 0), (4, .v (.bool false))], [(zAS3, 28)]⟩ ?_
      refine zE (.tup zAS1) ?_
      rw [step0_bad ((congrArg cfgP (beh_is hb).2).trans hk)] at h1
      intro ρ w9 hm hf
      rw [← h1]
      show parseRE w ⟨0, ⟨g, s, k, sz, sl, of, gp, lt, ea, d⟩, wk, xs, some false⟩ _ _
      unfold parseRE
      rw [if_neg (by simp [FO.ok])]
      exact ⟨rfl, hm.below⟩
     | some c2 =>
      obtain ⟨g2, s2, k2, sz2, sl2, of2, gp2, lt2, ea2, d2⟩ := c2
      refine zC Rws.stable 33 [.so (mkB rst)] (.tup [.agg (cfAS g2 s2 k2 sz2 sl2 of2 gp2 lt2 ea2 d2), .v (.bool true)]) (fun _ _ w1 _ _ => (rreadj_any rst (by omega) w1).mono fun e w2 h => by rw [hk] at h; exact h) ?_
      refine zT Rws.stable Rws.fewer [0, 2, 5, 6, 7, 8] 2 ⟨.exit .normal, [.next (Sx.Next w.heap.size w Tryz.f10.ntmps (fun x => [(0, .so (mkB t)), (2, .lp 0 0), (5, .lp 1 0), (6, .io .i64 (↑x.n : Int)), (7, .io .i64 (↑x.fr : Int))]) (fun x => [(scX cf0 0 none 0 0, 28), (scX x.c x.wk x.A x.xs.length x.cap, 28)]) (fun x ρ w1 => Rws w.heap.size [Rw.mk 41 10 x.A x.xs.length x.cap (stW x.xs)] ρ w1 ∧ PXI t R x) (fun x => t.length - x.fr) (PXS.mk fr 0 (Cf.mk g s k sz sl of gp lt ea d) wk A cap xs)), .block 0, (sq10 pAS25)], [(0, .so (mkB t)), (2, .lp 0 0), (5, .lp 1 0), (6, .io .i64 1), (7, .io .i64 (IntKind.i64.wrap ((↑i : Int) + 1))), (8, .io .i64 (↑i : Int))], [(zAS7, 28), ((cwAS g2 s2 k2 sz2 sl2 of2 gp2 lt2 ea2 d2 wk A xs.length cap), 28)]⟩ ?_
      rw [step0_ok (beh_is hb).1 ((congrArg cfgP (beh_is hb).2).trans hk)] at h1
      rw [hw3]
      try rw [show IntKind.i64.wrap (((0 : Nat) : Int) + 1) = ((1 : Nat) : Int) from by decide]
      refine At.canL _ rfl ?_
      refine At.slLoc _ rfl ?_
      refine At.next (σ := PXS) ⟨i + 1, 1, ⟨g2, s2, k2, sz2, sl2, of2, gp2, lt2, ea2, d2⟩, wk, A, cap, xs⟩ rfl rfl (by unfold subFr; kernel_rfl) (by kernel_rfl) (fun _ _ _ _ h => ⟨h, h1, (show i + 1 ≤ t.length by omega), (show 1 ≤ i + 1 by omega), (show (xs : List St).length ≤ 1 by omega), h5⟩) ?_
      show t.length - (i + 1) < t.length - fr
      omega
   refine zR 63 b0 ?_
   refine zTq Rws.stable Rws.fewer [0, 2, 5, 6, 8, 9, 82] 2 ?_
   rcases zB ((↑n : Int) == 1) with b1 | b1
   ·refine zR 82 b1 ?_
    refine zT Rws.stable Rws.fewer [0, 2, 5, 6, 8, 9, 86] 2 ⟨pops B10 [1, 1, 1, 1, 0, 4, 4, 1, 4, 1, 1, 1, 1, 0, 4, 1, 3, 1, 3, 1, 2, 0] 1, [(sq10 [1, 1, 1, 1, 0, 4, 4, 1, 4, 1, 1, 1, 1, 0, 4, 1, 3, 1, 3, 1, 2, 1]), .block 4, (sq10 pAS21), .block 1, .next (Sx.Next w.heap.size w Tryz.f10.ntmps (fun x => [(0, .so (mkB t)), (2, .lp 0 0), (5, .lp 1 0), (6, .io .i64 (↑x.n : Int)), (7, .io .i64 (↑x.fr : Int))]) (fun x => [(scX cf0 0 none 0 0, 28), (scX x.c x.wk x.A x.xs.length x.cap, 28)]) (fun x ρ w1 => Rws w.heap.size [Rw.mk 41 10 x.A x.xs.length x.cap (stW x.xs)] ρ w1 ∧ PXI t R x) (fun x => t.length - x.fr) (PXS.mk fr n (Cf.mk g s k sz sl of gp lt ea d) wk A cap xs)), .block 0, (sq10 pAS25)], [(0, .so (mkB t)), (2, .lp 0 0), (5, .lp 1 0), (6, .io .i64 (↑n : Int)), (8, .io .i64 (↑i : Int)), (9, .so (mkB ln)), (86, .so (mkB ln))], [(zAS7, 28), ((cwAS g s k sz sl of gp lt ea d wk A xs.length cap), 28)]⟩ ?_
    obtain rfl : n = 1 := by have := b1; simp at this; omega
    cases hb : behP ln [119, 111, 114, 107, 101, 114, 115] with
    | none =>
     refine zC Rws.stable 32 [.so (mkB ln), .v (.string ⟨#[119, 111, 114, 107, 101, 114, 115]⟩)] (.tup [.v (.string ⟨#[]⟩), .v (.bool false)]) (fun _ _ w1 _ _ => (behind_any ln [119, 111, 114, 107, 101, 114, 115] (by omega) (by decide) w1).mono fun e w2 h => by rw [hb] at h; exact h) ?_
     refine zT Rws.stable Rws.fewer [0, 2, 5, 6, 8, 16, 91] 2 ⟨pops B10 pAS10 1, [(sq10 pAS11), .block 4, (sq10 pAS21), .block 1, .next (Sx.Next w.heap.size w Tryz.f10.ntmps (fun x => [(0, .so (mkB t)), (2, .lp 0 0), (5, .lp 1 0), (6, .io .i64 (↑x.n : Int)), (7, .io .i64 (↑x.fr : Int))]) (fun x => [(scX cf0 0 none 0 0, 28), (scX x.c x.wk x.A x.xs.length x.cap, 28)]) (fun x ρ w1 => Rws w.heap.size [Rw.mk 41 10 x.A x.xs.length x.cap (stW x.xs)] ρ w1 ∧ PXI t R x) (fun x => t.length - x.fr) (PXS.mk fr 1 (Cf.mk g s k sz sl of gp lt ea d) wk A cap xs)), .block 0, (sq10 pAS25)], [(0, .so (mkB t)), (2, .lp 0 0), (5, .lp 1 0), (6, .io .i64 1), (8, .io .i64 (↑i : Int)), (16, .v (.bool false)), (91, .v (.string (ByteArray.mk #[])))], [(zAS7, 28), ((cwAS g s k sz sl of gp lt ea d wk A xs.length cap), 28)]⟩ ?_
     cases hnp : numsP [] 1 with
     | none =>
      refine zC Rws.stable 34 [.v (.string ⟨#[]⟩), .v (.int .i64 1)] (.tup [.v (.slice none 0 0), .v (.bool false)]) (fun _ _ w1 hi _ => (rnumbers_any [] 1 (by decide) (by decide) w1).mono fun e w2 h => by rw [hnp] at h; exact h) ?_
      refine zT Rws.stable Rws.fewer [2, 3, 4] 1 ⟨.exit .ret, [], [(2, .lp 0 0), (3, .io .i64 1), (4, .v (.bool false))], [(zAS3, 28)]⟩ ?_
      refine zE (.tup zAS2) ?_
      rw [step1_no (beh_no hb)] at h1
      intro ρ w9 hm hf
      rw [← h1]
      show parseRE w ⟨1, ⟨g, s, k, sz, sl, of, gp, lt, ea, d⟩, wk, xs, some false⟩ _ _
      unfold parseRE
      rw [if_neg (by simp [FO.ok])]
      exact ⟨rfl, hm.below⟩
     | some l1 =>
      obtain ⟨x0, rfl⟩ := nums_one hnp
      refine At.rowCall (e := 2) (size := 1) 34 [.v (.string ⟨#[]⟩), .v (.int .i64 1)] (iw [x0]) (fun A' n' c' => .tup [.sl A' n' c', .v (.bool true)]) (by kernel_rfl) (by kernel_rfl) (by kernel_rfl) rfl (fun ρ w1 hm hf => (rnumbers_any [] 1 (by decide) (by decide) w1).mono fun e w2 h => by rw [hnp] at h; obtain ⟨A', c', h1, h2⟩ := h; exact ⟨A', 1, c', h1, h2⟩) (fun A1 n1 c1 hl1 => ?_)
      obtain rfl : n1 = 1 := by simpa [iw] using hl1.symm
      clear hl1
      refine At.know (p := ∃ b, A1 = some b) (fun ρ w1 h => h.some (.head _) (show 0 < 1 by decide)) fun ⟨b1, hb1⟩ => ?_
      subst hb1
      refine zT Rws.stable Rws.fewer [2, 3, 4] 1 ⟨.exit .ret, [], [(2, .lp 0 0), (3, .io .i64 1), (4, .v (.bool false))], [(zAS3, 28)]⟩ ?_
      refine zE (.tup zAS2) ?_
      rw [step1_no (beh_no hb)] at h1
      intro ρ w9 hm hf
      rw [← h1]
      show parseRE w ⟨1, ⟨g, s, k, sz, sl, of, gp, lt, ea, d⟩, wk, xs, some false⟩ _ _
      unfold parseRE
      rw [if_neg (by simp [FO.ok])]
      exact ⟨rfl, hm.below⟩
    | some rst =>
     refine zC Rws.stable 32 [.so (mkB ln), .v (.string ⟨#[119, 111, 114, 107, 101, 114, 115]⟩)] (.tup [.so (mkB rst), .v (.bool true)]) (fun _ _ w1 _ _ => (behind_any ln [119, 111, 114, 107, 101, 114, 115] (by omega) (by decide) w1).mono fun e w2 h => by rw [hb] at h; exact h) ?_
     have hrl := beh_len hb
     refine zT Rws.stable Rws.fewer [0, 2, 5, 6, 8, 16, 91] 2 ⟨pops B10 pAS10 1, [(sq10 pAS11), .block 4, (sq10 pAS21), .block 1, .next (Sx.Next w.heap.size w Tryz.f10.ntmps (fun x => [(0, .so (mkB t)), (2, .lp 0 0), (5, .lp 1 0), (6, .io .i64 (↑x.n : Int)), (7, .io .i64 (↑x.fr : Int))]) (fun x => [(scX cf0 0 none 0 0, 28), (scX x.c x.wk x.A x.xs.length x.cap, 28)]) (fun x ρ w1 => Rws w.heap.size [Rw.mk 41 10 x.A x.xs.length x.cap (stW x.xs)] ρ w1 ∧ PXI t R x) (fun x => t.length - x.fr) (PXS.mk fr 1 (Cf.mk g s k sz sl of gp lt ea d) wk A cap xs)), .block 0, (sq10 pAS25)], [(0, .so (mkB t)), (2, .lp 0 0), (5, .lp 1 0), (6, .io .i64 1), (8, .io .i64 (↑i : Int)), (16, .v (.bool true)), (91, .so (mkB rst))], [(zAS7, 28), ((cwAS g s k sz sl of gp lt ea d wk A xs.length cap), 28)]⟩ ?_
     cases hnp : numsP rst 1 with
     | none =>
      refine zC Rws.stable 34 [.so (mkB rst), .v (.int .i64 1)] (.tup [.v (.slice none 0 0), .v (.bool false)]) (fun _ _ w1 hi _ => (rnumbers_any rst 1 (by omega) (by decide) w1).mono fun e w2 h => by rw [hnp] at h; exact h) ?_
      refine zT Rws.stable Rws.fewer [2, 3, 4] 1 ⟨.exit .ret, [], [(2, .lp 0 0), (3, .io .i64 1), (4, .v (.bool false))], [(zAS3, 28)]⟩ ?_
      refine zE (.tup zAS2) ?_
      rw [step1_bad ((congrArg (numsP · 1) (beh_is hb).2).trans hnp)] at h1
      intro ρ w9 hm hf
      rw [← h1]
      show parseRE w ⟨1, ⟨g, s, k, sz, sl, of, gp, lt, ea, d⟩, wk, xs, some false⟩ _ _
      unfold parseRE
      rw [if_neg (by simp [FO.ok])]
      exact ⟨rfl, hm.below⟩
     | some l1 =>
      obtain ⟨x0, rfl⟩ := nums_one hnp
      refine At.rowCall (e := 2) (size := 1) 34 [.so (mkB rst), .v (.int .i64 1)] (iw [x0]) (fun A' n' c' => .tup [.sl A' n' c', .v (.bool true)]) (by kernel_rfl) (by kernel_rfl) (by kernel_rfl) rfl (fun ρ w1 hm hf => (rnumbers_any rst 1 (by omega) (by decide) w1).mono fun e w2 h => by rw [hnp] at h; obtain ⟨A', c', h1, h2⟩ := h; exact ⟨A', 1, c', h1, h2⟩) (fun A1 n1 c1 hl1 => ?_)
      obtain rfl : n1 = 1 := by simpa [iw] using hl1.symm
      clear hl1
      refine At.know (p := ∃ b, A1 = some b) (fun ρ w1 h => h.some (.head _) (show 0 < 1 by decide)) fun ⟨b1, hb1⟩ => ?_
      subst hb1
      let kn4 : K := .next (Sx.Next w.heap.size w Tryz.f10.ntmps (fun x => [(0, .so (mkB t)), (2, .lp 0 0), (5, .lp 1 0), (6, .io .i64 (↑x.n : Int)), (7, .io .i64 (↑x.fr : Int))]) (fun x => [(scX cf0 0 none 0 0, 28), (scX x.c x.wk x.A x.xs.length x.cap, 28)]) (fun x ρ w1 => Rws w.heap.size [Rw.mk 41 10 x.A x.xs.length x.cap (stW x.xs)] ρ w1 ∧ PXI t R x) (fun x => t.length - x.fr) (PXS.mk fr 1 (Cf.mk g s k sz sl of gp lt ea d) wk A cap xs))
      refine zT Rws.stable Rws.fewer [0, 2, 5, 6, 8, 17, 99, 100] 2 ⟨pqops B10 [1, 1, 1, 1, 0, 4, 4, 1, 4, 1, 1, 1, 1, 0, 4, 1, 3, 1, 3, 1, 2, 1, 1, 0] 6, [(sq10 pAS9), .block 4, (sq10 pAS21), .block 1, kn4, .block 0, (sq10 pAS25)], [(0, .so (mkB t)), (2, .lp 0 0), (5, .lp 1 0), (6, .io .i64 1), (8, .io .i64 (↑i : Int)), (17, .sl (some b1) 1 c1), (99, .v (.bool true)), (100, .sl (some b1) 1 c1)], [(zAS7, 28), ((cwAS g s k sz sl of gp lt ea d wk A xs.length cap), 28)]⟩ ?_
      refine At.idx b1 1 1 0 (by kernel_rfl) (by omega) (by omega) Rws.stable ?_
      refine zT Rws.stable Rws.fewer [0, 2, 5, 6, 8, 17, 99, 101] 2 ⟨pqops B10 [1, 1, 1, 1, 0, 4, 4, 1, 4, 1, 1, 1, 1, 0, 4, 1, 3, 1, 3, 1, 2, 1, 1, 0] 7, [(sq10 pAS9), .block 4, (sq10 pAS21), .block 1, kn4, .block 0, (sq10 pAS25)], [(0, .so (mkB t)), (2, .lp 0 0), (5, .lp 1 0), (6, .io .i64 1), (8, .io .i64 (↑i : Int)), (17, .sl (some b1) 1 c1), (99, .v (.bool true)), (101, .v (.pointer (some (b1.add (Int.toNat 0 * 1)))))], [(zAS7, 28), ((cwAS g s k sz sl of gp lt ea d wk A xs.length cap), 28)]⟩ ?_
      refine At.ldx (b1.add ((0 : Int).toNat * 1)) (.io .i64 x0) (by kernel_rfl) Rws.stable (fun ρ w1 hm' hf => hf.src (.head _) rfl 0 _ rfl) ?_
      refine zTq Rws.stable Rws.fewer [0, 2, 5, 6, 8, 17, 105] 2 ?_
      rcases zB (decide (x0 ≥ 1)) with b0 | b0
      ·refine zR 105 b0 ?_
       refine zT Rws.stable Rws.fewer [0, 2, 5, 6, 8, 17, 105, 106] 2 ⟨pqops B10 [1, 1, 1, 1, 0, 4, 4, 1, 4, 1, 1, 1, 1, 0, 4, 1, 3, 1, 3, 1, 2, 1, 1, 0] 12, [(sq10 pAS9), .block 4, (sq10 pAS21), .block 1, kn4, .block 0, (sq10 pAS25)], [(0, .so (mkB t)), (2, .lp 0 0), (5, .lp 1 0), (6, .io .i64 1), (8, .io .i64 (↑i : Int)), (17, .sl (some b1) 1 c1), (105, .v (.bool true)), (106, .sl (some b1) 1 c1)], [(zAS7, 28), ((cwAS g s k sz sl of gp lt ea d wk A xs.length cap), 28)]⟩ ?_
       refine At.idx b1 1 1 0 (by kernel_rfl) (by omega) (by omega) Rws.stable ?_
       refine zT Rws.stable Rws.fewer [0, 2, 5, 6, 8, 17, 105, 107] 2 ⟨pqops B10 [1, 1, 1, 1, 0, 4, 4, 1, 4, 1, 1, 1, 1, 0, 4, 1, 3, 1, 3, 1, 2, 1, 1, 0] 13, [(sq10 pAS9), .block 4, (sq10 pAS21), .block 1, kn4, .block 0, (sq10 pAS25)], [(0, .so (mkB t)), (2, .lp 0 0), (5, .lp 1 0), (6, .io .i64 1), (8, .io .i64 (↑i : Int)), (17, .sl (some b1) 1 c1), (105, .v (.bool true)), (107, .v (.pointer (some (b1.add (Int.toNat 0 * 1)))))], [(zAS7, 28), ((cwAS g s k sz sl of gp lt ea d wk A xs.length cap), 28)]⟩ ?_
       refine At.ldx (b1.add ((0 : Int).toNat * 1)) (.io .i64 x0) (by kernel_rfl) Rws.stable (fun ρ w1 hm' hf => hf.src (.head _) rfl 0 _ rfl) ?_
       refine zTq Rws.stable Rws.fewer [0, 2, 5, 6, 8, 10, 17, 114] 2 ?_
       rcases zB (decide (x0 ≤ g)) with b0 | b0
       ·refine zR 114 b0 ?_
        let kn5 : K := .next (Sx.Next w.heap.size w Tryz.f10.ntmps (fun x => [(0, .so (mkB t)), (2, .lp 0 0), (5, .lp 1 0), (6, .io .i64 (↑x.n : Int)), (7, .io .i64 (↑x.fr : Int))]) (fun x => [(scX cf0 0 none 0 0, 28), (scX x.c x.wk x.A x.xs.length x.cap, 28)]) (fun x ρ w1 => Rws w.heap.size [Rw.mk 41 10 x.A x.xs.length x.cap (stW x.xs)] ρ w1 ∧ PXI t R x) (fun x => t.length - x.fr) (PXS.mk fr 1 (Cf.mk g s k sz sl of gp lt ea d) wk A cap xs))
        refine zT Rws.stable Rws.fewer [0, 2, 5, 6, 8, 10, 115] 2 ⟨pops B10 pAS8 1, [.block 4, (sq10 pAS21), .block 1, kn5, .block 0, (sq10 pAS25)], [(0, .so (mkB t)), (2, .lp 0 0), (5, .lp 1 0), (6, .io .i64 1), (8, .io .i64 (↑i : Int)), (10, .bo (decide (x0 ≤ g))), (115, .sl (some b1) 1 c1)], [(zAS7, 28), ((cwAS g s k sz sl of gp lt ea d wk A xs.length cap), 28)]⟩ ?_
        refine At.idx b1 1 1 0 (by kernel_rfl) (by omega) (by omega) Rws.stable ?_
        refine zT Rws.stable Rws.fewer [0, 2, 5, 6, 8, 10, 116] 2 ⟨pops B10 pAS8 2, [.block 4, (sq10 pAS21), .block 1, kn5, .block 0, (sq10 pAS25)], [(0, .so (mkB t)), (2, .lp 0 0), (5, .lp 1 0), (6, .io .i64 1), (8, .io .i64 (↑i : Int)), (10, .bo (decide (x0 ≤ g))), (116, .v (.pointer (some (b1.add (Int.toNat 0 * 1)))))], [(zAS7, 28), ((cwAS g s k sz sl of gp lt ea d wk A xs.length cap), 28)]⟩ ?_
        refine At.ldx (b1.add ((0 : Int).toNat * 1)) (.io .i64 x0) (by kernel_rfl) Rws.stable (fun ρ w1 hm' hf => hf.src (.head _) rfl 0 _ rfl) ?_
        refine zTq Rws.stable Rws.fewer [0, 2, 5, 6, 8, 120] 2 ?_
        refine At.res 120 (!decide (x0 ≤ g)) false (by kernel_rfl) (by first | assumption | (simp only [*]; done) | (simp [*]; done)) ?_
        refine zT Rws.stable Rws.fewer [0, 2, 5, 6, 7, 8] 2 ⟨.exit .normal, [kn5, .block 0, (sq10 pAS25)], [(0, .so (mkB t)), (2, .lp 0 0), (5, .lp 1 0), (6, .io .i64 2), (7, .io .i64 (IntKind.i64.wrap ((↑i : Int) + 1))), (8, .io .i64 (↑i : Int))], [(zAS7, 28), ((cwAS g s k sz sl of gp lt ea d x0 A xs.length cap), 28)]⟩ ?_
        have hlo : 1 ≤ x0 := of_decide_eq_true ‹decide (x0 ≥ 1) = true›
        have hhi : x0 ≤ g := of_decide_eq_true ‹decide (x0 ≤ g) = true›
        rw [step1_ok (x := x0) (beh_is hb).1 ((congrArg (numsP · 1) (beh_is hb).2).trans hnp) (show ¬ (x0 < 1 ∨ g < x0) by omega)] at h1
        rw [hw3]
        try rw [show IntKind.i64.wrap (((1 : Nat) : Int) + 1) = ((2 : Nat) : Int) from by decide]
        refine At.canL _ rfl ?_
        refine At.slLoc _ rfl ?_
        refine At.next (σ := PXS) ⟨i + 1, 2, ⟨g, s, k, sz, sl, of, gp, lt, ea, d⟩, x0, A, cap, xs⟩ rfl rfl (by unfold subFr; kernel_rfl) (by kernel_rfl) (fun _ _ _ _ h => ⟨h.sub (List.sublist_cons_self ..), h1, (show i + 1 ≤ t.length by omega), (show 2 ≤ i + 1 by omega), (show (xs : List St).length ≤ 2 by omega), in64_zero⟩) ?_
        show t.length - (i + 1) < t.length - fr
        omega
       refine zR 114 b0 ?_
       refine zT Rws.stable Rws.fewer [0, 2, 5, 6, 8, 120] 2 ⟨.code (sub B10 pAS16), [(sq10 pAS19), .block 1, .next (Sx.Next w.heap.size w Tryz.f10.ntmps (fun x => [(0, .so (mkB t)), (2, .lp 0 0), (5, .lp 1 0), (6, .io .i64 (↑x.n : Int)), (7, .io .i64 (↑x.fr : Int))]) (fun x => [(scX cf0 0 none 0 0, 28), (scX x.c x.wk x.A x.xs.length x.cap, 28)]) (fun x ρ w1 => Rws w.heap.size [Rw.mk 41 10 x.A x.xs.length x.cap (stW x.xs)] ρ w1 ∧ PXI t R x) (fun x => t.length - x.fr) (PXS.mk fr 1 (Cf.mk g s k sz sl of gp lt ea d) wk A cap xs)), .block 0, (sq10 pAS25)], [(0, .so (mkB t)), (2, .lp 0 0), (5, .lp 1 0), (6, .io .i64 1), (8, .io .i64 (↑i : Int)), (120, .bo !decide (x0 ≤ g))], [(zAS7, 28), ((cwAS g s k sz sl of gp lt ea d wk A xs.length cap), 28)]⟩ ?_
       refine At.res 120 (!decide (x0 ≤ g)) true (by kernel_rfl) (by first | assumption | (simp only [*]; done) | (simp [*]; done)) ?_
       refine zT Rws.stable Rws.fewer [2, 3, 4] 1 ⟨.exit .ret, [], [(2, .lp 0 0), (3, .io .i64 1), (4, .v (.bool false))], [(zAS3, 28)]⟩ ?_
       refine zE (.tup zAS2) ?_
       have hbad : x0 < 1 ∨ g < x0 := by
        first
         | (left; have h9 := of_decide_eq_false ‹decide (x0 ≥ 1) = false›; omega)
         | (right; have h9 := of_decide_eq_false ‹decide (x0 ≤ g) = false›; omega)
       rw [step1_low (x := x0) ((congrArg (numsP · 1) (beh_is hb).2).trans hnp) hbad] at h1
       intro ρ w9 hm hf
       rw [← h1]
       show parseRE w ⟨1, ⟨g, s, k, sz, sl, of, gp, lt, ea, d⟩, wk, xs, some false⟩ _ _
       unfold parseRE
       rw [if_neg (by simp [FO.ok])]
       exact ⟨rfl, hm.below⟩
      refine zR 105 b0 ?_
      refine zT Rws.stable Rws.fewer [2, 3, 4] 1 ⟨.exit .ret, [], [(2, .lp 0 0), (3, .io .i64 1), (4, .v (.bool false))], [(zAS3, 28)]⟩ ?_
      refine zE (.tup zAS2) ?_
      have hbad : x0 < 1 ∨ g < x0 := by
       first
        | (left; have h9 := of_decide_eq_false ‹decide (x0 ≥ 1) = false›; omega)
        | (right; have h9 := of_decide_eq_false ‹decide (x0 ≤ g) = false›; omega)
      rw [step1_low (x := x0) ((congrArg (numsP · 1) (beh_is hb).2).trans hnp) hbad] at h1
      intro ρ w9 hm hf
      rw [← h1]
      show parseRE w ⟨1, ⟨g, s, k, sz, sl, of, gp, lt, ea, d⟩, wk, xs, some false⟩ _ _
      unfold parseRE
      rw [if_neg (by simp [FO.ok])]
      exact ⟨rfl, hm.below⟩
   refine zR 82 b1 ?_
   refine zT Rws.stable Rws.fewer [0, 2, 5, 6, 8, 9, 48, 49] 2 ⟨pops B10 [1, 1, 1, 1, 0, 4, 4, 1, 4, 1, 1, 1, 1, 0, 4, 1, 3, 1, 3, 1, 3, 0] 3, [(sq10 [1, 1, 1, 1, 0, 4, 4, 1, 4, 1, 1, 1, 1, 0, 4, 1, 3, 1, 3, 1, 3, 1]), .block 4, (sq10 pAS21), .block 1, .next (Sx.Next w.heap.size w Tryz.f10.ntmps (fun x => [(0, .so (mkB t)), (2, .lp 0 0), (5, .lp 1 0), (6, .io .i64 (↑x.n : Int)), (7, .io .i64 (↑x.fr : Int))]) (fun x => [(scX cf0 0 none 0 0, 28), (scX x.c x.wk x.A x.xs.length x.cap, 28)]) (fun x ρ w1 => Rws w.heap.size [Rw.mk 41 10 x.A x.xs.length x.cap (stW x.xs)] ρ w1 ∧ PXI t R x) (fun x => t.length - x.fr) (PXS.mk fr n (Cf.mk g s k sz sl of gp lt ea d) wk A cap xs)), .block 0, (sq10 pAS25)], [(0, .so (mkB t)), (2, .lp 0 0), (5, .lp 1 0), (6, .io .i64 (↑n : Int)), (8, .io .i64 (↑i : Int)), (9, .so (mkB ln)), (48, .agg (cfAS g s k sz sl of gp lt ea d)), (49, .so (mkB ln))], [(zAS7, 28), ((cwAS g s k sz sl of gp lt ea d wk A xs.length cap), 28)]⟩ ?_
   obtain ⟨n, rfl⟩ : ∃ n', n = n' + 2 := ⟨n - 2, by have h9 := b0; have h8 := b1; simp at h9 h8; omega⟩
   clear b0 b1
   cases hk : okS ⟨g, s, k, sz, sl, of, gp, lt, ea, d⟩ ln with
   | none =>
    refine zC Rws.stable 35 [.agg (cfAS g s k sz sl of gp lt ea d), .so (mkB ln)] (.tup [.agg [.v (.int .i64 0), .v (.int .i64 0), .v (.string ⟨#[]⟩), .v (.int .i64 0), .v (.int .i64 0), .v (.int .i64 0), .v (.int .i64 0), .v (.int .i64 0), .v (.int .i64 0), .v (.int .u32 0)], .v (.bool false)]) (fun _ _ w1 _ _ => (rreads_any g s k sz sl of gp lt ea d ln (by omega) w1).mono fun e w2 h => by rw [hk] at h; exact h) ?_
    refine zT Rws.stable Rws.fewer [0, 2, 5, 6, 8, 10, 55, 57] 4 ⟨pops B10 pAS12 4, [.block 4, (sq10 pAS21), .block 1, .next (Sx.Next w.heap.size w Tryz.f10.ntmps (fun x => [(0, .so (mkB t)), (2, .lp 0 0), (5, .lp 1 0), (6, .io .i64 (↑x.n : Int)), (7, .io .i64 (↑x.fr : Int))]) (fun x => [(scX cf0 0 none 0 0, 28), (scX x.c x.wk x.A x.xs.length x.cap, 28)]) (fun x ρ w1 => Rws w.heap.size [Rw.mk 41 10 x.A x.xs.length x.cap (stW x.xs)] ρ w1 ∧ PXI t R x) (fun x => t.length - x.fr) (PXS.mk fr (n + 2) (Cf.mk g s k sz sl of gp lt ea d) wk A cap xs)), .block 0, (sq10 pAS25)], [(0, .so (mkB t)), (2, .lp 0 0), (5, .lp 1 0), (6, .io .i64 (↑(n + 2) : Int)), (8, .io .i64 (↑i : Int)), (10, .v (.bool false)), (55, .sl A xs.length cap), (57, .ls 3 0 1 1)], [(zAS7, 28), ((cwAS g s k sz sl of gp lt ea d wk A xs.length cap), 28), (zAS5, 41), (zAS5, 41)]⟩ ?_
    refine At.appV 26 41 10 88 A xs.length cap 1 [.v (.int .i64 0), .v (.int .i64 0), .v (.string ⟨#[]⟩), .v (.int .i64 0), .v (.int .i64 0), .v (.int .i64 0), .v (.int .i64 0), .v (.int .i64 0), .v (.int .i64 0), .v (.int .u32 0)] (stW xs) (zstS.w) [] (by kernel_rfl) (fun _ => rfl) (by omega) (by simp only [maxLen]; omega) (fun A2 c2 hc2 => ?_)
    refine zT Rws.stable Rws.fewer [2, 3, 4] 1 ⟨.exit .ret, [], [(2, .lp 0 0), (3, .io .i64 (↑(n + 2) : Int)), (4, .v (.bool false))], [(zAS3, 28)]⟩ ?_
    refine zE (.tup [.agg zAS3, .io .i64 (↑(n + 2) : Int), .v (.bool false)]) ?_
    rw [step2_bad hk] at h1
    intro ρ w9 hm hf
    rw [← h1]
    show parseRE w ⟨n + 2, ⟨g, s, k, sz, sl, of, gp, lt, ea, d⟩, wk, xs, some true⟩ _ _
    unfold parseRE
    rw [if_neg (by simp [FO.ok])]
    exact ⟨rfl, hm.below⟩
   | some x =>
    obtain ⟨kd, ik, key, ti, v, src, wk2, wks, bit, mask⟩ := x
    refine zC Rws.stable 35 [.agg (cfAS g s k sz sl of gp lt ea d), .so (mkB ln)] (.tup [.agg [.io .i64 kd, .io .i64 ik, .so (mkB key), .io .i64 ti, .io .i64 v, .io .i64 src, .io .i64 wk2, .io .i64 wks, .io .i64 bit, .io .u32 mask], .v (.bool true)]) (fun _ _ w1 _ _ => (rreads_any g s k sz sl of gp lt ea d ln (by omega) w1).mono fun e w2 h => by rw [hk] at h; exact h) ?_
    let kn1 : K := .next (Sx.Next w.heap.size w Tryz.f10.ntmps (fun x => [(0, .so (mkB t)), (2, .lp 0 0), (5, .lp 1 0), (6, .io .i64 (↑x.n : Int)), (7, .io .i64 (↑x.fr : Int))]) (fun x => [(scX cf0 0 none 0 0, 28), (scX x.c x.wk x.A x.xs.length x.cap, 28)]) (fun x ρ w1 => Rws w.heap.size [Rw.mk 41 10 x.A x.xs.length x.cap (stW x.xs)] ρ w1 ∧ PXI t R x) (fun x => t.length - x.fr) (PXS.mk fr (n + 2) (Cf.mk g s k sz sl of gp lt ea d) wk A cap xs))
    refine zT Rws.stable Rws.fewer [0, 2, 5, 6, 8, 10, 55, 57] 4 ⟨pops B10 pAS12 4, [.block 4, (sq10 pAS21), .block 1, kn1, .block 0, (sq10 pAS25)], [(0, .so (mkB t)), (2, .lp 0 0), (5, .lp 1 0), (6, .io .i64 (↑(n + 2) : Int)), (8, .io .i64 (↑i : Int)), (10, .v (.bool true)), (55, .sl A xs.length cap), (57, .ls 3 0 1 1)], [(zAS7, 28), ((cwAS g s k sz sl of gp lt ea d wk A xs.length cap), 28), ([.io .i64 kd, .io .i64 ik, .so (mkB key), .io .i64 ti, .io .i64 v, .io .i64 src, .io .i64 wk2, .io .i64 wks, .io .i64 bit, .io IntKind.u32 mask], 41), ([.io .i64 kd, .io .i64 ik, .so (mkB key), .io .i64 ti, .io .i64 v, .io .i64 src, .io .i64 wk2, .io .i64 wks, .io .i64 bit, .io IntKind.u32 mask], 41)]⟩ ?_
    refine At.appV 26 41 10 88 A xs.length cap 1 [.io .i64 kd, .io .i64 ik, .so (mkB key), .io .i64 ti, .io .i64 v, .io .i64 src, .io .i64 wk2, .io .i64 wks, .io .i64 bit, .io .u32 mask] (stW xs) (St.w ⟨kd, ik, key, ti, v, src, wk2, wks, bit, mask⟩) [] (by kernel_rfl) (fun _ => rfl) (by omega) (by simp only [maxLen]; omega) (fun A2 c2 hc2 => ?_)
    refine zT Rws.stable Rws.fewer [0, 2, 5, 6, 7, 8] 2 ⟨.exit .normal, [kn1, .block 0, (sq10 pAS25)], [(0, .so (mkB t)), (2, .lp 0 0), (5, .lp 1 0), (6, .io .i64 (IntKind.i64.wrap ((↑(n + 2) : Int) + 1))), (7, .io .i64 (IntKind.i64.wrap ((↑i : Int) + 1))), (8, .io .i64 (↑i : Int))], [(zAS7, 28), ([.io .i64 g, .io .i64 s, .io .i64 k, .io .i64 sz, .io .i64 sl, .io .i64 of, .io .i64 gp, .io .i64 lt, .io .i64 ea, .bo d, .io .i64 wk, .sl A2 (xs.length + 1) c2], 28)]⟩ ?_
    rw [step2_go hk] at h1
    rw [hw3]
    try rw [hw4]
    refine At.canL _ rfl ?_
    refine At.slLoc _ rfl ?_
    refine At.next (σ := PXS) ⟨i + 1, n + 3, ⟨g, s, k, sz, sl, of, gp, lt, ea, d⟩, wk, A2, c2, xs ++ [⟨kd, ik, key, ti, v, src, wk2, wks, bit, mask⟩]⟩ rfl rfl (by simp only [List.length_append, List.length_singleton]; unfold subFr; kernel_rfl) (by simp only [List.length_append, List.length_singleton]; kernel_rfl) (fun _ _ _ _ h => ⟨by rw [stW_app, List.length_append, List.length_singleton]; exact h, h1, (show i + 1 ≤ t.length by omega), (show n + 3 ≤ i + 1 by omega), (show (xs ++ [⟨kd, ik, key, ti, v, src, wk2, wks, bit, mask⟩] : List St).length ≤ n + 3 by simp only [List.length_append, List.length_singleton]; omega), h5⟩) ?_
    show t.length - (i + 1) < t.length - fr
    omega
  refine zR 30 b0 ?_
  let kn3 : K := .next (Sx.Next w.heap.size w Tryz.f10.ntmps (fun x => [(0, .so (mkB t)), (2, .lp 0 0), (5, .lp 1 0), (6, .io .i64 (↑x.n : Int)), (7, .io .i64 (↑x.fr : Int))]) (fun x => [(scX cf0 0 none 0 0, 28), (scX x.c x.wk x.A x.xs.length x.cap, 28)]) (fun x ρ w1 => Rws w.heap.size [Rw.mk 41 10 x.A x.xs.length x.cap (stW x.xs)] ρ w1 ∧ PXI t R x) (fun x => t.length - x.fr) (PXS.mk fr n (Cf.mk g s k sz sl of gp lt ea d) wk A cap xs))
  refine zT Rws.stable Rws.fewer [0, 2, 5, 6, 8, 38, 39, 40] 2 ⟨pops B10 [1, 1, 1, 1, 0, 4, 4, 1, 4, 1, 1, 0] 3, [(sq10 [1, 1, 1, 1, 0, 4, 4, 1, 4, 1, 1, 1]), .block 1, kn3, .block 0, (sq10 pAS25)], [(0, .so (mkB t)), (2, .lp 0 0), (5, .lp 1 0), (6, .io .i64 (↑n : Int)), (8, .io .i64 (↑i : Int)), (38, .so (mkB t)), (39, .io .i64 (↑fr : Int)), (40, .io .i64 (↑i : Int))], [(zAS7, 28), ((cwAS g s k sz sl of gp lt ea d wk A xs.length cap), 28)]⟩ ?_
  have hi : t.length ≤ i := by have := of_decide_eq_false b0; rw [mkB_size] at this; omega
  refine sslM t fr i (by kernel_rfl) q1 q2 Rws.stable ?_
  generalize hln : (t.take i).drop fr = ln
  have hnt : (!decide ((i : Int) < ((mkB t).size : Int))) = true := by rw [b0]; rfl
  refine zTq Rws.stable Rws.fewer [0, 2, 5, 6, 8, 9, 10, 60] 2 ?_
  refine zR 60 hnt ?_
  refine zT Rws.stable Rws.fewer [0, 2, 5, 6, 8, 9, 10, 120] 2 ⟨.code (sub B10 pAS16), [(sq10 pAS19), .block 1, kn3, .block 0, (sq10 pAS25)], [(0, .so (mkB t)), (2, .lp 0 0), (5, .lp 1 0), (6, .io .i64 (↑n : Int)), (8, .io .i64 (↑i : Int)), (9, .so (mkB ln)), (10, .bo (decide ((↑i : Int) < (↑(mkB t).size : Int)))), (120, .bo !decide ((↑i : Int) < (↑(mkB t).size : Int)))], [(zAS7, 28), ((cwAS g s k sz sl of gp lt ea d wk A xs.length cap), 28)]⟩ ?_
  refine zR 120 hnt ?_
  refine zT Rws.stable Rws.fewer [2, 3, 4] 1 ⟨.exit .ret, [], [(2, .lp 0 0), (3, .io .i64 (↑n : Int)), (4, .v (.bool false))], [(zAS3, 28)]⟩ ?_
  refine zE (.tup [.agg zAS3, .io .i64 (↑n : Int), .v (.bool false)]) ?_
  obtain ⟨rs, hc⟩ := cuts_rest (t := t) (fr := fr) hfr (fun j hj hk => q3 j hj (by omega))
  rw [hc] at h1
  intro ρ w9 hm hf
  rw [← h1]
  show parseRE w ⟨n, ⟨g, s, k, sz, sl, of, gp, lt, ea, d⟩, wk, xs, some true⟩ _ _
  unfold parseRE
  rw [if_neg (by simp [FO.ok])]
  exact ⟨rfl, hm.below⟩
 refine zR 24 b0 ?_
 refine zT Rws.stable Rws.fewer [2, 5, 6, 128] 2 ⟨.code (sub B10 [1, 1, 1, 1, 1, 0, 1]), [(sq10 [1, 1, 1, 1, 1, 1])], [(2, .lp 0 0), (5, .lp 1 0), (6, .io .i64 (↑n : Int)), (128, .bo (decide ((↑n : Int) < 2)))], [(zAS7, 28), ((cwAS g s k sz sl of gp lt ea d wk A xs.length cap), 28)]⟩ ?_
 rcases zB (decide ((↑n : Int) < 2)) with b1 | b1
 ·refine zR 128 b1 ?_
  refine zT Rws.stable Rws.fewer [2, 3, 4] 1 ⟨.exit .ret, [], [(2, .lp 0 0), (3, .io .i64 (↑n : Int)), (4, .v (.bool false))], [(zAS3, 28)]⟩ ?_
  refine zE (.tup [.agg zAS3, .io .i64 (↑n : Int), .v (.bool false)]) ?_
  have hfr : t.length ≤ fr := by have := of_decide_eq_false b0; rw [mkB_size] at this; omega
  rw [List.drop_eq_nil_of_le hfr] at h1
  have hn2 := of_decide_eq_true b1
  intro ρ w9 hm hf
  rw [← h1]
  show parseRE w ⟨n, ⟨g, s, k, sz, sl, of, gp, lt, ea, d⟩, wk, xs, none⟩ _ _
  unfold parseRE
  rw [if_neg (by simp [FO.ok]; omega)]
  exact ⟨rfl, hm.below⟩
 refine zR 128 b1 ?_
 refine zT Rws.stable Rws.fewer [2, 3, 4] 1 ⟨.exit .ret, [], [(2, .lp 0 0), (3, .io .i64 (↑n : Int)), (4, .v (.bool true))], [((cwAS g s k sz sl of gp lt ea d wk A xs.length cap), 28)]⟩ ?_
 refine zE (.tup [.agg (cwAS g s k sz sl of gp lt ea d wk A xs.length cap), .io .i64 (↑n : Int), .v (.bool true)]) ?_
 have hfr : t.length ≤ fr := by have := of_decide_eq_false b0; rw [mkB_size] at this; omega
 rw [List.drop_eq_nil_of_le hfr] at h1
 intro ρ w9 hm hf
 rw [← h1]
 have hn2 := of_decide_eq_false b1
 show parseRE w ⟨n, ⟨g, s, k, sz, sl, of, gp, lt, ea, d⟩, wk, xs, none⟩ _ _
 unfold parseRE
 rw [if_pos (by simp [FO.ok]; omega)]
 exact ⟨A, cap, rfl, rws_rowF hf (.head _) hm.below⟩
end Go.Proofs.YthfpekhpeiebjaaGreatDoor
end
section
namespace Go.Proofs.YthfpekhpeiebjaaGreatDoor
open Go.RowKit Go.Sx
noncomputable def B11 : Code := (Tryz.f11.body).getD .skip
noncomputable def sq11 (p : List Nat) : Go.Sx.K := .seq (sub B11 p)
theorem cf_beq (ga sa ka sza sla ofa gpa lta eaa gb sb kb szb slb ofb gpb ltb eab : Int) (da db : Bool) : (ga == gb && (sa == sb && (ka == kb && (sza == szb && (sla == slb && (ofa == ofb && (gpa == gpb && (lta == ltb && (eaa == eab && (da == db && true)))))))))) = decide (((Cf.mk ga sa ka sza sla ofa gpa lta eaa da) : Cf) = (Cf.mk gb sb kb szb slb ofb gpb ltb eab db)) := by
 rw [Bool.eq_iff_iff]
 simp [and_assoc]
theorem cf_ne {ga sa ka sza sla ofa gpa lta eaa gb sb kb szb slb ofb gpb ltb eab : Int} {da db : Bool} (h : (!(ga == gb && (sa == sb && (ka == kb && (sza == szb && (sla == slb && (ofa == ofb && (gpa == gpb && (lta == ltb && (eaa == eab && (da == db && true))))))))))) = true) : ((Cf.mk ga sa ka sza sla ofa gpa lta eaa da) : Cf) ≠ (Cf.mk gb sb kb szb slb ofb gpb ltb eab db) := fun e => by
 rw [cf_beq, decide_eq_true e] at h
 cases h
theorem cf_eq {ga sa ka sza sla ofa gpa lta eaa gb sb kb szb slb ofb gpb ltb eab : Int} {da db : Bool} (h : (!(ga == gb && (sa == sb && (ka == kb && (sza == szb && (sla == slb && (ofa == ofb && (gpa == gpb && (lta == ltb && (eaa == eab && (da == db && true))))))))))) = false) : ((Cf.mk ga sa ka sza sla ofa gpa lta eaa da) : Cf) = (Cf.mk gb sb kb szb slb ofb gpb ltb eab db) := by
 rw [cf_beq] at h
 exact of_decide_eq_true (by simpa only [Bool.not_eq_false'] using h)
theorem st_beq (kda ika tia va srca wka wksa bita maska kdb ikb tib vb srcb wkb wksb bitb maskb : Int) (keya keyb : List UInt8) : (kda == kdb && ((ika == ikb && ((mkB keya).toList == (mkB keyb).toList && (tia == tib && (va == vb && (srca == srcb && true))))) && (wka == wkb && (wksa == wksb && (bita == bitb && (maska == maskb && true)))))) = decide (((St.mk kda ika keya tia va srca wka wksa bita maska) : St) = (St.mk kdb ikb keyb tib vb srcb wkb wksb bitb maskb)) := by
 rw [Bool.eq_iff_iff, str_beq]
 simp [and_assoc]
theorem st_ne {kda ika tia va srca wka wksa bita maska kdb ikb tib vb srcb wkb wksb bitb maskb : Int} {keya keyb : List UInt8} (h : (!(kda == kdb && ((ika == ikb && ((mkB keya).toList == (mkB keyb).toList && (tia == tib && (va == vb && (srca == srcb && true))))) && (wka == wkb && (wksa == wksb && (bita == bitb && (maska == maskb && true))))))) = true) : ((St.mk kda ika keya tia va srca wka wksa bita maska) : St) ≠ (St.mk kdb ikb keyb tib vb srcb wkb wksb bitb maskb) := fun e => by
 rw [st_beq, decide_eq_true e] at h
 cases h
theorem st_eq {kda ika tia va srca wka wksa bita maska kdb ikb tib vb srcb wkb wksb bitb maskb : Int} {keya keyb : List UInt8} (h : (!(kda == kdb && ((ika == ikb && ((mkB keya).toList == (mkB keyb).toList && (tia == tib && (va == vb && (srca == srcb && true))))) && (wka == wkb && (wksa == wksb && (bita == bitb && (maska == maskb && true))))))) = false) : ((St.mk kda ika keya tia va srca wka wksa bita maska) : St) = (St.mk kdb ikb keyb tib vb srcb wkb wksb bitb maskb) := by
 rw [st_beq] at h
 exact of_decide_eq_true (by simpa only [Bool.not_eq_false'] using h)
def frS (i : Nat) : Fr := [(2, .lp 0 0), (3, .lp 1 0), (5, .io .i64 (i : Int))]
def locS (c : Cf) (wk : Int) (A : Option Addr) (n cap : Nat) (c2 : Cf) (wk2 : Int) (B : Option Addr) (m cap2 : Nat) (_ : Nat) : Sx.Loc := match c, c2 with
 | (Cf.mk ga sa ka sza sla ofa gpa lta eaa da), (Cf.mk gb sb kb szb slb ofb gpb ltb eab db) => [((cwAS ga sa ka sza sla ofa gpa lta eaa da wk A n cap), 28), ((cwAS gb sb kb szb slb ofb gpb ltb eab db wk2 B m cap2), 28)]
set_option maxHeartbeats 8000000 in
set_option maxRecDepth 100000 in
theorem same_go (ga sa ka sza sla ofa gpa lta eaa : Int) (da : Bool) (wka : Int) (A : Option Addr) (n ca : Nat) (xs : List St) (gb sb kb szb slb ofb gpb ltb eab : Int) (db : Bool) (wkb : Int) (B : Option Addr) (m cb : Nat) (ys : List St) (w : World) (hS : SlS w A n xs) (hT : SlS w B m ys) (hn : n ≤ 1048576) (hm2 : m ≤ 1048576) :
  Calls Tryz.prog 11 #[.agg #[.int .i64 ga, .int .i64 sa, .int .i64 ka, .int .i64 sza, .int .i64 sla, .int .i64 ofa, .int .i64 gpa, .int .i64 lta, .int .i64 eaa, .bool da, .int .i64 wka, .slice A n ca], .agg #[.int .i64 gb, .int .i64 sb, .int .i64 kb, .int .i64 szb, .int .i64 slb, .int .i64 ofb, .int .i64 gpb, .int .i64 ltb, .int .i64 eab, .bool db, .int .i64 wkb, .slice B m cb]] w fun e w' => e = .returned (.bool (decide (((Cf.mk ga sa ka sza sla ofa gpa lta eaa da) : Cf) = (Cf.mk gb sb kb szb slb ofb gpb ltb eab db) ∧ wka = wkb ∧ xs = ys))) ∧ Below w.heap.size w w' := by
 refine enter (fn := Tryz.f11) (c := B11) [.agg (cwAS ga sa ka sza sla ofa gpa lta eaa da wka A n ca), .agg (cwAS gb sb kb szb slb ofb gpb ltb eab db wkb B m cb)] Tryz.func11 rfl rfl ?_
 refine zNq [2, 3, 11] 2 ?_
 rcases zB (!(ga == gb && (sa == sb && (ka == kb && (sza == szb && (sla == slb && (ofa == ofb && (gpa == gpb && (lta == ltb && (eaa == eab && (da == db && true))))))))))) with b0 | b0
 ·refine zR 11 b0 ?_
  refine zN [4] 0 ⟨.exit .ret, [], [(4, .v (.bool false))], []⟩ ?_
  refine zE (.v (.bool false)) ?_
  have hne : (Cf.mk ga sa ka sza sla ofa gpa lta eaa da) ≠ (Cf.mk gb sb kb szb slb ofb gpb ltb eab db) := cf_ne b0
  rw [show decide ((Cf.mk ga sa ka sza sla ofa gpa lta eaa da) = (Cf.mk gb sb kb szb slb ofb gpb ltb eab db) ∧ wka = wkb ∧ xs = ys) = false from decide_eq_false fun ⟨e1, e2, e3⟩ => hne e1]
  intro ρ w9 hm' hf
  exact ⟨rfl, hm'.below⟩
 refine zR 11 b0 ?_
 refine zN [2, 3, 18] 2 ⟨pops B11 [1, 0, 0] 13, [(sq11 [1, 0, 1]), (sq11 [1, 1])], [(2, .lp 0 0), (3, .lp 1 0), (18, .bo (wka != wkb))], [((cwAS ga sa ka sza sla ofa gpa lta eaa da wka A n ca), 28), ((cwAS gb sb kb szb slb ofb gpb ltb eab db wkb B m cb), 28)]⟩ ?_
 rcases zB (wka != wkb) with b1 | b1
 ·refine zR 18 b1 ?_
  refine zN [4] 0 ⟨.exit .ret, [], [(4, .v (.bool false))], []⟩ ?_
  refine zE (.v (.bool false)) ?_
  have hne : wka ≠ wkb := by simpa using b1
  rw [show decide ((Cf.mk ga sa ka sza sla ofa gpa lta eaa da) = (Cf.mk gb sb kb szb slb ofb gpb ltb eab db) ∧ wka = wkb ∧ xs = ys) = false from decide_eq_false fun ⟨e1, e2, e3⟩ => hne e2]
  intro ρ w9 hm' hf
  exact ⟨rfl, hm'.below⟩
 refine zR 18 b1 ?_
 refine zNq [2, 3, 26] 2 ?_
 rcases zB ((↑n : Int) != (↑m : Int)) with b2 | b2
 ·refine zR 26 b2 ?_
  refine zN [4] 0 ⟨.exit .ret, [], [(4, .v (.bool false))], []⟩ ?_
  refine zE (.v (.bool false)) ?_
  have hne : n ≠ m := by simp at b2; omega
  rw [show decide ((Cf.mk ga sa ka sza sla ofa gpa lta eaa da) = (Cf.mk gb sb kb szb slb ofb gpb ltb eab db) ∧ wka = wkb ∧ xs = ys) = false from decide_eq_false fun ⟨e1, e2, e3⟩ => hne (by rw [hS.1, hT.1, e3])]
  intro ρ w9 hm' hf
  exact ⟨rfl, hm'.below⟩
 refine zR 26 b2 ?_
 refine zN [2, 3, 5] 2 ⟨.code (sub B11 [1, 1, 0, 1, 4]), [.block 0, (sq11 [1, 1, 1])], [(2, .lp 0 0), (3, .lp 1 0), (5, .v (.int .i64 0))], [((cwAS ga sa ka sza sla ofa gpa lta eaa da wka A n ca), 28), ((cwAS gb sb kb szb slb ofb gpb ltb eab db wkb B m cb), 28)]⟩ ?_
 have he1 : (Cf.mk ga sa ka sza sla ofa gpa lta eaa da) = (Cf.mk gb sb kb szb slb ofb gpb ltb eab db) := cf_eq b0
 have he2 : wka = wkb := by simpa using b1
 have hnm : n = m := by simp at b2; omega
 clear b0 b1 b2
 refine At.canonT [5] _ rfl ?_
 refine At.loop (σ := Nat) (sub B11 [1, 1, 0, 1, 4, 4]) frS (locS (Cf.mk ga sa ka sza sla ofa gpa lta eaa da) wka A n ca (Cf.mk gb sb kb szb slb ofb gpb ltb eab db) wkb B m cb) (fun i _ _ => True ∧ (i ≤ n ∧ ∀ k, k < i → xs[k]? = ys[k]?)) (fun i => n - i) 0 (by kernel_rfl) (by unfold subFr; kernel_rfl) (by kernel_rfl) (fun _ _ _ _ h => ⟨trivial, Nat.zero_le _, fun k hk => absurd hk (Nat.not_lt_zero k)⟩) ?_
 intro i
 refine At.pure fun ⟨h1, h2⟩ => ?_
 refine zNq [2, 3, 5, 31] 2 ?_
 rcases zB (decide ((↑i : Int) < (↑n : Int))) with b0 | b0
 ·refine zR 31 b0 ?_
  refine zN [2, 3, 5, 35, 36] 2 ⟨pqops B11 [1, 1, 0, 1, 4, 4, 1, 0, 4, 0] 3, [(sq11 pAS23), .block 1, (sq11 pAS24), .next (Sx.Next w.heap.size w Tryz.f11.ntmps frS (locS (Cf.mk ga sa ka sza sla ofa gpa lta eaa da) wka A n ca (Cf.mk gb sb kb szb slb ofb gpb ltb eab db) wkb B m cb) (fun i x x_1 => True ∧ i ≤ n ∧ ∀ (k : Nat), k < i → xs[k]? = ys[k]?) (fun i => n - i) i), .block 0, (sq11 [1, 1, 1])], [(2, .lp 0 0), (3, .lp 1 0), (5, .io .i64 (↑i : Int)), (35, .sl A n ca), (36, .io .i64 (↑i : Int))], [((cwAS ga sa ka sza sla ofa gpa lta eaa da wka A n ca), 28), ((cwAS gb sb kb szb slb ofb gpb ltb eab db wkb B m cb), 28)]⟩ ?_
  have hi : i < n := by have := of_decide_eq_true b0; omega
  clear b0
  obtain ⟨x, hx⟩ : ∃ x, xs[i]? = some x := ⟨_, List.getElem?_eq_getElem (by rw [← hS.1]; exact hi)⟩
  obtain ⟨y, hy⟩ : ∃ y, ys[i]? = some y := ⟨_, List.getElem?_eq_getElem (by rw [← hT.1]; omega)⟩
  obtain ⟨a, rfl, hcell⟩ := hS.get hx
  obtain ⟨b, rfl, hcel2⟩ := hT.get hy
  obtain ⟨kda, ika, keya, tia, va, srca, wkc, wksa, bita, maska⟩ := x
  obtain ⟨kdb, ikb, keyb, tib, vb, srcb, wkd, wksb, bitb, maskb⟩ := y
  refine At.idx a n 10 (i : Int) (by kernel_rfl) (by omega) (by omega) noF_stable ?_
  refine At.lda (a.add ((i : Int).toNat * 10)) 10 [.io .i64 kda, .io .i64 ika, .so (mkB keya), .io .i64 tia, .io .i64 va, .io .i64 srca, .io .i64 wkc, .io .i64 wksa, .io .i64 bita, .io .u32 maska] (by kernel_rfl) rfl noF_stable (fun ρ w1 hm' hf j v2 hj => cell_below (hcell j v2 hj) hm'.below) ?_
  let kn0 : K := .next (Sx.Next w.heap.size w Tryz.f11.ntmps frS (locS (Cf.mk ga sa ka sza sla ofa gpa lta eaa da) wka (some a) n ca (Cf.mk gb sb kb szb slb ofb gpb ltb eab db) wkb (some b) m cb) (fun i x x_1 => True ∧ i ≤ n ∧ ∀ (k : Nat), k < i → xs[k]? = ys[k]?) (fun i => n - i) i)
  refine zN [2, 3, 5, 38, 40, 41] 2 ⟨pqops B11 [1, 1, 0, 1, 4, 4, 1, 0, 4, 0] 8, [(sq11 pAS23), .block 1, (sq11 pAS24), kn0, .block 0, (sq11 [1, 1, 1])], [(2, .lp 0 0), (3, .lp 1 0), (5, .io .i64 (↑i : Int)), (38, .agg [.io .i64 kda, .io .i64 ika, .so (mkB keya), .io .i64 tia, .io .i64 va, .io .i64 srca, .io .i64 wkc, .io .i64 wksa, .io .i64 bita, .io IntKind.u32 maska]), (40, .sl (some b) m cb), (41, .io .i64 (↑i : Int))], [((cwAS ga sa ka sza sla ofa gpa lta eaa da wka (some a) n ca), 28), ((cwAS gb sb kb szb slb ofb gpb ltb eab db wkb (some b) m cb), 28)]⟩ ?_
  refine At.idx b m 10 (i : Int) (by kernel_rfl) (by omega) (by omega) noF_stable ?_
  refine At.lda (b.add ((i : Int).toNat * 10)) 10 [.io .i64 kdb, .io .i64 ikb, .so (mkB keyb), .io .i64 tib, .io .i64 vb, .io .i64 srcb, .io .i64 wkd, .io .i64 wksb, .io .i64 bitb, .io .u32 maskb] (by kernel_rfl) rfl noF_stable (fun ρ w1 hm' hf j v2 hj => cell_below (hcel2 j v2 hj) hm'.below) ?_
  refine zNq [2, 3, 5, 44] 2 ?_
  rcases zB (!(kda == kdb && (ika == ikb && ((mkB keya).toList == (mkB keyb).toList && (tia == tib && (va == vb && (srca == srcb && true)))) && (wkc == wkd && (wksa == wksb && (bita == bitb && (maska == maskb && true))))))) with b0 | b0
  ·refine zR 44 b0 ?_
   refine zN [4] 0 ⟨.exit .ret, [], [(4, .v (.bool false))], []⟩ ?_
   refine zE (.v (.bool false)) ?_
   have hne : ((St.mk kda ika keya tia va srca wkc wksa bita maska) : St) ≠ (St.mk kdb ikb keyb tib vb srcb wkd wksb bitb maskb) := st_ne b0
   rw [show decide ((Cf.mk ga sa ka sza sla ofa gpa lta eaa da) = (Cf.mk gb sb kb szb slb ofb gpb ltb eab db) ∧ wka = wkb ∧ xs = ys) = false from decide_eq_false fun ⟨e1, e2, e3⟩ => hne (by rw [e3, hy] at hx; exact (Option.some.inj hx).symm)]
   intro ρ w9 hm' hf
   exact ⟨rfl, hm'.below⟩
  refine zR 44 b0 ?_
  refine zN [2, 3, 5] 2 ⟨.exit .normal, [kn0, .block 0, (sq11 [1, 1, 1])], [(2, .lp 0 0), (3, .lp 1 0), (5, .io .i64 (IntKind.i64.wrap ((↑i : Int) + 1)))], [((cwAS ga sa ka sza sla ofa gpa lta eaa da wka (some a) n ca), 28), ((cwAS gb sb kb szb slb ofb gpb ltb eab db wkb (some b) m cb), 28)]⟩ ?_
  have heq : ((St.mk kda ika keya tia va srca wkc wksa bita maska) : St) = (St.mk kdb ikb keyb tib vb srcb wkd wksb bitb maskb) := st_eq b0
  have hw3 : IntKind.i64.wrap ((i : Int) + 1) = ((i + 1 : Nat) : Int) := by
   rw [wrap63 (by omega) (by omega)]
   omega
  rw [hw3]
  refine At.next (σ := Nat) (i + 1) rfl rfl (by unfold subFr; kernel_rfl) (by kernel_rfl) ?_ ?_
  ·intro ρ a' w' hi' hf
   refine ⟨trivial, by omega, fun k hk => ?_⟩
   by_cases hki : k = i
   ·subst hki
    rw [hx, hy, heq]
   exact h2 k (by omega)
  show n - (i + 1) < n - i
  omega
 refine zR 31 b0 ?_
 refine zN [4] 0 ⟨.exit .ret, [], [(4, .v (.bool true))], []⟩ ?_
 refine zE (.v (.bool true)) ?_
 have hi : ¬ (i : Int) < (n : Int) := of_decide_eq_false b0
 rw [show decide ((Cf.mk ga sa ka sza sla ofa gpa lta eaa da) = (Cf.mk gb sb kb szb slb ofb gpb ltb eab db) ∧ wka = wkb ∧ xs = ys) = true from decide_eq_true ⟨he1, he2, List.ext_getElem? fun k => if hk : k < i then h2 k hk else by rw [List.getElem?_eq_none (by rw [← hS.1]; omega), List.getElem?_eq_none (by rw [← hT.1]; omega)]⟩]
 intro ρ w9 hm' hf
 exact ⟨rfl, hm'.below⟩
end Go.Proofs.YthfpekhpeiebjaaGreatDoor
end
section
namespace Go.Proofs.YthfpekhpeiebjaaGreatDoor
open Go.RowKit Go.Sx
def kc : Cf := ⟨4, 2, 1, 10, 0, 0, 0, 0, 0, false⟩
def kx : List St := [pk 1, ev [97] 5 (-1)]
def kt : List UInt8 := [106, 111, 98, 32, 103, 114, 111, 117, 112, 115, 32, 52, 32, 115, 111, 117, 114, 99, 101, 115, 32, 50, 32, 107, 105, 110, 100, 32, 116, 117, 109, 98, 108, 105, 110, 103, 32, 115, 105, 122, 101, 32, 49, 48, 32, 115, 108, 105, 100, 101, 32, 48, 32, 111, 102, 102, 115, 101, 116, 32, 48, 32, 103, 97, 112, 32, 48, 32, 108, 97, 116, 101, 32, 48, 32, 101, 97, 114, 108, 121, 32, 48, 32, 100, 105, 115, 99, 97, 114, 100, 32, 110, 111, 10, 119, 111, 114, 107, 101, 114, 115, 32, 50, 10, 112, 105, 99, 107, 32, 49, 10, 101, 118, 101, 110, 116, 32, 34, 97, 34, 32, 53, 32, 45, 49, 10]
theorem kchk : (chkP kc 2 kx).2 = 0 := by decide +kernel
theorem kok : ∀ x ∈ kx, x.ok := by
 intro x hx
 simp only [kx, List.mem_cons, List.not_mem_nil, or_false] at hx
 rcases hx with rfl | rfl <;> simp [St.ok, pk, ev, in64]
def kF (a b c d e f g : List UInt8) : List UInt8 := [106, 111, 98, 32] ++ Lib.join (weaveL wordsW [a, b, kindW 1, d, e, e, e, e, e, saysW false]) [32] ++ [10, 119, 111, 114, 107, 101, 114, 115, 32] ++ b ++ [10] ++ (([112, 105, 99, 107, 32] ++ c ++ [10]) ++ (([101, 118, 101, 110, 116, 32] ++ quoteB [97] ++ [32] ++ f ++ [32] ++ g ++ [10]) ++ []))
theorem dec1 {u : Nat} (h : u < 10) : Lib.decDigits u = [UInt8.ofNat (48 + u)] := by
 rw [Lib.decDigits, dif_pos h]
theorem ito1 (u : Nat) (h : u < 10) : Lib.itoa (u : Int) = [UInt8.ofNat (48 + u)] := by
 unfold Lib.itoa
 rw [if_neg (by omega), Int.toNat_natCast, dec1 h]
theorem it10 : Lib.itoa 10 = [49, 48] := by
 show Lib.decDigits 10 = _
 rw [Lib.decDigits, dif_neg (by decide), dec1 (by decide)]
 rfl
theorem itm1 : Lib.itoa (-1) = [45, 49] := by
 show 45 :: Lib.decDigits 1 = _
 rw [dec1 (by decide)]
 rfl
theorem ktext : scriptB kc 2 kx = kt := by
 have h : scriptB kc 2 kx = kF (Lib.itoa (4 : Nat)) (Lib.itoa (2 : Nat)) (Lib.itoa (1 : Nat)) (Lib.itoa 10) (Lib.itoa (0 : Nat)) (Lib.itoa (5 : Nat)) (Lib.itoa (-1)) := rfl
 rw [h, ito1 4 (by decide), ito1 2 (by decide), ito1 1 (by decide), ito1 0 (by decide), ito1 5 (by decide), it10, itm1]
 decide +kernel
theorem kparse : parseS kt = ⟨4, kc, 2, kx, none⟩ := by
 rw [← ktext]
 exact parse_script kchk kok
theorem ent_sls {w0 w : World} {A : Option Addr} {n c n2 : Nat} {B : Option Addr} {xs : List St} {ρ : List Nat} (h : EntV w0 A n c (B, stW xs) ρ w) (hn : n2 = xs.length) : SlS w B n2 xs := by
 obtain ⟨b, hb, _, _, _, _, hs⟩ := h
 simp only at hb
 subst hb
 exact ⟨hn, by simp, fun a ha => by injection ha with ha; subst ha; exact hs⟩
noncomputable def B8 : Code := (Tryz.f8.body).getD .skip
noncomputable def sq8 (p : List Nat) : Go.Sx.K := .seq (sub B8 p)
set_option maxHeartbeats 8000000 in
set_option maxRecDepth 100000 in
theorem known_true (w : World) (hw : Wd w) : Calls Tryz.prog 8 #[] w fun e w' => e = .returned (.bool true) ∧ Below w.heap.size w w' := by
 refine enterF (N := w.heap.size) (F := RowE w (fun _ => False) [] w.heap.size 41 10 none 0 0 [] []) (fn := Tryz.f8) (c := B8) [] Tryz.func8 rfl rfl (Nat.le_refl _) ⟨⟨⟨⟨World.ownsRow_nil _ _ _ _, by simp [Value.ownBlock]⟩, Nat.le_refl _⟩, FrameR.start _ [] (by simp), by simp [Value.ownBlock]⟩, by simp⟩ ?_
 refine zI [9, 13] 1 ⟨pops B8 [1, 0] 5, [(sq8 [1, 1])], [(9, .agg zAS6), (13, .ls 0 0 2 2)], [(zAS0, 41)]⟩ ?_
 refine At.mkrowE (e2 := 41) (size2 := 10) 15 [.agg zAS6, .v (.int .i64 2), .ls 0 0 2 2] (fun A' n' c' => .tup [.agg [.v (.int .i64 4), .v (.int .i64 2), .v (.int .i64 1), .v (.int .i64 10), .v (.int .i64 0), .v (.int .i64 0), .v (.int .i64 0), .v (.int .i64 0), .v (.int .i64 0), .v (.bool false), .v (.int .i64 2), .sl A' n' c'], .v (.int .i64 0)]) (stW kx) (by kernel_rfl) (by kernel_rfl) (by kernel_rfl) (by kernel_rfl) (by kernel_rfl) (by simp [stW, St.w, kx, pk]) (fun ρ w1 hm' hf => ?_) ?_
 ·have hS : SlS w1 (some ⟨nth ρ 0, 0, none⟩) 2 kx := ⟨rfl, by simp, fun a ha j u hj => by
   injection ha with ha
   subst ha
   rw [add_ok, cell_of_loc hm' (i := 0) rfl, Nat.zero_add, ← List.getElem?_map]
   exact hj⟩
  refine (put_go 4 2 1 10 0 0 0 0 0 false 2 (some ⟨nth ρ 0, 0, none⟩) 2 2 kx w1 hS (by decide)).mono fun e w2 h => ?_
  unfold putE at h
  rw [if_pos (show (chkP ⟨4, 2, 1, 10, 0, 0, 0, 0, 0, false⟩ 2 kx).2 = 0 from kchk)] at h
  obtain ⟨A', c', h1, h2⟩ := h
  exact ⟨A', 2, c', h1, h2⟩
 intro A1 n1 c1
 refine At.pure fun ⟨hn1, hc1⟩ => ?_
 obtain rfl : n1 = 2 := by
  have h20 : (stW kx).length = 20 := rfl
  omega
 clear hn1 hc1
 refine zI [1, 2, 18] 2 ⟨pops B8 [1, 1, 0] 1, [(sq8 [1, 1, 1])], [(1, .lp 1 0), (2, .v (.int .i64 0)), (18, .agg [.v (.int .i64 4), .v (.int .i64 2), .v (.int .i64 1), .v (.int .i64 10), .v (.int .i64 0), .v (.int .i64 0), .v (.int .i64 0), .v (.int .i64 0), .v (.int .i64 0), .v (.bool false), .v (.int .i64 2), .sl A1 2 c1])], [(zAS0, 41), ([.v (.int .i64 4), .v (.int .i64 2), .v (.int .i64 1), .v (.int .i64 10), .v (.int .i64 0), .v (.int .i64 0), .v (.int .i64 0), .v (.int .i64 0), .v (.int .i64 0), .v (.bool false), .v (.int .i64 2), .sl A1 2 c1], 28)]⟩ ?_
 refine zC RowE.stable 12 [.agg [.v (.int .i64 4), .v (.int .i64 2), .v (.int .i64 1), .v (.int .i64 10), .v (.int .i64 0), .v (.int .i64 0), .v (.int .i64 0), .v (.int .i64 0), .v (.int .i64 0), .v (.bool false), .v (.int .i64 2), .sl A1 2 c1]] (.tup [.so (mkB kt), .v (.int .i64 0)]) (fun _ _ w1 hi hf => (text_go 4 2 1 10 0 0 0 0 0 false 2 A1 2 c1 kx w1 (hw.below hi.mem.below) (ent_sls (hf.2 _ (by simp)) rfl) (by decide) kok).mono fun e w2 h => ⟨h.1.trans (by rw [show textP ⟨4, 2, 1, 10, 0, 0, 0, 0, 0, false⟩ 2 kx = (scriptB kc 2 kx, 0) from if_pos kchk, ktext]; rfl), h.2⟩) ?_
 refine zI [1, 2, 3, 4, 23] 2 ⟨pops B8 [1, 1, 1, 0] 1, [(sq8 [1, 1, 1, 1])], [(1, .lp 1 0), (2, .v (.int .i64 0)), (3, .so (mkB kt)), (4, .v (.int .i64 0)), (23, .so (mkB kt))], [(zAS0, 41), ([.v (.int .i64 4), .v (.int .i64 2), .v (.int .i64 1), .v (.int .i64 10), .v (.int .i64 0), .v (.int .i64 0), .v (.int .i64 0), .v (.int .i64 0), .v (.int .i64 0), .v (.bool false), .v (.int .i64 2), .sl A1 2 c1], 28)]⟩ ?_
 refine At.mkrowE (e2 := 41) (size2 := 10) 9 [.so (mkB kt)] (fun A' n' c' => .tup [.agg [.v (.int .i64 4), .v (.int .i64 2), .v (.int .i64 1), .v (.int .i64 10), .v (.int .i64 0), .v (.int .i64 0), .v (.int .i64 0), .v (.int .i64 0), .v (.int .i64 0), .v (.bool false), .v (.int .i64 2), .sl A' n' c'], .v (.int .i64 4), .v (.int .i64 0)]) (stW kx) (by kernel_rfl) (by kernel_rfl) (by kernel_rfl) (by kernel_rfl) (by kernel_rfl) (by simp [stW, St.w, kx, pk]) (fun ρ w1 hm' hf => ?_) ?_
 ·refine (parse_kit kt (by decide +kernel) w1 (hw.below hm'.below)).mono fun e w2 h => ?_
  rw [kparse] at h
  unfold parseE at h
  rw [if_pos (by decide)] at h
  obtain ⟨A', c', h1, h2⟩ := h
  exact ⟨A', 2, c', h1, h2⟩
 intro A2 n2 c2
 refine At.pure fun ⟨hn2, hc2⟩ => ?_
 obtain rfl : n2 = 2 := by
  have h20 : (stW kx).length = 20 := rfl
  omega
 clear hn2 hc2
 refine zI [3, 42, 43, 44] 0 ⟨pops B8 [1, 1, 1, 1, 0] 17, [(sq8 pAS25)], [(3, .so (mkB kt)), (42, .v (.bool true)), (43, .agg [.v (.int .i64 4), .v (.int .i64 2), .v (.int .i64 1), .v (.int .i64 10), .v (.int .i64 0), .v (.int .i64 0), .v (.int .i64 0), .v (.int .i64 0), .v (.int .i64 0), .v (.bool false), .v (.int .i64 2), .sl A1 2 c1]), (44, .agg [.v (.int .i64 4), .v (.int .i64 2), .v (.int .i64 1), .v (.int .i64 10), .v (.int .i64 0), .v (.int .i64 0), .v (.int .i64 0), .v (.int .i64 0), .v (.int .i64 0), .v (.bool false), .v (.int .i64 2), .sl A2 2 c2])], []⟩ ?_
 refine zC RowE.stable 11 [.agg [.v (.int .i64 4), .v (.int .i64 2), .v (.int .i64 1), .v (.int .i64 10), .v (.int .i64 0), .v (.int .i64 0), .v (.int .i64 0), .v (.int .i64 0), .v (.int .i64 0), .v (.bool false), .v (.int .i64 2), .sl A1 2 c1], .agg [.v (.int .i64 4), .v (.int .i64 2), .v (.int .i64 1), .v (.int .i64 10), .v (.int .i64 0), .v (.int .i64 0), .v (.int .i64 0), .v (.int .i64 0), .v (.int .i64 0), .v (.bool false), .v (.int .i64 2), .sl A2 2 c2]] (.v (.bool true)) (fun _ _ w1 hi hf => (same_go 4 2 1 10 0 0 0 0 0 false 2 A1 2 c1 kx 4 2 1 10 0 0 0 0 0 false 2 A2 2 c2 kx w1 (ent_sls (hf.2 (A1, stW kx) (by simp)) rfl) (ent_sls (hf.2 (A2, stW kx) (by simp)) rfl) (by decide) (by decide)).mono fun e w2 h => ⟨h.1.trans (by rw [decide_eq_true ⟨rfl, rfl, rfl⟩]; rfl), h.2⟩) ?_
 refine zI [3, 52] 0 ⟨pops B8 [1, 1, 1, 1, 0] 25, [(sq8 pAS25)], [(3, .so (mkB kt)), (52, .bo true)], []⟩ ?_
 refine At.res 52 (true) true (by kernel_rfl) (by first | assumption | (simp only [*]; done) | (simp [*]; done)) ?_
 refine zI [52, 53, 56] 0 ⟨pops B8 [1, 1, 1, 1, 0] 29, [(sq8 pAS25)], [(52, .v (.bool true)), (53, .so (mkB kt)), (56, .io .i64 104)], []⟩ ?_
 refine sslW kt 104 [112, 105, 99, 107, 32, 49, 10, 101, 118, 101, 110, 116, 32, 34, 97, 34, 32, 53, 32, 45, 49, 10] (by decide +kernel) (by kernel_rfl) (by decide) RowE.stable ?_
 refine zI [0] 0 ⟨.exit .ret, [], [(0, .bo true)], []⟩ ?_
 refine zE (.bo true) ?_
 intro ρ w9 hm' hf
 exact ⟨rfl, hm'.below⟩
end Go.Proofs.YthfpekhpeiebjaaGreatDoor
end
section
namespace Go.Proofs.YthfpekhpeiebjaaGreatDoor
open Go.RowKit Go.Sx
structure LSt where
 A : Option Addr
 n : Nat
 c : Nat
 acc : List Nat
 i : Nat
end Go.Proofs.YthfpekhpeiebjaaGreatDoor
end
section
/- Plain: a script's text cut off behind a line, and within one. -/
namespace Go.Proofs.YthfpekhpeiebjaaGreatDoor
open Go.RowKit Go.Sx Go.Lib
end Go.Proofs.YthfpekhpeiebjaaGreatDoor
end
