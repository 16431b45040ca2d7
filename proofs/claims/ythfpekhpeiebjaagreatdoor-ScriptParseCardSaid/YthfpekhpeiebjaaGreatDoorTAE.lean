/- Joined texts: RD. -/
import Derived.Test.YthfpekhpeiebjaaGreatDoorTAD
set_option linter.unusedSimpArgs false
set_option linter.unusedVariables false
namespace Go.Sx
open Go
def pAE0 : List Nat := [1, 1, 1, 1, 0, 4, 4, 1, 4, 1, 0, 0]
def pAE1 : List Nat := [1, 1, 1, 1, 0, 4, 4, 1, 4, 1, 0, 1]
def pAE2 : List Nat := [1, 1, 1, 1, 0, 4, 4, 1, 4, 1, 1, 0]
def pAE3 : List Nat := [1, 1, 1, 1, 0, 4, 4, 1, 4, 1, 1]
def pAE4 : List Nat := [1, 1, 1, 1, 0, 4, 4, 1, 4, 1]
def pAE5 : List Nat := [1, 1, 1, 1, 0, 4, 4, 0, 1]
def pAE6 : List Nat := [1, 1, 1, 1, 0, 4, 4, 1]
def pAE7 : List Nat := [1, 1, 1, 1, 1, 0, 1]
def pAE8 : List Nat := [1, 1, 1, 1, 1, 1]
def pAE9 : List Nat := [1, 1, 1, 1, 1]
end Go.Sx
section
namespace Go.Proofs.YthfpekhpeiebjaaGreatDoor
open Go.RowKit Go.Sx
theorem keyR_ne {y : UInt8} {l : List UInt8} (h : y ≠ 34) : keyR (y :: l) = none := by
 unfold keyR
 split
 ·rename_i s e
  injection e with e _
  exact absurd e h
 rfl
theorem lno_short (b : List UInt8) (i : Nat) (l : List UInt8) (h : l.length < 3) : lno b i (92 :: l) = none := by
 rw [lno_cons, if_neg (by decide), if_pos rfl]
 match l, h with
 | [], _ => rfl
 | [_], _ => rfl
 | [_, _], _ => rfl
theorem cadd_all : ∀ i j : Fin 16, IntKind.u8.wrap (IntKind.i64.wrap (IntKind.i64.wrap (16 * ((i.val : Nat) : Int)) + ((j.val : Nat) : Int))) = ((16 * i.val + j.val : Nat) : Int) := by decide +kernel
def finR (s : List UInt8) : Option (List UInt8 × Nat) → Option (List UInt8 × Nat)
 | some (b, i) => if s.length ≤ i ∨ quoteB b ≠ s.take (i + 1) then none else some (b, i + 1)
 | none => none
theorem keyR_fin (l : List UInt8) : keyR (34 :: l) = finR (34 :: l) (lno [] 1 l) := by
 unfold keyR finR
 rfl
section
variable {P : Program} {Q : Exit → Act → World → Prop} {N : Nat} {w0 : World} {ntm : Nat} {F : List Nat → World → Prop}
def sstQ (P : Program) (fr : Fr) (o : Oper) : Option (ByteArray × Int) :=
 match o.op with
 | .slice t x none (some h) none => match P.underlying t, (evalS fr x).bind litOf, (evalS fr h).bind litOf with
  | some .string, some (.string s, _), some (.int _ r, _) => some (s, r)
  | _, _, _ => none
 | _ => none
theorem run_sstQ {ρ : List Nat} {fr : Fr} {act : Act} (ha : AInv ntm ρ fr act) {o : Oper} {s : ByteArray} {r : Int} (hq : sstQ P fr o = some (s, r)) (h0 : 0 ≤ r) (h2 : r ≤ s.size) (w : World) :
  (execOp act.eval o).run P w = .ok (.value (.string (s.extract 0 r.toNat))) w := by
 obtain ⟨dst, op, ty, pos, after, guard⟩ := o
 unfold sstQ at hq
 simp only at hq
 split at hq
 ·rename_i t x h
  split at hq
  ·rename_i s' l1 k r' l2 hu hx hh
   obtain ⟨sx, hsx, hlx⟩ := Option.bind_eq_some_iff.1 hx
   obtain ⟨sl, hsl, hll⟩ := Option.bind_eq_some_iff.1 hh
   simp only [Option.some.injEq, Prod.mk.injEq] at hq
   obtain ⟨rfl, rfl⟩ := hq
   have eh : (r'.toNat : Int) = r' := Int.toNat_of_nonneg (by omega)
   have hr : (Instr.slice t (.string s') none (some (.int k r')) none).run P w = .ok (.string (s'.extract 0 r'.toNat)) w := by
    simp [Instr.slice, run_underlying hu, Instr.sliceBounds, run_sliceBound, sliced, h0, h2, eh]
   simp [execOp, evalS_sound ha hsx, evalS_sound ha hsl, litOf_den hlx, litOf_den hll, run_sliceAt_string w t _ _ _ _ hu, hr]
  cases hq
 cases hq
def sstI (P : Program) (ntm : Nat) (s : S) : Option (ByteArray × Int) :=
 match s.head?, s.dstOk ntm with
 | some o, true => sstQ P s.fr o
 | _, _ => none
theorem sslT {s : S} (x : List UInt8) (k : Nat) (hq : sstI P ntm s = some (mkB x, (k : Int))) (hk : k ≤ x.length) (hF : Stable F) (h : At P Q N w0 ntm F (s.tail ntm (.so (mkB (x.take k))))) : At P Q N w0 ntm F s := by
 have e : (mkB x).extract 0 (k : Int).toNat = mkB (x.take k) := by
  apply ByteArray.ext
  rw [ByteArray.data_extract]
  apply Array.ext'
  simp [mkB]
 unfold sstI at hq
 split at hq
 ·rename_i o ho hd
  refine At.op hF o (.so (mkB (x.take k))) ho hd (fun ρ act w hi _ => ?_) h
  rw [← e]
  exact run_sstQ hi.act hq (by omega) (by rw [mkB_size]; omega) w
 cases hq
end
structure KSt where
 A : Option Addr
 n : Nat
 c : Nat
 acc : List UInt8
 i : Nat
def frKS (s : List UInt8) : KSt → Fr
 | ⟨A, n, c, _, i⟩ => [(0, .so (mkB s)), (4, .sl A n c), (5, .io .i64 (i : Int))]
def locKS (_ : KSt) : Sx.Loc := []
def muKS (s : List UInt8) (x : KSt) : Nat := s.length - x.i
def GKS (w0 : World) (s : List UInt8) (R : Option (List UInt8 × Nat)) (x : KSt) (ρ : List Nat) (w : World) : Prop :=
 RowF w0 (fun _ => False) [] w0.heap.size 5 1 x.A x.n x.c (bw x.acc) ρ w ∧ (finR s (lno x.acc x.i (s.drop x.i)) = R ∧ x.i ≤ s.length ∧ x.n = x.acc.length ∧ x.n ≤ x.i)
def keyRV : Option (List UInt8 × Nat) → Value
 | some (k, n) => .tuple #[.string (mkB k), .int .i64 (n : Int)]
 | none => .tuple #[.string ⟨#[]⟩, .int .i64 0]
noncomputable def B86 : Code := (Tryz.f86.body).getD .skip
noncomputable def sq86 (p : List Nat) : Go.Sx.K := .seq (sub B86 p)
set_option maxHeartbeats 20000000 in
set_option maxRecDepth 100000 in
theorem rkey_any (s : List UInt8) (hs : s.length ≤ 1048576) (w : World) :
  Calls Tryz.prog 86 #[.string (mkB s)] w fun e w' => e = .returned (keyRV (keyR s)) ∧ Below w.heap.size w w' := by
 refine enterF (N := w.heap.size) (F := RowF w (fun _ => False) [] w.heap.size 5 1 none 0 0 []) (fn := Tryz.f86) (c := B86) [.so (mkB s)] Tryz.func86 rfl rfl (Nat.le_refl _) ⟨⟨⟨World.ownsRow_nil _ _ _ _, by simp [Value.ownBlock]⟩, Nat.le_refl _⟩, FrameR.start _ [] (by simp), by simp [Value.ownBlock]⟩ ?_
 refine zTq RowF.stable RowF.fewer [0, 8] 0 ?_
 rcases zB ((mkB s).toList == (ByteArray.mk #[]).toList) with b0 | b0
 ·refine zR 8 b0 ?_
  refine zF [2, 3] 0 ⟨.exit .ret, [], [(2, .v (.string (ByteArray.mk #[]))), (3, .v (.int .i64 0))], []⟩ ?_
  refine zE (.tup [.v (.string (ByteArray.mk #[])), .v (.int .i64 0)]) ?_
  have he := emp_true b0
  subst he
  intro ρ w9 hm hf
  exact ⟨by rw [show keyR [] = none from rfl]; rfl, hm.below⟩
 refine zR 8 b0 ?_
 refine zF [0, 8, 9] 0 ⟨pops B86 [1, 0, 0] 4, [(sq86 [1, 0, 1]), (sq86 [1, 1])], [(0, .so (mkB s)), (8, .v (.bool false)), (9, .so (mkB s))], []⟩ ?_
 obtain ⟨y, l, rfl⟩ := emp_false b0
 refine At.six (mkB (y :: l)) 0 y (by kernel_rfl) (by omega) rfl RowF.stable ?_
 refine zTq RowF.stable RowF.fewer [0, 12] 0 ?_
 rcases zB ((↑y.toNat : Int) != 34) with b0 | b0
 ·refine zR 12 b0 ?_
  refine zF [2, 3] 0 ⟨.exit .ret, [], [(2, .v (.string (ByteArray.mk #[]))), (3, .v (.int .i64 0))], []⟩ ?_
  refine zE (.tup [.v (.string (ByteArray.mk #[])), .v (.int .i64 0)]) ?_
  have hy : y ≠ 34 := fun e => by subst e; simp at b0
  intro ρ w9 hm hf
  exact ⟨by rw [keyR_ne hy]; rfl, hm.below⟩
 refine zR 12 b0 ?_
 refine zF [0, 4, 5] 0 ⟨.code (sub B86 [1, 1, 1, 1, 0, 4]), [.block 0, (sq86 pAE9)], [(0, .so (mkB (y :: l))), (4, .v (.slice none 0 0)), (5, .v (.int .i64 1))], []⟩ ?_
 have hy : y = 34 := UInt8.toNat_inj.1 (by simp at b0; show y.toNat = 34; omega)
 subst hy
 clear b0
 rw [keyR_fin]
 generalize hR : finR (34 :: l) (lno [] 1 l) = R
 refine At.canon _ rfl ?_
 refine At.slFr _ rfl ?_
 refine At.loop (σ := KSt) (sub B86 [1, 1, 1, 1, 0, 4, 4]) (frKS (34 :: l)) locKS (GKS w (34 :: l) R) (muKS (34 :: l)) ⟨none, 0, 0, [], 1⟩ (by kernel_rfl) (by unfold subFr; kernel_rfl) (by kernel_rfl) (fun _ _ _ _ h => ⟨h, hR, by simp only [List.length_cons]; omega, rfl, by decide⟩) ?_
 clear hR
 rintro ⟨A, n, c, acc, i⟩
 refine At.pure fun ⟨h1, h2, h3, h4⟩ => ?_
 simp only at h1 h2 h3 h4
 refine zTq RowF.stable RowF.fewer [0, 4, 5, 17] 0 ?_
 rcases zB (decide ((↑i : Int) < (↑(mkB (34 :: l)).size : Int))) with b0 | b0
 ·refine zR 17 b0 ?_
  let kn0 : K := .next (Sx.Next w.heap.size w Tryz.f86.ntmps (frKS (34 :: l)) locKS (GKS w (34 :: l) R) (muKS (34 :: l)) (KSt.mk A n c acc i))
  refine zF [0, 4, 5, 17, 18, 19] 0 ⟨pops B86 [1, 1, 1, 1, 0, 4, 4, 0, 0] 7, [(sq86 pAE5), (sq86 pAE6), kn0, .block 0, (sq86 pAE9)], [(0, .so (mkB (34 :: l))), (4, .sl A n c), (5, .io .i64 (↑i : Int)), (17, .v (.bool true)), (18, .so (mkB (34 :: l))), (19, .io .i64 (↑i : Int))], []⟩ ?_
  have hi : i < (34 :: l).length := by have := of_decide_eq_true b0; rw [mkB_size] at this; omega
  clear b0
  obtain ⟨y, hz⟩ : ∃ y, (34 :: l)[i]? = some y := ⟨_, List.getElem?_eq_getElem hi⟩
  have hy := y.toNat_lt
  rw [drop_at hz] at h1
  refine At.six (mkB (34 :: l)) (i : Int) y (by kernel_rfl) (by omega) (by rw [Int.toNat_natCast]; exact hz) RowF.stable ?_
  refine zTq RowF.stable RowF.fewer [0, 4, 5, 22] 0 ?_
  rcases zB ((↑y.toNat : Int) != 34) with b0 | b0
  ·refine zR 22 b0 ?_
   refine zF [0, 4, 5, 23, 24] 0 ⟨pops B86 [1, 1, 1, 1, 0, 4, 4, 1, 4, 0, 0] 2, [(sq86 [1, 1, 1, 1, 0, 4, 4, 1, 4, 0, 1]), (sq86 pAE4), .block 1, kn0, .block 0, (sq86 pAE9)], [(0, .so (mkB (34 :: l))), (4, .sl A n c), (5, .io .i64 (↑i : Int)), (23, .so (mkB (34 :: l))), (24, .io .i64 (↑i : Int))], []⟩ ?_
   have n34 : y ≠ 34 := fun e => by subst e; exact absurd b0 (by decide)
   clear b0
   refine At.six (mkB (34 :: l)) (i : Int) y (by kernel_rfl) (by omega) (by rw [Int.toNat_natCast]; exact hz) RowF.stable ?_
   refine zTq RowF.stable RowF.fewer [0, 4, 5, 26] 0 ?_
   rcases zB ((↑y.toNat : Int) != 92) with b0 | b0
   ·refine zR 26 b0 ?_
    refine zF [0, 5, 27, 28, 29] 0 ⟨pops B86 [1, 1, 1, 1, 0, 4, 4, 1, 4, 0, 1, 2, 0] 3, [(sq86 [1, 1, 1, 1, 0, 4, 4, 1, 4, 0, 1, 2, 1]), (sq86 pAE4), .block 1, kn0, .block 0, (sq86 pAE9)], [(0, .so (mkB (34 :: l))), (5, .io .i64 (↑i : Int)), (27, .sl A n c), (28, .so (mkB (34 :: l))), (29, .io .i64 (↑i : Int))], []⟩ ?_
    have n92 : y ≠ 92 := fun e => by subst e; exact absurd b0 (by decide)
    clear b0
    rw [lno_step acc i y _ n34 n92] at h1
    refine At.six (mkB (34 :: l)) (i : Int) y (by kernel_rfl) (by omega) (by rw [Int.toNat_natCast]; exact hz) RowF.stable ?_
    refine zF [0, 5, 27, 31] 1 ⟨pops B86 [1, 1, 1, 1, 0, 4, 4, 1, 4, 0, 1, 2, 0] 5, [(sq86 [1, 1, 1, 1, 0, 4, 4, 1, 4, 0, 1, 2, 1]), (sq86 pAE4), .block 1, kn0, .block 0, (sq86 pAE9)], [(0, .so (mkB (34 :: l))), (5, .io .i64 (↑i : Int)), (27, .sl A n c), (31, .ls 0 0 1 1)], [([.io IntKind.u8 (↑y.toNat : Int)], 5)]⟩ ?_
    refine At.app (55) (5) (1) (1) (A) (n) (c) (1) ([.io IntKind.u8 (↑y.toNat : Int)]) _ _ _ _ ([.int IntKind.u8 (↑y.toNat : Int)]) (by kernel_rfl) (fun ρ => by kernel_rfl) (by first | omega | (simp only [Go.maxLen]; omega)) (by first | omega | (simp only [Go.maxLen]; omega)) (by first | omega | (simp only [Go.maxLen]; omega)) fun A0 c0 => ?_
    refine zF [0, 4, 5] 0 ⟨.exit .normal, [kn0, .block 0, (sq86 pAE9)], [(0, .so (mkB (34 :: l))), (4, .sl A0 (n + 1) c0), (5, .io .i64 (IntKind.i64.wrap ((↑i : Int) + 1)))], []⟩ ?_
    have hw1 : IntKind.i64.wrap ((i : Int) + 1) = ((i + 1 : Nat) : Int) := by
     rw [wrap63 (by simp only [List.length_cons] at h2 hs; omega) (by simp only [List.length_cons] at h2 hs; omega)]
     omega
    rw [hw1]
    refine At.next (σ := KSt) ⟨A0, n + 1, c0, acc ++ [y], i + 1⟩ rfl rfl (by unfold subFr; kernel_rfl) (by kernel_rfl) ?_ ?_
    ·intro ρ a' w' hi' hf
     exact ⟨by rw [bw_app]; exact hf, h1, by simp only; omega, by simp only [List.length_append, List.length_singleton]; omega, by simp only; omega⟩
    simp only [muKS]
    omega
   refine zR 26 b0 ?_
   refine zF [0, 4, 5, 40] 0 ⟨pops B86 pAE0 6, [(sq86 pAE1), (sq86 pAE3), .block 1, kn0, .block 0, (sq86 pAE9)], [(0, .so (mkB (34 :: l))), (4, .sl A n c), (5, .io .i64 (↑i : Int)), (40, .bo (decide (IntKind.i64.wrap ((↑i : Int) + 4) > (↑(mkB (34 :: l)).size : Int))))], []⟩ ?_
   rcases zB (decide (IntKind.i64.wrap ((↑i : Int) + 4) > (↑(mkB (34 :: l)).size : Int))) with b1 | b1
   ·refine zR 40 b1 ?_
    refine zF [2, 3] 0 ⟨.exit .ret, [], [(2, .v (.string (ByteArray.mk #[]))), (3, .v (.int .i64 0))], []⟩ ?_
    refine zE (.tup [.v (.string (ByteArray.mk #[])), .v (.int .i64 0)]) ?_
    have e92 : y = 92 := UInt8.toNat_inj.1 (by simp at b0; show y.toNat = 92; omega)
    subst e92
    have hw4 : IntKind.i64.wrap ((i : Int) + 4) = ((i + 4 : Nat) : Int) := by
     rw [wrap63 (by simp only [List.length_cons] at h2 hs; omega) (by simp only [List.length_cons] at h2 hs; omega)]
     omega
    rw [hw4, mkB_size] at b1
    have hsz := of_decide_eq_true b1
    intro ρ w9 hm hf
    exact ⟨by rw [← h1, lno_short acc i _ (by rw [List.length_drop]; omega)]; rfl, hm.below⟩
   refine zR 40 b1 ?_
   let kn1 : K := .next (Sx.Next w.heap.size w Tryz.f86.ntmps (frKS (34 :: l)) locKS (GKS w (34 :: l) R) (muKS (34 :: l)) (KSt.mk A n c acc i))
   refine zF [0, 4, 5, 40, 41, 43] 0 ⟨pops B86 pAE0 9, [(sq86 pAE1), (sq86 pAE3), .block 1, kn1, .block 0, (sq86 pAE9)], [(0, .so (mkB (34 :: l))), (4, .sl A n c), (5, .io .i64 (↑i : Int)), (40, .v (.bool false)), (41, .so (mkB (34 :: l))), (43, .io .i64 (IntKind.i64.wrap ((↑i : Int) + 2)))], []⟩ ?_
   have e92 : y = 92 := UInt8.toNat_inj.1 (by simp at b0; show y.toNat = 92; omega)
   subst e92
   have hw4 : IntKind.i64.wrap ((i : Int) + 4) = ((i + 4 : Nat) : Int) := by
    rw [wrap63 (by simp only [List.length_cons] at h2 hs; omega) (by simp only [List.length_cons] at h2 hs; omega)]
    omega
   rw [hw4, mkB_size] at b1
   have hsz := of_decide_eq_false b1
   clear b0 b1
   obtain ⟨x, h, l3, r, hdr⟩ := three (l := (34 :: l).drop (i + 1)) (by rw [List.length_drop]; omega)
   rw [hdr, lno_esc] at h1
   have g2 : (34 :: l)[i + 2]? = some h := by rw [← show ((34 :: l).drop (i + 1))[1]? = (34 :: l)[i + 2]? from List.getElem?_drop, hdr]; rfl
   have g3 : (34 :: l)[i + 3]? = some l3 := by rw [← show ((34 :: l).drop (i + 1))[2]? = (34 :: l)[i + 3]? from List.getElem?_drop, hdr]; rfl
   have g4 : (34 :: l).drop (i + 4) = r := by have := congrArg (fun z : List UInt8 => z.drop 3) hdr; rw [List.drop_drop] at this; exact this
   have hh := h.toNat_lt
   have hh3 := l3.toNat_lt
   have hw2 : IntKind.i64.wrap ((i : Int) + 2) = ((i + 2 : Nat) : Int) := by
    rw [wrap63 (by simp only [List.length_cons] at h2 hs; omega) (by simp only [List.length_cons] at h2 hs; omega)]
    omega
   have hw3 : IntKind.i64.wrap ((i : Int) + 3) = ((i + 3 : Nat) : Int) := by
    rw [wrap63 (by simp only [List.length_cons] at h2 hs; omega) (by simp only [List.length_cons] at h2 hs; omega)]
    omega
   rw [hw2]
   refine At.six (mkB (34 :: l)) ((i + 2 : Nat) : Int) h (by kernel_rfl) (by omega) (by rw [Int.toNat_natCast]; exact g2) RowF.stable ?_
   refine zF [0, 4, 5, 40, 44] 0 ⟨pops B86 pAE0 10, [(sq86 pAE1), (sq86 pAE3), .block 1, kn1, .block 0, (sq86 pAE9)], [(0, .so (mkB (34 :: l))), (4, .sl A n c), (5, .io .i64 (↑i : Int)), (40, .v (.bool false)), (44, .io IntKind.u8 (↑h.toNat : Int))], []⟩ ?_
   refine zC RowF.stable 109 [.io .u8 (h.toNat : Int)] (.io .i64 (dgI h)) (fun _ _ w1 _ _ => digit_any h w1) ?_
   refine zTq RowF.stable RowF.fewer [0, 4, 5, 48] 0 ?_
   rcases zB (decide (dgI h < 0)) with b0 | b0
   ·refine zR 48 b0 ?_
    refine zF [2, 3] 0 ⟨.exit .ret, [], [(2, .v (.string (ByteArray.mk #[]))), (3, .v (.int .i64 0))], []⟩ ?_
    refine zE (.tup [.v (.string (ByteArray.mk #[])), .v (.int .i64 0)]) ?_
    have hn := dgI_no b0
    intro ρ w9 hm hf
    exact ⟨by rw [← h1, hn]; rfl, hm.below⟩
   refine zR 48 b0 ?_
   refine zF [0, 4, 5, 48, 49, 51] 0 ⟨pops B86 pAE0 17, [(sq86 pAE1), (sq86 pAE3), .block 1, kn1, .block 0, (sq86 pAE9)], [(0, .so (mkB (34 :: l))), (4, .sl A n c), (5, .io .i64 (↑i : Int)), (48, .v (.bool false)), (49, .so (mkB (34 :: l))), (51, .io .i64 (IntKind.i64.wrap ((↑i : Int) + 3)))], []⟩ ?_
   obtain ⟨p, hp1, hp2, hp3⟩ := dgI_ok b0
   clear b0
   rw [hw3]
   refine At.six (mkB (34 :: l)) ((i + 3 : Nat) : Int) l3 (by kernel_rfl) (by omega) (by rw [Int.toNat_natCast]; exact g3) RowF.stable ?_
   refine zF [0, 4, 5, 48, 52] 0 ⟨pops B86 pAE0 18, [(sq86 pAE1), (sq86 pAE3), .block 1, kn1, .block 0, (sq86 pAE9)], [(0, .so (mkB (34 :: l))), (4, .sl A n c), (5, .io .i64 (↑i : Int)), (48, .v (.bool false)), (52, .io IntKind.u8 (↑l3.toNat : Int))], []⟩ ?_
   refine zC RowF.stable 109 [.io .u8 (l3.toNat : Int)] (.io .i64 (dgI l3)) (fun _ _ w1 _ _ => digit_any l3 w1) ?_
   refine zTq RowF.stable RowF.fewer [0, 4, 5, 55] 0 ?_
   rcases zB (decide (dgI l3 < 0)) with b0 | b0
   ·refine zR 55 b0 ?_
    refine zF [2, 3] 0 ⟨.exit .ret, [], [(2, .v (.string (ByteArray.mk #[]))), (3, .v (.int .i64 0))], []⟩ ?_
    refine zE (.tup [.v (.string (ByteArray.mk #[])), .v (.int .i64 0)]) ?_
    have hn := dgI_no b0
    intro ρ w9 hm hf
    exact ⟨by rw [← h1, hp1, hn]; rfl, hm.below⟩
   refine zR 55 b0 ?_
   refine zF [0, 4, 5] 0 ⟨.any (opsOf (sub B86 pAE2)) 17 [], [(sq86 [1, 1, 1, 1, 0, 4, 4, 1, 4, 1, 1, 1]), .block 1, kn1, .block 0, (sq86 pAE9)], [(0, .so (mkB (34 :: l))), (4, .sl A n c), (5, .io .i64 (↑i : Int))], []⟩ ?_
   obtain ⟨q, hq1, hq2, hq3⟩ := dgI_ok b0
   clear b0
   rw [hp1, hq1] at h1
   simp only at h1
   have g2' : (34 :: l)[(IntKind.i64.wrap ((i : Int) + 2)).toNat]? = some h := by rw [hw2, Int.toNat_natCast]; exact g2
   have g3' : (34 :: l)[(IntKind.i64.wrap ((i : Int) + 3)).toNat]? = some l3 := by rw [hw3, Int.toNat_natCast]; exact g3
   have ev : IntKind.u8.wrap (IntKind.i64.wrap (IntKind.i64.wrap (16 * dgI h) + dgI l3)) = (((UInt8.ofNat (16 * p + q)).toNat : Nat) : Int) := by
    rw [hp2, hq2, show (UInt8.ofNat (16 * p + q)).toNat = 16 * p + q by simp [UInt8.toNat_ofNat']; omega]
    exact cadd_all ⟨p, hp3⟩ ⟨q, hq3⟩
   refine At.cutN (σ := Option Addr × Nat) (fun x => [(0, .so (mkB (34 :: l))), (4, .sl x.1 (n + 1) x.2), (5, .io .i64 (i : Int))]) (fun _ => []) (fun x => RowF w (fun _ => False) [] w.heap.size 5 1 x.1 (n + 1) x.2 (bw (acc ++ [UInt8.ofNat (16 * p + q)]))) rfl ?_ (fun x => ?_)
   ·refine At.purify0 (fun e a w h => h.1) 20 ?_
    refine At.sixFirst (fun e a w h => h.1) 4 (mkB (34 :: l)) (IntKind.i64.wrap ((i : Int) + 2)) h (by kernel_rfl) (by kernel_rfl) (by rw [hw2]; omega) g2' ?_
    refine At.sixFirst (fun e a w h => h.1) 10 (mkB (34 :: l)) (IntKind.i64.wrap ((i : Int) + 3)) l3 (by kernel_rfl) (by kernel_rfl) (by rw [hw3]; omega) g3' ?_
    refine At.purify0 (fun e a w h => h.1) 20 ?_
    refine zF [0, 4, 5, 56, 60, 66] 0 ⟨.ops (opsOf (sub B86 pAE2)) (((opsOf (sub B86 pAE2)).toList.drop 5).take 1), [.any (opsOf (sub B86 pAE2)) 7 [5, 10, 4, 9, 8, 7, 3, 2, 1, 0]], [(0, .so (mkB (34 :: l))), (4, .sl A n c), (5, .io .i64 (↑i : Int)), (56, .sl A n c), (60, .io IntKind.u8 (↑h.toNat : Int)), (66, .io IntKind.u8 (↑l3.toNat : Int))], []⟩ ?_
    refine zC RowF.stable 109 [.io .u8 (h.toNat : Int)] (.io .i64 (dgI h)) (fun _ _ w1 _ _ => digit_any h w1) ?_
    refine zF [0, 4, 5, 56, 61, 66] 0 ⟨.any (opsOf (sub B86 pAE2)) 7 [5, 10, 4, 9, 8, 7, 3, 2, 1, 0], [], [(0, .so (mkB (34 :: l))), (4, .sl A n c), (5, .io .i64 (↑i : Int)), (56, .sl A n c), (61, .io .i64 (dgI h)), (66, .io IntKind.u8 (↑l3.toNat : Int))], []⟩ ?_
    refine At.fork [6, 11] rfl (by kernel_rfl) rfl (allOf.cons ?_ (allOf.cons ?_ allOf.nil))
    ·refine zF [0, 4, 5, 56, 62, 66] 0 ⟨.ops (opsOf (sub B86 pAE2)) (((opsOf (sub B86 pAE2)).toList.drop 11).take 1), [.any (opsOf (sub B86 pAE2)) 5 [11, 6, 5, 10, 4, 9, 8, 7, 3, 2, 1, 0]], [(0, .so (mkB (34 :: l))), (4, .sl A n c), (5, .io .i64 (↑i : Int)), (56, .sl A n c), (62, .io .i64 (IntKind.i64.wrap (16 * dgI h))), (66, .io IntKind.u8 (↑l3.toNat : Int))], []⟩ ?_
     refine zC RowF.stable 109 [.io .u8 (l3.toNat : Int)] (.io .i64 (dgI l3)) (fun _ _ w1 _ _ => digit_any l3 w1) ?_
     refine zF [0, 4, 5, 56, 70] 1 ⟨.ops (opsOf (sub B86 pAE2)) (((opsOf (sub B86 pAE2)).toList.drop 15).take 1), [.any (opsOf (sub B86 pAE2)) 1 [15, 14, 13, 12, 11, 6, 5, 10, 4, 9, 8, 7, 3, 2, 1, 0]], [(0, .so (mkB (34 :: l))), (4, .sl A n c), (5, .io .i64 (↑i : Int)), (56, .sl A n c), (70, .ls 0 0 1 1)], [([.io IntKind.u8 (IntKind.u8.wrap (IntKind.i64.wrap (IntKind.i64.wrap (16 * dgI h) + dgI l3)))], 5)]⟩ ?_
     refine At.app (55) (5) (1) (1) (A) (n) (c) (1) ([.io IntKind.u8 (IntKind.u8.wrap (IntKind.i64.wrap (IntKind.i64.wrap (16 * dgI h) + dgI l3)))]) _ _ _ _ ([.int IntKind.u8 (IntKind.u8.wrap (IntKind.i64.wrap (IntKind.i64.wrap (16 * dgI h) + dgI l3)))]) (by kernel_rfl) (fun ρ => by kernel_rfl) (by first | omega | (simp only [Go.maxLen]; omega)) (by first | omega | (simp only [Go.maxLen]; omega)) (by first | omega | (simp only [Go.maxLen]; omega)) fun A0 c0 => ?_
     refine zF [0, 4, 5] 0 ⟨.exit .normal, [], [(0, .so (mkB (34 :: l))), (4, .sl A0 (n + 1) c0), (5, .io .i64 (↑i : Int))], []⟩ ?_
     exact At.fin (A0, c0) rfl rfl (by unfold subFr; kernel_rfl) rfl (fun _ _ _ _ h => by rw [ev] at h; rw [bw_app]; exact h)
    refine zF [0, 4, 5, 56, 61, 66] 0 ⟨.ops (opsOf (sub B86 pAE2)) (((opsOf (sub B86 pAE2)).toList.drop 11).take 1), [.any (opsOf (sub B86 pAE2)) 6 [11, 5, 10, 4, 9, 8, 7, 3, 2, 1, 0]], [(0, .so (mkB (34 :: l))), (4, .sl A n c), (5, .io .i64 (↑i : Int)), (56, .sl A n c), (61, .io .i64 (dgI h)), (66, .io IntKind.u8 (↑l3.toNat : Int))], []⟩ ?_
    refine zC RowF.stable 109 [.io .u8 (l3.toNat : Int)] (.io .i64 (dgI l3)) (fun _ _ w1 _ _ => digit_any l3 w1) ?_
    refine zF [0, 4, 5, 56, 70] 1 ⟨.ops (opsOf (sub B86 pAE2)) (((opsOf (sub B86 pAE2)).toList.drop 15).take 1), [.any (opsOf (sub B86 pAE2)) 1 [15, 14, 13, 12, 6, 11, 5, 10, 4, 9, 8, 7, 3, 2, 1, 0]], [(0, .so (mkB (34 :: l))), (4, .sl A n c), (5, .io .i64 (↑i : Int)), (56, .sl A n c), (70, .ls 0 0 1 1)], [([.io IntKind.u8 (IntKind.u8.wrap (IntKind.i64.wrap (IntKind.i64.wrap (16 * dgI h) + dgI l3)))], 5)]⟩ ?_
    refine At.app (55) (5) (1) (1) (A) (n) (c) (1) ([.io IntKind.u8 (IntKind.u8.wrap (IntKind.i64.wrap (IntKind.i64.wrap (16 * dgI h) + dgI l3)))]) _ _ _ _ ([.int IntKind.u8 (IntKind.u8.wrap (IntKind.i64.wrap (IntKind.i64.wrap (16 * dgI h) + dgI l3)))]) (by kernel_rfl) (fun ρ => by kernel_rfl) (by first | omega | (simp only [Go.maxLen]; omega)) (by first | omega | (simp only [Go.maxLen]; omega)) (by first | omega | (simp only [Go.maxLen]; omega)) fun A0 c0 => ?_
    refine zF [0, 4, 5] 0 ⟨.exit .normal, [], [(0, .so (mkB (34 :: l))), (4, .sl A0 (n + 1) c0), (5, .io .i64 (↑i : Int))], []⟩ ?_
    exact At.fin (A0, c0) rfl rfl (by unfold subFr; kernel_rfl) rfl (fun _ _ _ _ h => by rw [ev] at h; rw [bw_app]; exact h)
   refine zF [0, 4, 5] 0 ⟨.exit .normal, [kn1, .block 0, (sq86 pAE9)], [(0, .so (mkB (34 :: l))), (4, .sl x.fst (n + 1) x.snd), (5, .io .i64 (IntKind.i64.wrap ((↑i : Int) + 4)))], []⟩ ?_
   rw [hw4]
   refine At.next (σ := KSt) ⟨x.1, n + 1, x.2, acc ++ [UInt8.ofNat (16 * p + q)], i + 4⟩ rfl rfl (by unfold subFr; kernel_rfl) (by kernel_rfl) ?_ ?_
   ·intro ρ a' w' hi' hf
    exact ⟨hf, by rw [g4]; exact h1, by simp only; omega, by simp only [List.length_append, List.length_singleton]; omega, by simp only; omega⟩
   simp only [muKS]
   omega
  refine zR 22 b0 ?_
  refine zF [0, 4, 5, 78] 0 ⟨pqops B86 [1, 1, 1, 1, 1, 0, 0] 5, [(sq86 pAE7), (sq86 pAE8)], [(0, .so (mkB (34 :: l))), (4, .sl A n c), (5, .io .i64 (↑i : Int)), (78, .bo (decide ((↑i : Int) ≥ (↑(mkB (34 :: l)).size : Int))))], []⟩ ?_
  rcases zB (decide ((↑i : Int) ≥ (↑(mkB (34 :: l)).size : Int))) with b1 | b1
  ·refine zR 78 b1 ?_
   refine zF [2, 3] 0 ⟨.exit .ret, [], [(2, .v (.string (ByteArray.mk #[]))), (3, .v (.int .i64 0))], []⟩ ?_
   refine zE (.tup [.v (.string (ByteArray.mk #[])), .v (.int .i64 0)]) ?_
   exfalso
   have h9 := of_decide_eq_true b1
   rw [mkB_size] at h9
   omega
  refine zR 78 b1 ?_
  refine zF [0, 4, 5, 78, 79] 0 ⟨pqops B86 [1, 1, 1, 1, 1, 0, 0] 6, [(sq86 pAE7), (sq86 pAE8)], [(0, .so (mkB (34 :: l))), (4, .sl A n c), (5, .io .i64 (↑i : Int)), (78, .v (.bool false)), (79, .sl A n c)], []⟩ ?_
  have e34 : y = 34 := UInt8.toNat_inj.1 (by simp at b0; show y.toNat = 34; omega)
  subst e34
  clear b0 b1
  rw [lno_end] at h1
  refine At.cvy A n c (acc.map UInt8.toNat) (.so (mkB acc)) (by kernel_rfl) RowF.stable (fun ρ => by rw [strOf_map]; rfl) (fun ρ w1 hm hf => row_cw hf.1.1) ?_
  refine zF [0, 4, 5, 78, 80] 0 ⟨pqops B86 [1, 1, 1, 1, 1, 0, 0] 7, [(sq86 pAE7), (sq86 pAE8)], [(0, .so (mkB (34 :: l))), (4, .sl A n c), (5, .io .i64 (↑i : Int)), (78, .v (.bool false)), (80, .so (mkB acc))], []⟩ ?_
  refine zC RowF.stable 20 [.so (mkB acc)] (.so (mkB (quoteB acc))) (fun _ _ w1 _ _ => rquote_any acc (by simp only [List.length_cons] at h2 hs; omega) w1) ?_
  refine zF [4, 5, 78, 81, 82, 84] 0 ⟨pqops B86 [1, 1, 1, 1, 1, 0, 0] 11, [(sq86 pAE7), (sq86 pAE8)], [(4, .sl A n c), (5, .io .i64 (↑i : Int)), (78, .v (.bool false)), (81, .so (mkB (quoteB acc))), (82, .so (mkB (34 :: l))), (84, .io .i64 (IntKind.i64.wrap ((↑i : Int) + 1)))], []⟩ ?_
  have hw1 : IntKind.i64.wrap ((i : Int) + 1) = ((i + 1 : Nat) : Int) := by
   rw [wrap63 (by simp only [List.length_cons] at h2 hs; omega) (by simp only [List.length_cons] at h2 hs; omega)]
   omega
  rw [hw1]
  refine sslT (34 :: l) (i + 1) (by kernel_rfl) (by omega) RowF.stable ?_
  refine zTq RowF.stable RowF.fewer [4, 5, 87] 0 ?_
  rcases zB (!(mkB (quoteB acc)).toList == (mkB (List.take (i + 1) (34 :: l))).toList) with b0 | b0
  ·refine zR 87 b0 ?_
   refine zF [2, 3] 0 ⟨.exit .ret, [], [(2, .v (.string (ByteArray.mk #[]))), (3, .v (.int .i64 0))], []⟩ ?_
   refine zE (.tup [.v (.string (ByteArray.mk #[])), .v (.int .i64 0)]) ?_
   have hne : quoteB acc ≠ (34 :: l).take (i + 1) := fun e => by
    rw [strB, e] at b0
    simp at b0
   intro ρ w9 hm hf
   exact ⟨by rw [← h1, show finR (34 :: l) (some (acc, i)) = none from if_pos (Or.inr hne)]; rfl, hm.below⟩
  refine zR 87 b0 ?_
  refine zF [5, 88] 0 ⟨pops B86 [1, 1, 1, 1, 1, 1, 0] 1, [(sq86 [1, 0, 1, 2, 1])], [(5, .io .i64 (↑i : Int)), (88, .sl A n c)], []⟩ ?_
  have hne : quoteB acc = (34 :: l).take (i + 1) := Classical.not_not.1 fun hne => by
   rw [strB, decide_eq_false hne] at b0
   exact absurd b0 (by decide)
  refine At.cvy A n c (acc.map UInt8.toNat) (.so (mkB acc)) (by kernel_rfl) RowF.stable (fun ρ => by rw [strOf_map]; rfl) (fun ρ w1 hm hf => row_cw hf.1.1) ?_
  refine zF [2, 3] 0 ⟨.exit .ret, [], [(2, .so (mkB acc)), (3, .io .i64 (IntKind.i64.wrap ((↑i : Int) + 1)))], []⟩ ?_
  refine zE (.tup [.so (mkB acc), .io .i64 (IntKind.i64.wrap ((↑i : Int) + 1))]) ?_
  rw [hw1]
  intro ρ w9 hm hf
  exact ⟨by rw [← h1, show finR (34 :: l) (some (acc, i)) = some (acc, i + 1) from if_neg (by rw [not_or]; exact ⟨by omega, fun h => h hne⟩)]; rfl, hm.below⟩
 refine zR 17 b0 ?_
 refine zF [0, 4, 5, 78] 0 ⟨pqops B86 [1, 1, 1, 1, 1, 0, 0] 5, [(sq86 pAE7), (sq86 pAE8)], [(0, .so (mkB (34 :: l))), (4, .sl A n c), (5, .io .i64 (↑i : Int)), (78, .bo (decide ((↑i : Int) ≥ (↑(mkB (34 :: l)).size : Int))))], []⟩ ?_
 rcases zB (decide ((↑i : Int) ≥ (↑(mkB (34 :: l)).size : Int))) with b1 | b1
 ·refine zR 78 b1 ?_
  refine zF [2, 3] 0 ⟨.exit .ret, [], [(2, .v (.string (ByteArray.mk #[]))), (3, .v (.int .i64 0))], []⟩ ?_
  refine zE (.tup [.v (.string (ByteArray.mk #[])), .v (.int .i64 0)]) ?_
  have hi : ¬ (i : Int) < ((mkB (34 :: l)).size : Int) := of_decide_eq_false b0
  rw [mkB_size] at hi
  have hd : (34 :: l).drop i = [] := List.drop_eq_nil_of_le (by omega)
  rw [hd, show lno acc i [] = some (acc, i) from rfl] at h1
  intro ρ w9 hm hf
  exact ⟨by rw [← h1, show finR (34 :: l) (some (acc, i)) = none from if_pos (Or.inl (by omega))]; rfl, hm.below⟩
 refine zR 78 b1 ?_
 refine zF [0, 4, 5, 78, 79] 0 ⟨pqops B86 [1, 1, 1, 1, 1, 0, 0] 6, [(sq86 pAE7), (sq86 pAE8)], [(0, .so (mkB (34 :: l))), (4, .sl A n c), (5, .io .i64 (↑i : Int)), (78, .v (.bool false)), (79, .sl A n c)], []⟩ ?_
 exfalso
 have h0 := of_decide_eq_false b0
 have h9 := of_decide_eq_false b1
 omega
end Go.Proofs.YthfpekhpeiebjaaGreatDoor
end
