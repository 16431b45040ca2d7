/- Joined texts: KC, NB. -/
import Derived.Test.YtkjnbafdmjakgaaGreatDoorVAD
import Derived.Lib.SplitLaws
set_option linter.unusedSimpArgs false
set_option linter.unusedVariables false
namespace Go.Sx
open Go
def zAE0 : List SV := [.v (.string (ByteArray.mk #[])), .v (.string (ByteArray.mk #[])), .v (.bool false)]
def pAE1 : List Nat := [1, 4, 1, 1, 1, 1, 1, 1, 0, 4, 1, 3, 1, 2, 1, 1, 1, 1, 0, 0]
def pAE2 : List Nat := [1, 4, 1, 1, 1, 1, 1, 1, 0, 4, 1, 3, 1, 2, 1, 1, 1, 1, 0, 1]
def pAE3 : List Nat := [1, 4, 1, 1, 1, 1, 1, 1, 0, 4, 1, 3, 1, 2, 1, 1, 1, 1, 1]
def pAE4 : List Nat := [1, 4, 1, 1, 1, 1, 1, 1, 0, 4, 1, 3, 1, 2, 1, 1, 0, 1]
def pAE5 : List Nat := [1, 4, 1, 1, 1, 1, 1, 1, 0, 4, 1, 3, 1, 2, 1, 1, 1]
def pAE6 : List Nat := [1, 4, 1, 1, 1, 1, 1, 1, 0, 4, 1, 3, 1, 2, 0, 0]
def pAE7 : List Nat := [1, 4, 1, 1, 1, 1, 1, 1, 0, 4, 1, 3, 1, 2, 0, 1]
def pAE8 : List Nat := [1, 4, 1, 1, 1, 1, 1, 1, 0, 4, 1, 3, 1, 2, 1, 1]
def pAE9 : List Nat := [1, 4, 1, 1, 1, 1, 1, 1, 0, 4, 1, 3, 1, 2, 1]
def pAE10 : List Nat := [1, 4, 1, 1, 1, 1, 1, 1, 0, 4, 1, 3, 1, 3, 1]
def pAE11 : List Nat := [1, 4, 1, 1, 1, 1, 1, 1, 1, 1, 0]
def pAE12 : List Nat := [1, 4, 1, 1, 1, 1, 1, 1, 1, 1, 1]
def pAE13 : List Nat := [1, 4, 1, 1, 1, 1, 1, 1, 1, 0]
def pAE14 : List Nat := [1, 4, 1, 1, 1, 1, 1, 1, 1, 1]
def pAE15 : List Nat := [1, 4, 1, 1, 1, 1, 1, 1, 1]
end Go.Sx
section
namespace Go.Proofs.YtkjnbafdmjakgaaGreatDoor
open Go.RowKit Go.Sx
theorem emp_true {x : List UInt8} (h : ((mkB x).toList == (ByteArray.mk #[]).toList) = true) : x = [] := by
 rw [ByteArray.toList_eq, ByteArray.toList_eq, beq_iff_eq] at h
 exact h
theorem emp_false {x : List UInt8} (h : ((mkB x).toList == (ByteArray.mk #[]).toList) = false) : ∃ y l, x = y :: l := by
 cases x with
 | nil => rw [ByteArray.toList_eq, ByteArray.toList_eq] at h; cases h
 | cons y l => exact ⟨y, l, rfl⟩
theorem unq_short (b : List UInt8) (l : List UInt8) (h : l.length < 3) : unq b (92 :: l) = none := by
 rw [unq_cons, if_neg (by decide), if_pos rfl]
 match l, h with
 | [], _ => rfl
 | [_], _ => rfl
 | [_, _], _ => rfl
theorem three {l : List UInt8} (h : 3 ≤ l.length) : ∃ x y z r, l = x :: y :: z :: r := by
 match l, h with
 | x :: y :: z :: r, _ => exact ⟨x, y, z, r, rfl⟩
def dgI (h : UInt8) : Int := match dg h with
 | some i => (i : Int)
 | none => -1
theorem hexidx_all : ∀ z : Fin 256, Lib.indexByte (ByteArray.mk #[48, 49, 50, 51, 52, 53, 54, 55, 56, 57, 97, 98, 99, 100, 101, 102]).data.toList ((z.val : Nat) : Int).toNat.toUInt8 = dgI (UInt8.ofNat z.val) := by decide +kernel
theorem hexidx (h : UInt8) (w : World) : Calls Tryz.prog 55 #[.string ⟨#[48, 49, 50, 51, 52, 53, 54, 55, 56, 57, 97, 98, 99, 100, 101, 102]⟩, .int .u8 (h.toNat : Int)] w fun e w' => e = .returned (.int .i64 (dgI h)) ∧ Below w.heap.size w w' :=
 (Tryz.strings_IndexByte _ _ w).mono fun e w' hh => by
  obtain ⟨rfl, rfl⟩ := hh
  have := hexidx_all ⟨h.toNat, h.toNat_lt⟩
  simp only [UInt8.ofNat_toNat] at this
  exact ⟨by rw [this], Below.refl _ _⟩
theorem dgI_ok {h : UInt8} (hb : decide (dgI h < 0) = false) : ∃ i, dg h = some i ∧ dgI h = ((i : Nat) : Int) ∧ i < 16 := by
 have hn := of_decide_eq_false hb
 cases hd : dg h with
 | none => simp [dgI, hd] at hn
 | some i => exact ⟨i, rfl, by simp [dgI, hd], (dg_lt hd).1⟩
theorem dgI_no {h : UInt8} (hb : decide (dgI h < 0) = true) : dg h = none := by
 have hn := of_decide_eq_true hb
 cases hd : dg h with
 | none => rfl
 | some i => simp [dgI, hd] at hn; omega
theorem unq_right {b : List UInt8} {h l : UInt8} {r : List UInt8} (hn : dg l = none) : unq b (92 :: 120 :: h :: l :: r) = none := by
 rw [unq_esc, if_pos rfl, hn]
 cases dg h <;> rfl
theorem cexp_all : ∀ i j : Fin 16, IntKind.u8.wrap (IntKind.i64.wrap ((BitVec.ofInt IntKind.i64.bits (IntKind.i64.wrap (((i.val : Nat) : Int) * 2 ^ min (Int.toNat 4) IntKind.i64.bits)) ||| BitVec.ofInt IntKind.i64.bits ((j.val : Nat) : Int)).toNat : Int)) = ((16 * i.val + j.val : Nat) : Int) := by decide +kernel
theorem keyK_ne {y : UInt8} {l : List UInt8} (h : y ≠ 34) : keyK (y :: l) = none := by
 unfold keyK
 split
 ·rename_i s e
  injection e with e _
  exact absurd e h
 rfl
section
variable {Q : Exit → Act → World → Prop} {N : Nat} {w0 : World} {ntm : Nat} {F : List Nat → World → Prop}
theorem sslW {s : S} (x : List UInt8) (k : Nat) (y : List UInt8) (hy : x.drop k = y) (hq : sslI Tryz.prog ntm s = some (mkB x, (k : Int), none)) (hk : k ≤ x.length) (hF : Stable F) (h : At Tryz.prog Q N w0 ntm F (s.tail ntm (.so (mkB y)))) : At Tryz.prog Q N w0 ntm F s := by
 refine At.ssl (mkB x) (k : Int) none hq (by omega) (by rw [Option.getD_none, mkB_size]; omega) (by rw [Option.getD_none]; omega) hF ?_
 rw [Option.getD_none, Int.toNat_natCast, Int.toNat_natCast, mkB_size]
 have e : (mkB x).extract k x.length = mkB y := by
  subst hy
  apply ByteArray.ext
  rw [ByteArray.data_extract]
  apply Array.ext'
  simp [mkB]
  rw [List.take_of_length_le (by rw [List.length_drop]; omega)]
 rw [e]
 exact h
end
noncomputable def B40 : Code := (Tryz.f40.body).getD .skip
structure USt where
 A : Option Addr
 n : Nat
 c : Nat
 acc : List UInt8
 l : List UInt8
def labU (_ : USt) : Nat := 0
noncomputable def restU (_ : USt) : Code := (findLabel (sub B40 [1, 4]) 0).getD .skip
def frU : USt → Fr
 | ⟨A, n, c, _, l⟩ => [(0, .so (mkB l)), (5, .sl A n c)]
def locU (_ : USt) : Sx.Loc := []
def muU (s : USt) : Nat := s.l.length
def GU (w0 : World) (s : List UInt8) (x : USt) (ρ : List Nat) (w : World) : Prop :=
 RowF w0 (fun _ => False) [] w0.heap.size 5 1 x.A x.n x.c (bw x.acc) ρ w ∧ (keyK s = unq x.acc x.l ∧ x.n + x.l.length ≤ 1048576)
def keyV (o : Option (List UInt8 × List UInt8)) : Value := match o with
 | some (k, r) => .tuple #[.string (mkB k), .string (mkB r), .bool true]
 | none => .tuple #[.string ⟨#[]⟩, .string ⟨#[]⟩, .bool false]
set_option maxHeartbeats 20000000 in
set_option maxRecDepth 100000 in
theorem unquote_any (s : List UInt8) (hs : s.length ≤ 1048576) (w : World) :
  Calls Tryz.prog 40 #[.string (mkB s)] w fun e w' => e = .returned (keyV (keyK s)) ∧ Below w.heap.size w w' := by
 refine enterF (N := w.heap.size) (F := RowF w (fun _ => False) [] w.heap.size 5 1 none 0 0 []) (fn := Tryz.f40) (c := B40) [.so (mkB s)] Tryz.func40 rfl rfl (Nat.le_refl _) ⟨⟨⟨World.ownsRow_nil _ _ _ _, by simp [Value.ownBlock]⟩, Nat.le_refl _⟩, FrameR.start _ [] (by simp), by simp [Value.ownBlock]⟩ ?_
 refine zF [0] 0 ⟨.code (sub B40 [1]), [], [(0, .so (mkB s))], []⟩ ?_
 have hround : ∀ (s : List UInt8) (p : USt → Prop) (A : Option Addr) (n c : Nat) (acc l : List UInt8), (∀ x, muU x < l.length → p x) → keyK s = unq acc l → n + l.length ≤ 1048576 →
   At Tryz.prog (bodyPost Tryz.prog Tryz.f40 (fun e w' => e = .returned (keyV (keyK s)) ∧ Below w.heap.size w w')) w.heap.size w Tryz.f40.ntmps (RowF w (fun _ => False) [] w.heap.size 5 1 A n c (bw acc)) ⟨.code (sub B40 [1, 4, 1, 1, 1, 1]), [.jump (Jump w.heap.size w Tryz.f40.ntmps labU frU locU (GU w s) p)], [(0, .so (mkB l)), (5, .sl A n c)], []⟩ := by
  intro s p A n c acc l hp h1 h2
  refine zTq RowF.stable RowF.fewer [0, 5, 19] 0 ?_
  rcases Bool.eq_false_or_eq_true ((mkB l).toList == (ByteArray.mk #[]).toList) with b0 | b0
  ·refine zR 19 b0 ?_
   refine zF [2, 3, 4] 0 ⟨.exit .ret, [], [(2, .v (.string (ByteArray.mk #[]))), (3, .v (.string (ByteArray.mk #[]))), (4, .v (.bool false))], []⟩ ?_
   refine zE (.tup zAE0) ?_
   have he := emp_true b0
   subst he
   intro ρ w9 hm hf
   exact ⟨by rw [h1, show unq acc [] = none from rfl]; rfl, hm.below⟩
  refine zR 19 b0 ?_
  refine zF [0, 5, 20] 0 ⟨pops B40 [1, 4, 1, 1, 1, 1, 1, 0] 1, [.seq (sub B40 [1, 4, 1, 1, 1, 1, 1, 1]), .jump (Jump w.heap.size w Tryz.f40.ntmps labU frU locU (GU w s) p)], [(0, .so (mkB l)), (5, .sl A n c), (20, .so (mkB l))], []⟩ ?_
  obtain ⟨y, l', rfl⟩ := emp_false b0
  clear b0
  have hy := y.toNat_lt
  refine At.six (mkB (y :: l')) 0 y (by kernel_rfl) (by omega) rfl RowF.stable ?_
  refine zTq RowF.stable RowF.fewer [0, 5, 6, 22] 0 ?_
  rcases Bool.eq_false_or_eq_true ((↑y.toNat : Int) == 34) with b0 | b0
  ·refine zR 22 b0 ?_
   refine zF [0, 25] 0 ⟨pqops B40 [1, 4, 1, 1, 1, 1, 1, 1, 0, 4, 1, 2, 0] 1, [.seq (sub B40 [1, 4, 0, 1, 2, 1]), .block 0, .seq (sub B40 pAE15), .jump (Jump w.heap.size w Tryz.f40.ntmps labU frU locU (GU w s) p)], [(0, .so (mkB (y :: l'))), (25, .sl A n c)], []⟩ ?_
   have e34 : y = 34 := UInt8.toNat_inj.1 (by simp at b0; show y.toNat = 34; omega)
   subst e34
   refine At.cvy A n c (acc.map UInt8.toNat) (.so (mkB acc)) (by kernel_rfl) RowF.stable (fun ρ => by rw [strOf_map]; rfl) (fun ρ w1 hm hf => row_cw hf.1.1) ?_
   refine zF [26, 27] 0 ⟨pqops B40 [1, 4, 1, 1, 1, 1, 1, 1, 0, 4, 1, 2, 0] 3, [.seq (sub B40 [1, 4, 0, 1, 2, 1]), .block 0, .seq (sub B40 pAE15), .jump (Jump w.heap.size w Tryz.f40.ntmps labU frU locU (GU w s) p)], [(26, .so (mkB acc)), (27, .so (mkB (34 :: l')))], []⟩ ?_
   refine sslW (34 :: l') 1 l' rfl (by kernel_rfl) (by simp) RowF.stable ?_
   refine zF [2, 3, 4] 0 ⟨.exit .ret, [], [(2, .so (mkB acc)), (3, .so (mkB l')), (4, .v (.bool true))], []⟩ ?_
   refine zE (.tup [.so (mkB acc), .so (mkB l'), .v (.bool true)]) ?_
   intro ρ w9 hm hf
   exact ⟨by rw [h1, unq_end]; rfl, hm.below⟩
  refine zR 22 b0 ?_
  refine zF [0, 5, 6, 29] 0 ⟨.code (sub B40 [1, 4, 1, 1, 1, 1, 1, 1, 0, 4, 1, 3, 1]), [.block 0, .seq (sub B40 pAE15), .jump (Jump w.heap.size w Tryz.f40.ntmps labU frU locU (GU w s) p)], [(0, .so (mkB (y :: l'))), (5, .sl A n c), (6, .io IntKind.u8 (↑y.toNat : Int)), (29, .bo ((↑y.toNat : Int) == 92))], []⟩ ?_
  rcases Bool.eq_false_or_eq_true ((↑y.toNat : Int) == 92) with b1 | b1
  ·refine zR 29 b1 ?_
   refine zTq RowF.stable RowF.fewer [0, 5, 35] 0 ?_
   rcases Bool.eq_false_or_eq_true (decide ((↑(mkB (y :: l')).size : Int) < 4)) with b2 | b2
   ·refine zR 35 b2 ?_
    refine zF [2, 3, 4] 0 ⟨.exit .ret, [], [(2, .v (.string (ByteArray.mk #[]))), (3, .v (.string (ByteArray.mk #[]))), (4, .v (.bool false))], []⟩ ?_
    refine zE (.tup zAE0) ?_
    have n34 : y ≠ 34 := fun e => by subst e; exact absurd b0 (by decide)
    have e92 : y = 92 := UInt8.toNat_inj.1 (by simp at b1; show y.toNat = 92; omega)
    subst e92
    have hsz := of_decide_eq_true b2
    rw [mkB_size, List.length_cons] at hsz
    intro ρ w9 hm hf
    exact ⟨by rw [h1, unq_short acc l' (by omega)]; rfl, hm.below⟩
   refine zR 35 b2 ?_
   refine zF [0, 5, 35, 36] 0 ⟨pops B40 pAE6 5, [.seq (sub B40 pAE7), .seq (sub B40 pAE9), .block 0, .seq (sub B40 pAE15), .jump (Jump w.heap.size w Tryz.f40.ntmps labU frU locU (GU w s) p)], [(0, .so (mkB (y :: l'))), (5, .sl A n c), (35, .v (.bool false)), (36, .so (mkB (y :: l')))], []⟩ ?_
   have n34 : y ≠ 34 := fun e => by subst e; exact absurd b0 (by decide)
   have e92 : y = 92 := UInt8.toNat_inj.1 (by simp at b1; show y.toNat = 92; omega)
   subst e92
   have hsz := of_decide_eq_false b2
   rw [mkB_size, List.length_cons] at hsz
   obtain ⟨x, h, l3, r, rfl⟩ := three (l := l') (by omega)
   refine At.six (mkB (92 :: x :: h :: l3 :: r)) 1 x (by kernel_rfl) (by omega) rfl RowF.stable ?_
   clear b0 b1 b2
   refine zTq RowF.stable RowF.fewer [0, 5, 39] 0 ?_
   rcases Bool.eq_false_or_eq_true ((↑x.toNat : Int) != 120) with b0 | b0
   ·refine zR 39 b0 ?_
    refine zF [2, 3, 4] 0 ⟨.exit .ret, [], [(2, .v (.string (ByteArray.mk #[]))), (3, .v (.string (ByteArray.mk #[]))), (4, .v (.bool false))], []⟩ ?_
    refine zE (.tup zAE0) ?_
    have nx : x ≠ 120 := fun e => by subst e; exact absurd b0 (by decide)
    intro ρ w9 hm hf
    exact ⟨by rw [h1, unq_esc, if_neg nx]; rfl, hm.below⟩
   refine zR 39 b0 ?_
   refine zF [0, 5, 40] 0 ⟨pqops B40 [1, 4, 1, 1, 1, 1, 1, 1, 0, 4, 1, 3, 1, 2, 1, 0] 1, [.seq (sub B40 pAE8), .block 0, .seq (sub B40 pAE15), .jump (Jump w.heap.size w Tryz.f40.ntmps labU frU locU (GU w s) p)], [(0, .so (mkB (92 :: x :: h :: l3 :: r))), (5, .sl A n c), (40, .so (mkB (92 :: x :: h :: l3 :: r)))], []⟩ ?_
   have ex : x = 120 := UInt8.toNat_inj.1 (by simp at b0; show x.toNat = 120; omega)
   subst ex
   clear b0
   have hh := h.toNat_lt
   have hh3 := l3.toNat_lt
   refine At.six (mkB (92 :: 120 :: h :: l3 :: r)) 2 h (by kernel_rfl) (by omega) rfl RowF.stable ?_
   refine zF [0, 5, 41] 0 ⟨pqops B40 [1, 4, 1, 1, 1, 1, 1, 1, 0, 4, 1, 3, 1, 2, 1, 0] 2, [.seq (sub B40 pAE8), .block 0, .seq (sub B40 pAE15), .jump (Jump w.heap.size w Tryz.f40.ntmps labU frU locU (GU w s) p)], [(0, .so (mkB (92 :: 120 :: h :: l3 :: r))), (5, .sl A n c), (41, .io IntKind.u8 (↑h.toNat : Int))], []⟩ ?_
   refine zC RowF.stable 55 [.v (.string (ByteArray.mk #[48, 49, 50, 51, 52, 53, 54, 55, 56, 57, 97, 98, 99, 100, 101, 102])), .io IntKind.u8 (↑h.toNat : Int)] (.io .i64 (dgI h)) (fun _ _ w1 hi _ => hexidx h w1) ?_
   refine zF [0, 5, 42, 43] 0 ⟨pqops B40 [1, 4, 1, 1, 1, 1, 1, 1, 0, 4, 1, 3, 1, 2, 1, 0] 4, [.seq (sub B40 pAE8), .block 0, .seq (sub B40 pAE15), .jump (Jump w.heap.size w Tryz.f40.ntmps labU frU locU (GU w s) p)], [(0, .so (mkB (92 :: 120 :: h :: l3 :: r))), (5, .sl A n c), (42, .io .i64 (dgI h)), (43, .so (mkB (92 :: 120 :: h :: l3 :: r)))], []⟩ ?_
   refine At.six (mkB (92 :: 120 :: h :: l3 :: r)) 3 l3 (by kernel_rfl) (by omega) rfl RowF.stable ?_
   refine zF [0, 5, 42, 44] 0 ⟨pqops B40 [1, 4, 1, 1, 1, 1, 1, 1, 0, 4, 1, 3, 1, 2, 1, 0] 5, [.seq (sub B40 pAE8), .block 0, .seq (sub B40 pAE15), .jump (Jump w.heap.size w Tryz.f40.ntmps labU frU locU (GU w s) p)], [(0, .so (mkB (92 :: 120 :: h :: l3 :: r))), (5, .sl A n c), (42, .io .i64 (dgI h)), (44, .io IntKind.u8 (↑l3.toNat : Int))], []⟩ ?_
   refine zC RowF.stable 55 [.v (.string (ByteArray.mk #[48, 49, 50, 51, 52, 53, 54, 55, 56, 57, 97, 98, 99, 100, 101, 102])), .io IntKind.u8 (↑l3.toNat : Int)] (.io .i64 (dgI l3)) (fun _ _ w1 hi _ => hexidx l3 w1) ?_
   refine zTq RowF.stable RowF.fewer [0, 5, 7, 8, 48] 0 ?_
   rcases Bool.eq_false_or_eq_true (decide (dgI h < 0)) with b0 | b0
   ·refine zR 48 b0 ?_
    refine zF [2, 3, 4] 0 ⟨.exit .ret, [], [(2, .v (.string (ByteArray.mk #[]))), (3, .v (.string (ByteArray.mk #[]))), (4, .v (.bool false))], []⟩ ?_
    refine zE (.tup zAE0) ?_
    have hn := dgI_no b0
    intro ρ w9 hm hf
    exact ⟨by rw [h1, unq_esc, if_pos rfl, hn]; rfl, hm.below⟩
   refine zR 48 b0 ?_
   refine zF [0, 5, 7, 8, 51] 0 ⟨.code (sub B40 pAE4), [.seq (sub B40 pAE5), .block 0, .seq (sub B40 pAE15), .jump (Jump w.heap.size w Tryz.f40.ntmps labU frU locU (GU w s) p)], [(0, .so (mkB (92 :: 120 :: h :: l3 :: r))), (5, .sl A n c), (7, .io .i64 (dgI h)), (8, .io .i64 (dgI l3)), (51, .bo (decide (dgI l3 < 0)))], []⟩ ?_
   rcases Bool.eq_false_or_eq_true (decide (dgI l3 < 0)) with b1 | b1
   ·refine zR 51 b1 ?_
    refine zF [2, 3, 4] 0 ⟨.exit .ret, [], [(2, .v (.string (ByteArray.mk #[]))), (3, .v (.string (ByteArray.mk #[]))), (4, .v (.bool false))], []⟩ ?_
    refine zE (.tup zAE0) ?_
    have hn := dgI_no b1
    intro ρ w9 hm hf
    exact ⟨by rw [h1, unq_right hn]; rfl, hm.below⟩
   refine zR 51 b1 ?_
   refine zTq RowF.stable RowF.fewer [0, 5, 6, 59] 0 ?_
   rcases Bool.eq_false_or_eq_true (decide (IntKind.u8.wrap (IntKind.i64.wrap (↑(BitVec.ofInt IntKind.i64.bits (IntKind.i64.wrap (dgI h * 2 ^ min (Int.toNat 4) IntKind.i64.bits)) ||| BitVec.ofInt IntKind.i64.bits (dgI l3)).toNat : Int)) ≥ 32)) with b2 | b2
   ·refine zR 59 b2 ?_
    refine zF [0, 5, 6, 63] 0 ⟨pops B40 pAE1 7, [.seq (sub B40 pAE2), .seq (sub B40 pAE3), .block 0, .seq (sub B40 pAE15), .jump (Jump w.heap.size w Tryz.f40.ntmps labU frU locU (GU w s) p)], [(0, .so (mkB (92 :: 120 :: h :: l3 :: r))), (5, .sl A n c), (6, .io IntKind.u8 (IntKind.u8.wrap (IntKind.i64.wrap (↑(BitVec.ofInt IntKind.i64.bits (IntKind.i64.wrap (dgI h * 2 ^ min (Int.toNat 4) IntKind.i64.bits)) ||| BitVec.ofInt IntKind.i64.bits (dgI l3)).toNat : Int)))), (63, .bo (decide (IntKind.u8.wrap (IntKind.i64.wrap (↑(BitVec.ofInt IntKind.i64.bits (IntKind.i64.wrap (dgI h * 2 ^ min (Int.toNat 4) IntKind.i64.bits)) ||| BitVec.ofInt IntKind.i64.bits (dgI l3)).toNat : Int)) ≤ 126)))], []⟩ ?_
    rcases Bool.eq_false_or_eq_true (decide (IntKind.u8.wrap (IntKind.i64.wrap (↑(BitVec.ofInt IntKind.i64.bits (IntKind.i64.wrap (dgI h * 2 ^ min (Int.toNat 4) IntKind.i64.bits)) ||| BitVec.ofInt IntKind.i64.bits (dgI l3)).toNat : Int)) ≤ 126)) with b3 | b3
    ·refine zR 63 b3 ?_
     refine zTq RowF.stable RowF.fewer [0, 5, 6, 67] 0 ?_
     rcases Bool.eq_false_or_eq_true (IntKind.u8.wrap (IntKind.i64.wrap (↑(BitVec.ofInt IntKind.i64.bits (IntKind.i64.wrap (dgI h * 2 ^ min (Int.toNat 4) IntKind.i64.bits)) ||| BitVec.ofInt IntKind.i64.bits (dgI l3)).toNat : Int)) != 34) with b4 | b4
     ·refine zR 67 b4 ?_
      refine zF [0, 5, 6, 70] 0 ⟨.code (sub B40 pAE2), [.seq (sub B40 pAE3), .block 0, .seq (sub B40 pAE15), .jump (Jump w.heap.size w Tryz.f40.ntmps labU frU locU (GU w s) p)], [(0, .so (mkB (92 :: 120 :: h :: l3 :: r))), (5, .sl A n c), (6, .io IntKind.u8 (IntKind.u8.wrap (IntKind.i64.wrap (↑(BitVec.ofInt IntKind.i64.bits (IntKind.i64.wrap (dgI h * 2 ^ min (Int.toNat 4) IntKind.i64.bits)) ||| BitVec.ofInt IntKind.i64.bits (dgI l3)).toNat : Int)))), (70, .bo (IntKind.u8.wrap (IntKind.i64.wrap (↑(BitVec.ofInt IntKind.i64.bits (IntKind.i64.wrap (dgI h * 2 ^ min (Int.toNat 4) IntKind.i64.bits)) ||| BitVec.ofInt IntKind.i64.bits (dgI l3)).toNat : Int)) != 92))], []⟩ ?_
      rcases Bool.eq_false_or_eq_true (IntKind.u8.wrap (IntKind.i64.wrap (↑(BitVec.ofInt IntKind.i64.bits (IntKind.i64.wrap (dgI h * 2 ^ min (Int.toNat 4) IntKind.i64.bits)) ||| BitVec.ofInt IntKind.i64.bits (dgI l3)).toNat : Int)) != 92) with b5 | b5
      ·refine zR 70 b5 ?_
       refine zF [2, 3, 4] 0 ⟨.exit .ret, [], [(2, .v (.string (ByteArray.mk #[]))), (3, .v (.string (ByteArray.mk #[]))), (4, .v (.bool false))], []⟩ ?_
       refine zE (.tup zAE0) ?_
       obtain ⟨i, hi1, hi2, hi3⟩ := dgI_ok b0
       obtain ⟨j, hj1, hj2, hj3⟩ := dgI_ok b1
       have hz : (UInt8.ofNat (16 * i + j)).toNat = 16 * i + j := by simp [UInt8.toNat_ofNat']; omega
       have ev : IntKind.u8.wrap (IntKind.i64.wrap (↑(BitVec.ofInt IntKind.i64.bits (IntKind.i64.wrap (dgI h * 2 ^ min (Int.toNat 4) IntKind.i64.bits)) ||| BitVec.ofInt IntKind.i64.bits (dgI l3)).toNat : Int)) = (((UInt8.ofNat (16 * i + j)).toNat : Nat) : Int) := by
        rw [hi2, hj2, hz]
        exact cexp_all ⟨i, hi3⟩ ⟨j, hj3⟩
       rw [ev] at b2 b3 b4 b5
       have hpl : plainC (UInt8.ofNat (16 * i + j)) = true := by
        simp only [plainC, Bool.and_eq_true, decide_eq_true_eq]
        have h32 := of_decide_eq_true b2
        have h126 := of_decide_eq_true b3
        simp at b4 b5
        refine ⟨by omega, by omega, by omega, by omega⟩
       intro ρ w9 hm hf
       exact ⟨by rw [h1, unq_esc, if_pos rfl, hi1, hj1]; simp only; rw [if_pos hpl]; rfl, hm.below⟩
      refine zR 70 b5 ?_
      refine zF [5, 6, 71] 0 ⟨pops B40 pAE3 1, [.block 0, .seq (sub B40 pAE15), .jump (Jump w.heap.size w Tryz.f40.ntmps labU frU locU (GU w s) p)], [(5, .sl A n c), (6, .io IntKind.u8 (IntKind.u8.wrap (IntKind.i64.wrap (↑(BitVec.ofInt IntKind.i64.bits (IntKind.i64.wrap (dgI h * 2 ^ min (Int.toNat 4) IntKind.i64.bits)) ||| BitVec.ofInt IntKind.i64.bits (dgI l3)).toNat : Int)))), (71, .so (mkB (92 :: 120 :: h :: l3 :: r)))], []⟩ ?_
      obtain ⟨i, hi1, hi2, hi3⟩ := dgI_ok b0
      obtain ⟨j, hj1, hj2, hj3⟩ := dgI_ok b1
      have hz : (UInt8.ofNat (16 * i + j)).toNat = 16 * i + j := by simp [UInt8.toNat_ofNat']; omega
      have ev : IntKind.u8.wrap (IntKind.i64.wrap (↑(BitVec.ofInt IntKind.i64.bits (IntKind.i64.wrap (dgI h * 2 ^ min (Int.toNat 4) IntKind.i64.bits)) ||| BitVec.ofInt IntKind.i64.bits (dgI l3)).toNat : Int)) = (((UInt8.ofNat (16 * i + j)).toNat : Nat) : Int) := by
       rw [hi2, hj2, hz]
       exact cexp_all ⟨i, hi3⟩ ⟨j, hj3⟩
      rw [ev] at b5
      have hpl : plainC (UInt8.ofNat (16 * i + j)) = false := by
       simp only [plainC]
       rw [decide_eq_false (p := (UInt8.ofNat (16 * i + j)).toNat ≠ 92) (by simp at b5 ⊢; omega), Bool.and_false, Bool.and_false, Bool.and_false]
      clear b0 b1 b2
      rw [ev]
      generalize hzz : (UInt8.ofNat (16 * i + j)) = z at hpl hz
      refine sslW (92 :: 120 :: h :: l3 :: r) 3 (l3 :: r) rfl (by kernel_rfl) (by simp) RowF.stable ?_
      refine zF [0, 80, 82] 1 ⟨pops B40 pAE13 3, [.seq (sub B40 pAE14), .jump (Jump w.heap.size w Tryz.f40.ntmps labU frU locU (GU w s) p)], [(0, .so (mkB (l3 :: r))), (80, .sl A n c), (82, .ls 0 0 1 1)], [([.io IntKind.u8 (↑z.toNat : Int)], 5)]⟩ ?_
      refine At.app (108) (5) (1) (1) (A) (n) (c) (1) ([.io IntKind.u8 (↑z.toNat : Int)]) _ _ _ _ ([.int IntKind.u8 (↑z.toNat : Int)]) (by kernel_rfl) (fun ρ => by kernel_rfl) (by first | omega | (simp only [Go.maxLen]; omega)) (by first | omega | (simp only [Go.maxLen]; omega)) (by first | omega | (simp only [Go.maxLen]; omega)) fun A0 c0 => ?_
      refine zF [5, 84] 0 ⟨pops B40 pAE11 1, [.seq (sub B40 pAE12), .jump (Jump w.heap.size w Tryz.f40.ntmps labU frU locU (GU w s) p)], [(5, .sl A0 (n + 1) c0), (84, .so (mkB (l3 :: r)))], []⟩ ?_
      refine sslW (l3 :: r) 1 r rfl (by kernel_rfl) (by simp) RowF.stable ?_
      refine zF [0, 5] 0 ⟨.exit (.goto 0), [.jump (Jump w.heap.size w Tryz.f40.ntmps labU frU locU (GU w s) p)], [(0, .so (mkB r)), (5, .sl A0 (n + 1) c0)], []⟩ ?_
      refine At.jump (σ := USt) ⟨A0, n + 1, c0, acc ++ [z], r⟩ rfl rfl rfl (by unfold subFr; kernel_rfl) rfl ?_ ?_
      ·intro ρ a1 w1 hi hf
       exact ⟨by rw [bw_app]; exact hf, by rw [h1]; rw [unq_esc, if_pos rfl, hi1, hj1]; simp only; rw [hzz, if_neg (by rw [hpl]; decide)], by simp only [List.length_cons] at h2 ⊢; omega⟩
      exact hp _ (by simp only [muU, List.length_cons]; omega)
     refine zR 67 b4 ?_
     refine zF [5, 6, 71] 0 ⟨pops B40 pAE3 1, [.block 0, .seq (sub B40 pAE15), .jump (Jump w.heap.size w Tryz.f40.ntmps labU frU locU (GU w s) p)], [(5, .sl A n c), (6, .io IntKind.u8 (IntKind.u8.wrap (IntKind.i64.wrap (↑(BitVec.ofInt IntKind.i64.bits (IntKind.i64.wrap (dgI h * 2 ^ min (Int.toNat 4) IntKind.i64.bits)) ||| BitVec.ofInt IntKind.i64.bits (dgI l3)).toNat : Int)))), (71, .so (mkB (92 :: 120 :: h :: l3 :: r)))], []⟩ ?_
     obtain ⟨i, hi1, hi2, hi3⟩ := dgI_ok b0
     obtain ⟨j, hj1, hj2, hj3⟩ := dgI_ok b1
     have hz : (UInt8.ofNat (16 * i + j)).toNat = 16 * i + j := by simp [UInt8.toNat_ofNat']; omega
     have ev : IntKind.u8.wrap (IntKind.i64.wrap (↑(BitVec.ofInt IntKind.i64.bits (IntKind.i64.wrap (dgI h * 2 ^ min (Int.toNat 4) IntKind.i64.bits)) ||| BitVec.ofInt IntKind.i64.bits (dgI l3)).toNat : Int)) = (((UInt8.ofNat (16 * i + j)).toNat : Nat) : Int) := by
      rw [hi2, hj2, hz]
      exact cexp_all ⟨i, hi3⟩ ⟨j, hj3⟩
     rw [ev] at b4
     have hpl : plainC (UInt8.ofNat (16 * i + j)) = false := by
      simp only [plainC]
      rw [decide_eq_false (p := (UInt8.ofNat (16 * i + j)).toNat ≠ 34) (by simp at b4 ⊢; omega), Bool.false_and, Bool.and_false, Bool.and_false]
     clear b0 b1 b2
     rw [ev]
     generalize hzz : (UInt8.ofNat (16 * i + j)) = z at hpl hz
     refine sslW (92 :: 120 :: h :: l3 :: r) 3 (l3 :: r) rfl (by kernel_rfl) (by simp) RowF.stable ?_
     refine zF [0, 80, 82] 1 ⟨pops B40 pAE13 3, [.seq (sub B40 pAE14), .jump (Jump w.heap.size w Tryz.f40.ntmps labU frU locU (GU w s) p)], [(0, .so (mkB (l3 :: r))), (80, .sl A n c), (82, .ls 0 0 1 1)], [([.io IntKind.u8 (↑z.toNat : Int)], 5)]⟩ ?_
     refine At.app (108) (5) (1) (1) (A) (n) (c) (1) ([.io IntKind.u8 (↑z.toNat : Int)]) _ _ _ _ ([.int IntKind.u8 (↑z.toNat : Int)]) (by kernel_rfl) (fun ρ => by kernel_rfl) (by first | omega | (simp only [Go.maxLen]; omega)) (by first | omega | (simp only [Go.maxLen]; omega)) (by first | omega | (simp only [Go.maxLen]; omega)) fun A0 c0 => ?_
     refine zF [5, 84] 0 ⟨pops B40 pAE11 1, [.seq (sub B40 pAE12), .jump (Jump w.heap.size w Tryz.f40.ntmps labU frU locU (GU w s) p)], [(5, .sl A0 (n + 1) c0), (84, .so (mkB (l3 :: r)))], []⟩ ?_
     refine sslW (l3 :: r) 1 r rfl (by kernel_rfl) (by simp) RowF.stable ?_
     refine zF [0, 5] 0 ⟨.exit (.goto 0), [.jump (Jump w.heap.size w Tryz.f40.ntmps labU frU locU (GU w s) p)], [(0, .so (mkB r)), (5, .sl A0 (n + 1) c0)], []⟩ ?_
     refine At.jump (σ := USt) ⟨A0, n + 1, c0, acc ++ [z], r⟩ rfl rfl rfl (by unfold subFr; kernel_rfl) rfl ?_ ?_
     ·intro ρ a1 w1 hi hf
      exact ⟨by rw [bw_app]; exact hf, by rw [h1]; rw [unq_esc, if_pos rfl, hi1, hj1]; simp only; rw [hzz, if_neg (by rw [hpl]; decide)], by simp only [List.length_cons] at h2 ⊢; omega⟩
     exact hp _ (by simp only [muU, List.length_cons]; omega)
    refine zR 63 b3 ?_
    refine zF [5, 6, 71] 0 ⟨pops B40 pAE3 1, [.block 0, .seq (sub B40 pAE15), .jump (Jump w.heap.size w Tryz.f40.ntmps labU frU locU (GU w s) p)], [(5, .sl A n c), (6, .io IntKind.u8 (IntKind.u8.wrap (IntKind.i64.wrap (↑(BitVec.ofInt IntKind.i64.bits (IntKind.i64.wrap (dgI h * 2 ^ min (Int.toNat 4) IntKind.i64.bits)) ||| BitVec.ofInt IntKind.i64.bits (dgI l3)).toNat : Int)))), (71, .so (mkB (92 :: 120 :: h :: l3 :: r)))], []⟩ ?_
    obtain ⟨i, hi1, hi2, hi3⟩ := dgI_ok b0
    obtain ⟨j, hj1, hj2, hj3⟩ := dgI_ok b1
    have hz : (UInt8.ofNat (16 * i + j)).toNat = 16 * i + j := by simp [UInt8.toNat_ofNat']; omega
    have ev : IntKind.u8.wrap (IntKind.i64.wrap (↑(BitVec.ofInt IntKind.i64.bits (IntKind.i64.wrap (dgI h * 2 ^ min (Int.toNat 4) IntKind.i64.bits)) ||| BitVec.ofInt IntKind.i64.bits (dgI l3)).toNat : Int)) = (((UInt8.ofNat (16 * i + j)).toNat : Nat) : Int) := by
     rw [hi2, hj2, hz]
     exact cexp_all ⟨i, hi3⟩ ⟨j, hj3⟩
    rw [ev] at b3
    have hpl : plainC (UInt8.ofNat (16 * i + j)) = false := by
     simp only [plainC]
     have h126 := of_decide_eq_false b3
     rw [decide_eq_false (p := (UInt8.ofNat (16 * i + j)).toNat ≤ 126) (by omega), Bool.false_and, Bool.and_false]
    clear b0 b1 b2
    rw [ev]
    generalize hzz : (UInt8.ofNat (16 * i + j)) = z at hpl hz
    refine sslW (92 :: 120 :: h :: l3 :: r) 3 (l3 :: r) rfl (by kernel_rfl) (by simp) RowF.stable ?_
    refine zF [0, 80, 82] 1 ⟨pops B40 pAE13 3, [.seq (sub B40 pAE14), .jump (Jump w.heap.size w Tryz.f40.ntmps labU frU locU (GU w s) p)], [(0, .so (mkB (l3 :: r))), (80, .sl A n c), (82, .ls 0 0 1 1)], [([.io IntKind.u8 (↑z.toNat : Int)], 5)]⟩ ?_
    refine At.app (108) (5) (1) (1) (A) (n) (c) (1) ([.io IntKind.u8 (↑z.toNat : Int)]) _ _ _ _ ([.int IntKind.u8 (↑z.toNat : Int)]) (by kernel_rfl) (fun ρ => by kernel_rfl) (by first | omega | (simp only [Go.maxLen]; omega)) (by first | omega | (simp only [Go.maxLen]; omega)) (by first | omega | (simp only [Go.maxLen]; omega)) fun A0 c0 => ?_
    refine zF [5, 84] 0 ⟨pops B40 pAE11 1, [.seq (sub B40 pAE12), .jump (Jump w.heap.size w Tryz.f40.ntmps labU frU locU (GU w s) p)], [(5, .sl A0 (n + 1) c0), (84, .so (mkB (l3 :: r)))], []⟩ ?_
    refine sslW (l3 :: r) 1 r rfl (by kernel_rfl) (by simp) RowF.stable ?_
    refine zF [0, 5] 0 ⟨.exit (.goto 0), [.jump (Jump w.heap.size w Tryz.f40.ntmps labU frU locU (GU w s) p)], [(0, .so (mkB r)), (5, .sl A0 (n + 1) c0)], []⟩ ?_
    refine At.jump (σ := USt) ⟨A0, n + 1, c0, acc ++ [z], r⟩ rfl rfl rfl (by unfold subFr; kernel_rfl) rfl ?_ ?_
    ·intro ρ a1 w1 hi hf
     exact ⟨by rw [bw_app]; exact hf, by rw [h1]; rw [unq_esc, if_pos rfl, hi1, hj1]; simp only; rw [hzz, if_neg (by rw [hpl]; decide)], by simp only [List.length_cons] at h2 ⊢; omega⟩
    exact hp _ (by simp only [muU, List.length_cons]; omega)
   refine zR 59 b2 ?_
   refine zF [5, 6, 71] 0 ⟨pops B40 pAE3 1, [.block 0, .seq (sub B40 pAE15), .jump (Jump w.heap.size w Tryz.f40.ntmps labU frU locU (GU w s) p)], [(5, .sl A n c), (6, .io IntKind.u8 (IntKind.u8.wrap (IntKind.i64.wrap (↑(BitVec.ofInt IntKind.i64.bits (IntKind.i64.wrap (dgI h * 2 ^ min (Int.toNat 4) IntKind.i64.bits)) ||| BitVec.ofInt IntKind.i64.bits (dgI l3)).toNat : Int)))), (71, .so (mkB (92 :: 120 :: h :: l3 :: r)))], []⟩ ?_
   obtain ⟨i, hi1, hi2, hi3⟩ := dgI_ok b0
   obtain ⟨j, hj1, hj2, hj3⟩ := dgI_ok b1
   have hz : (UInt8.ofNat (16 * i + j)).toNat = 16 * i + j := by simp [UInt8.toNat_ofNat']; omega
   have ev : IntKind.u8.wrap (IntKind.i64.wrap (↑(BitVec.ofInt IntKind.i64.bits (IntKind.i64.wrap (dgI h * 2 ^ min (Int.toNat 4) IntKind.i64.bits)) ||| BitVec.ofInt IntKind.i64.bits (dgI l3)).toNat : Int)) = (((UInt8.ofNat (16 * i + j)).toNat : Nat) : Int) := by
    rw [hi2, hj2, hz]
    exact cexp_all ⟨i, hi3⟩ ⟨j, hj3⟩
   rw [ev] at b2
   have hpl : plainC (UInt8.ofNat (16 * i + j)) = false := by
    simp only [plainC]
    have h32 := of_decide_eq_false b2
    rw [decide_eq_false (p := 32 ≤ (UInt8.ofNat (16 * i + j)).toNat) (by omega)]
    rfl
   clear b0 b1 b2
   rw [ev]
   generalize hzz : (UInt8.ofNat (16 * i + j)) = z at hpl hz
   refine sslW (92 :: 120 :: h :: l3 :: r) 3 (l3 :: r) rfl (by kernel_rfl) (by simp) RowF.stable ?_
   refine zF [0, 80, 82] 1 ⟨pops B40 pAE13 3, [.seq (sub B40 pAE14), .jump (Jump w.heap.size w Tryz.f40.ntmps labU frU locU (GU w s) p)], [(0, .so (mkB (l3 :: r))), (80, .sl A n c), (82, .ls 0 0 1 1)], [([.io IntKind.u8 (↑z.toNat : Int)], 5)]⟩ ?_
   refine At.app (108) (5) (1) (1) (A) (n) (c) (1) ([.io IntKind.u8 (↑z.toNat : Int)]) _ _ _ _ ([.int IntKind.u8 (↑z.toNat : Int)]) (by kernel_rfl) (fun ρ => by kernel_rfl) (by first | omega | (simp only [Go.maxLen]; omega)) (by first | omega | (simp only [Go.maxLen]; omega)) (by first | omega | (simp only [Go.maxLen]; omega)) fun A0 c0 => ?_
   refine zF [5, 84] 0 ⟨pops B40 pAE11 1, [.seq (sub B40 pAE12), .jump (Jump w.heap.size w Tryz.f40.ntmps labU frU locU (GU w s) p)], [(5, .sl A0 (n + 1) c0), (84, .so (mkB (l3 :: r)))], []⟩ ?_
   refine sslW (l3 :: r) 1 r rfl (by kernel_rfl) (by simp) RowF.stable ?_
   refine zF [0, 5] 0 ⟨.exit (.goto 0), [.jump (Jump w.heap.size w Tryz.f40.ntmps labU frU locU (GU w s) p)], [(0, .so (mkB r)), (5, .sl A0 (n + 1) c0)], []⟩ ?_
   refine At.jump (σ := USt) ⟨A0, n + 1, c0, acc ++ [z], r⟩ rfl rfl rfl (by unfold subFr; kernel_rfl) rfl ?_ ?_
   ·intro ρ a1 w1 hi hf
    exact ⟨by rw [bw_app]; exact hf, by rw [h1]; rw [unq_esc, if_pos rfl, hi1, hj1]; simp only; rw [hzz, if_neg (by rw [hpl]; decide)], by simp only [List.length_cons] at h2 ⊢; omega⟩
   exact hp _ (by simp only [muU, List.length_cons]; omega)
  refine zR 29 b1 ?_
  refine zTq RowF.stable RowF.fewer [0, 5, 6, 76] 0 ?_
  rcases Bool.eq_false_or_eq_true (decide ((↑y.toNat : Int) < 32)) with b3 | b3
  ·refine zR 76 b3 ?_
   refine zF [2, 3, 4] 0 ⟨.exit .ret, [], [(2, .v (.string (ByteArray.mk #[]))), (3, .v (.string (ByteArray.mk #[]))), (4, .v (.bool false))], []⟩ ?_
   refine zE (.tup zAE0) ?_
   have n34 : y ≠ 34 := fun e => by subst e; exact absurd b0 (by decide)
   have n92 : y ≠ 92 := fun e => by subst e; exact absurd b1 (by decide)
   have hlo := of_decide_eq_true b3
   intro ρ w9 hm hf
   exact ⟨by rw [h1, unq_cons, if_neg n34, if_neg n92, if_pos (Or.inl (by omega))]; rfl, hm.below⟩
  refine zR 76 b3 ?_
  refine zF [0, 5, 6, 73] 0 ⟨.code (sub B40 pAE10), [.block 0, .seq (sub B40 pAE15), .jump (Jump w.heap.size w Tryz.f40.ntmps labU frU locU (GU w s) p)], [(0, .so (mkB (y :: l'))), (5, .sl A n c), (6, .io IntKind.u8 (↑y.toNat : Int)), (73, .bo (decide ((↑y.toNat : Int) > 126)))], []⟩ ?_
  rcases Bool.eq_false_or_eq_true (decide ((↑y.toNat : Int) > 126)) with b4 | b4
  ·refine zR 73 b4 ?_
   refine zF [2, 3, 4] 0 ⟨.exit .ret, [], [(2, .v (.string (ByteArray.mk #[]))), (3, .v (.string (ByteArray.mk #[]))), (4, .v (.bool false))], []⟩ ?_
   refine zE (.tup zAE0) ?_
   have n34 : y ≠ 34 := fun e => by subst e; exact absurd b0 (by decide)
   have n92 : y ≠ 92 := fun e => by subst e; exact absurd b1 (by decide)
   have hhi := of_decide_eq_true b4
   intro ρ w9 hm hf
   exact ⟨by rw [h1, unq_cons, if_neg n34, if_neg n92, if_pos (Or.inr (by omega))]; rfl, hm.below⟩
  refine zR 73 b4 ?_
  refine zF [0, 80, 82] 1 ⟨pops B40 pAE13 3, [.seq (sub B40 pAE14), .jump (Jump w.heap.size w Tryz.f40.ntmps labU frU locU (GU w s) p)], [(0, .so (mkB (y :: l'))), (80, .sl A n c), (82, .ls 0 0 1 1)], [([.io IntKind.u8 (↑y.toNat : Int)], 5)]⟩ ?_
  refine At.app (108) (5) (1) (1) (A) (n) (c) (1) ([.io IntKind.u8 (↑y.toNat : Int)]) _ _ _ _ ([.int IntKind.u8 (↑y.toNat : Int)]) (by kernel_rfl) (fun ρ => by kernel_rfl) (by first | omega | (simp only [Go.maxLen]; omega)) (by first | omega | (simp only [Go.maxLen]; omega)) (by first | omega | (simp only [Go.maxLen]; omega)) fun A5 c5 => ?_
  refine zF [5, 84] 0 ⟨pops B40 pAE11 1, [.seq (sub B40 pAE12), .jump (Jump w.heap.size w Tryz.f40.ntmps labU frU locU (GU w s) p)], [(5, .sl A5 (n + 1) c5), (84, .so (mkB (y :: l')))], []⟩ ?_
  have n34 : y ≠ 34 := fun e => by subst e; exact absurd b0 (by decide)
  have n92 : y ≠ 92 := fun e => by subst e; exact absurd b1 (by decide)
  have hlo := of_decide_eq_false b3
  have hhi := of_decide_eq_false b4
  refine sslW (y :: l') 1 l' rfl (by kernel_rfl) (by simp) RowF.stable ?_
  refine zF [0, 5] 0 ⟨.exit (.goto 0), [.jump (Jump w.heap.size w Tryz.f40.ntmps labU frU locU (GU w s) p)], [(0, .so (mkB l')), (5, .sl A5 (n + 1) c5)], []⟩ ?_
  refine At.jump (σ := USt) ⟨A5, n + 1, c5, acc ++ [y], l'⟩ rfl rfl rfl (by unfold subFr; kernel_rfl) rfl ?_ ?_
  ·intro ρ a1 w1 hi hf
   exact ⟨by rw [bw_app]; exact hf, by rw [h1]; exact unq_step acc y l' n34 n92 (by omega), by simp only [List.length_cons] at h2 ⊢; omega⟩
  exact hp _ (by simp only [muU, List.length_cons]; omega)
 refine At.scope (σ := USt) (sub B40 [1, 4]) labU restU frU locU (GU w s) muU (by kernel_rfl) (fun s => by rcases s with ⟨_, _, _, _, _⟩; kernel_rfl) ?_ ?_
 ·refine zTq RowF.stable RowF.fewer [0, 11] 0 ?_
  rcases Bool.eq_false_or_eq_true ((mkB s).toList == (ByteArray.mk #[]).toList) with b0 | b0
  ·refine zR 11 b0 ?_
   refine zF [2, 3, 4] 0 ⟨.exit .ret, [], [(2, .v (.string (ByteArray.mk #[]))), (3, .v (.string (ByteArray.mk #[]))), (4, .v (.bool false))], []⟩ ?_
   refine zE (.tup zAE0) ?_
   have he := emp_true b0
   subst he
   intro ρ w9 hm hf
   exact ⟨by rw [show keyK [] = none from rfl]; rfl, hm.below⟩
  refine zR 11 b0 ?_
  refine zF [0, 11, 12] 0 ⟨pops B40 [1, 4, 0, 0] 4, [.seq (sub B40 [1, 4, 0, 1]), .seq (sub B40 [1, 4, 1]), .jump (Jump w.heap.size w Tryz.f40.ntmps labU frU locU (GU w s) fun x => True)], [(0, .so (mkB s)), (11, .v (.bool false)), (12, .so (mkB s))], []⟩ ?_
  obtain ⟨y, l, rfl⟩ := emp_false b0
  refine At.six (mkB (y :: l)) 0 y (by kernel_rfl) (by omega) rfl RowF.stable ?_
  refine zTq RowF.stable RowF.fewer [0, 15] 0 ?_
  rcases Bool.eq_false_or_eq_true ((↑y.toNat : Int) != 34) with b0 | b0
  ·refine zR 15 b0 ?_
   refine zF [2, 3, 4] 0 ⟨.exit .ret, [], [(2, .v (.string (ByteArray.mk #[]))), (3, .v (.string (ByteArray.mk #[]))), (4, .v (.bool false))], []⟩ ?_
   refine zE (.tup zAE0) ?_
   have hy : y ≠ 34 := fun e => by subst e; simp at b0
   intro ρ w9 hm hf
   exact ⟨by rw [keyK_ne hy]; rfl, hm.below⟩
  refine zR 15 b0 ?_
  refine zF [5, 16] 0 ⟨pops B40 [1, 4, 1, 1, 0] 1, [.seq (sub B40 [1, 4, 1, 1, 1]), .jump (Jump w.heap.size w Tryz.f40.ntmps labU frU locU (GU w (y :: l)) fun x => True)], [(5, .v (.slice none 0 0)), (16, .so (mkB (y :: l)))], []⟩ ?_
  have hy : y = 34 := UInt8.toNat_inj.1 (by simp at b0; show y.toNat = 34; omega)
  subst hy
  refine sslW (34 :: l) 1 l rfl (by kernel_rfl) (by simp) RowF.stable ?_
  refine At.toJ RowF.stable RowF.fewer 0 6 [0, 5] 0 ⟨.code (sub B40 [1, 4, 1, 1, 1, 1]), [.jump (Jump w.heap.size w Tryz.f40.ntmps labU frU locU (GU w (34 :: l)) (fun _ => True))], [(0, .so (mkB l)), (5, .v (.slice none 0 0))], []⟩ (by kernel_rfl) (by kernel_rfl) ?_
  refine At.slFr _ rfl ?_
  exact hround (34 :: l) _ none 0 0 [] l (fun _ _ => trivial) rfl (by simp at hs ⊢; omega)
 rintro ⟨A, n, c, acc, l⟩
 refine At.pure fun hpp => ?_
 refine At.toJ RowF.stable RowF.fewer 0 3 [0, 5] 0 ⟨.code (sub B40 [1, 4, 1, 1, 1, 1]), [.jump (Jump w.heap.size w Tryz.f40.ntmps labU frU locU (GU w s) (fun x' => muU x' < l.length))], [(0, .so (mkB l)), (5, .sl A n c)], []⟩ (by kernel_rfl) (by kernel_rfl) ?_
 exact hround s _ A n c acc l (fun _ h => h) hpp.1 hpp.2
end Go.Proofs.YtkjnbafdmjakgaaGreatDoor
end
section
namespace Go.Proofs.YtkjnbafdmjakgaaGreatDoor
open Go.Lib
def pcs : List UInt8 → List UInt8 → List (List UInt8)
 | cur, [] => [cur]
 | cur, b :: r => if b = 32 then cur :: pcs [] r else pcs (cur ++ [b]) r
theorem pcs_app : ∀ (p r cur : List UInt8), (∀ b ∈ p, b ≠ 32) → pcs cur (p ++ r) = pcs (cur ++ p) r
 | [], r, cur, _ => by simp
 | b :: p, r, cur, h => by
  rw [List.cons_append, pcs, if_neg (h b (by simp)), pcs_app p r (cur ++ [b]) (fun c hc => h c (by simp [hc])), List.append_assoc]
  rfl
theorem pcs_none (p : List UInt8) (h : ∀ b ∈ p, b ≠ 32) : pcs [] p = [p] := by
 have := pcs_app p [] [] h
 rw [List.append_nil, List.nil_append] at this
 rw [this]
 rfl
theorem pcs_hit (p r : List UInt8) (h : ∀ b ∈ p, b ≠ 32) : pcs [] (p ++ 32 :: r) = p :: pcs [] r := by
 rw [pcs_app p _ [] h, List.nil_append, pcs, if_pos rfl]
theorem idx_none : ∀ (l : List UInt8), Lib.index l [32] = -1 → ∀ b ∈ l, b ≠ 32
 | [], _, b, hb => by cases hb
 | c :: l, h, b, hb => by
  unfold Lib.index at h
  by_cases hc : (32 : UInt8) = c
  ·simp [hc] at h
  have hp : List.isPrefixOf [32] (c :: l) = false := by simp [List.isPrefixOf, hc]
  rw [if_neg (by simp [hp])] at h
  by_cases h1 : Lib.index l [32] = -1
  ·rcases List.mem_cons.1 hb with rfl | hb
   ·exact fun e => hc e.symm
   exact idx_none l h1 b hb
  have := index_ge l [32]
  rw [if_neg (by simp [h1])] at h
  omega
theorem idx_some : ∀ (l : List UInt8) (i : Nat), Lib.index l [32] = (i : Int) → ∃ p r, l = p ++ 32 :: r ∧ p.length = i ∧ ∀ b ∈ p, b ≠ 32
 | [], i, h => by
  simp only [Lib.index] at h
  exact absurd h (by simp)
 | c :: l, i, h => by
  unfold Lib.index at h
  by_cases hc : (32 : UInt8) = c
  ·subst hc
   have hp : List.isPrefixOf [32] ((32 : UInt8) :: l) = true := by simp [List.isPrefixOf]
   rw [if_pos hp] at h
   exact ⟨[], l, rfl, by simp; omega, by simp⟩
  have hp : List.isPrefixOf [32] (c :: l) = false := by simp [List.isPrefixOf, hc]
  rw [if_neg (by simp [hp])] at h
  by_cases h1 : Lib.index l [32] = -1
  ·rw [if_pos (by simp [h1])] at h
   omega
  have hg := index_ge l [32]
  rw [if_neg (by simp [h1])] at h
  obtain ⟨p, r, e, hl, hb⟩ := idx_some l (i - 1) (by omega)
  refine ⟨c :: p, r, by rw [e]; rfl, by simp; omega, fun b hbm => ?_⟩
  rcases List.mem_cons.1 hbm with rfl | hbm
  ·exact fun e => hc e.symm
  exact hb b hbm
theorem split_pcs : ∀ (m : Nat) (l : List UInt8), l.length ≤ m → splitK [32] 0 (Lib.count l [32]) l = pcs [] l
 | m, l, hm => by
  rcases Int.lt_or_le (Lib.index l [32]) 0 with h | h
  ·have h1 : Lib.index l [32] = -1 := by have := index_ge l [32]; omega
   rw [count_miss h1]
   exact (pcs_none l (idx_none l h1)).symm
  obtain ⟨i, hi⟩ : ∃ i : Nat, Lib.index l [32] = i := ⟨_, (Int.toNat_of_nonneg h).symm⟩
  obtain ⟨p, r, e, hl, hb⟩ := idx_some l i hi
  rw [count_hit (by simp) hi, Nat.add_comm, splitK, if_neg (by simp [hi]), hi, Int.toNat_natCast]
  subst hl
  have hd : l.drop (p.length + [(32 : UInt8)].length) = r := by
   rw [e, List.length_singleton, show p ++ 32 :: r = (p ++ [32]) ++ r by simp]
   exact List.drop_left' (by simp)
  have ht : l.take (p.length + 0) = p := by rw [e, Nat.add_zero, List.take_left]
  rw [hd, ht]
  match m with
  | 0 => rw [e] at hm; simp at hm
  | m + 1 =>
   rw [split_pcs m r (by rw [e] at hm; simp at hm; omega)]
   rw [e]
   exact (pcs_hit p r hb).symm
open Go.RowKit Go.Sx
theorem pcs_len : ∀ (l cur : List UInt8) (p : List UInt8), p ∈ pcs cur l → p.length ≤ cur.length + l.length
 | [], cur, p, h => by
  simp only [pcs, List.mem_singleton] at h
  subst h
  simp
 | b :: l, cur, p, h => by
  rw [pcs] at h
  split at h
  ·rcases List.mem_cons.1 h with rfl | h
   ·simp
   have := pcs_len l [] p h
   simp at this ⊢
   omega
  have := pcs_len l (cur ++ [b]) p h
  simp at this ⊢
  omega
theorem pcs_short {s : ByteArray} (hs : s.size ≤ 1048576) {p : List UInt8} (h : p ∈ pcs [] s.data.toList) : p.length ≤ 1048576 := by
 have := pcs_len _ _ p h
 have hsz : s.size = s.data.toList.length := by rw [Array.length_toList]; rfl
 simp only [List.length_nil] at this
 omega
theorem split_list (s : ByteArray) : Lib.splitB ⟨#[32]⟩ 0 (Lib.countB s ⟨#[32]⟩) s = (pcs [] s.data.toList).map mkB := by
 have h := Lib.splitB_data ⟨#[32]⟩ 0 (Lib.countB s ⟨#[32]⟩) s
 have h2 := split_pcs s.data.toList.length s.data.toList (Nat.le_refl _)
 rw [← h2, ← show Lib.splitK (ByteArray.mk #[32]).data.toList 0 (Lib.countB s ⟨#[32]⟩) s.data.toList = Lib.splitK [32] 0 (Lib.count s.data.toList [32]) s.data.toList from rfl, ← h, List.map_map]
 exact (List.map_id _).symm
theorem split_len (s : ByteArray) : Lib.countB s ⟨#[32]⟩ + 1 = (pcs [] s.data.toList).length := by
 rw [← Lib.splitB_all ⟨#[32]⟩ (by decide) 0 _ s rfl, split_list, List.length_map]
theorem split_row (s : ByteArray) (hs : s.size ≤ 1048576) (w : World) {m : Int} (hm : w.cell? ⟨3, 0, none⟩ = some (.int .i64 m)) {n : Nat} (hn : (pcs [] s.data.toList).length = n) :
  Calls Tryz.prog 41 #[.string s, .string ⟨#[32]⟩] w fun e w' => ∃ ρc, e = .returned ((SV.ls 0 0 n n).den ρc) ∧ WInv w.heap.size w ρc [((pcs [] s.data.toList).map fun p => SV.so (mkB p), 9)] w' := by
 refine (Tryz.strings_Split s ⟨#[32]⟩ m w (by omega) hm (by decide)).mono ?_
 rintro e w' ⟨rfl, rfl⟩
 rw [split_len, hn, split_list]
 refine ⟨[w.heap.size], by rfl, (Below.refl _ _).alloc (Nat.le_refl _) _, by rw [show (w.alloc _).heap = w.heap.push _ from rfl]; simp, rfl, by simp, fun b hb => ?_, fun i c t hi => ?_⟩
 ·simp at hb
  subst hb
  exact ⟨Nat.le_refl _, by rw [show (w.alloc _).heap = w.heap.push _ from rfl]; simp⟩
 cases i with
 | zero =>
  simp only [List.getElem?_cons_zero, Option.some.injEq, Prod.mk.injEq] at hi
  obtain ⟨rfl, rfl⟩ := hi
  rw [show (w.alloc _).heap = w.heap.push _ from rfl]
  simp only [nth, List.getD, List.getElem?_cons_zero, Option.getD_some, Array.getElem?_push_size, SV.denL_eq, List.map_map]
  rfl
 | succ i => simp at hi
theorem var_below {w0 w : World} {n : String} {cs : Array Value} (h : w0.var? Tryz.prog n = some cs) (hb : Below w0.heap.size w0 w) : w.var? Tryz.prog n = some cs := by
 unfold World.var? at h ⊢
 cases hg : Tryz.prog.globalNamed n with
 | none => rw [hg] at h; cases h
 | some g =>
  rw [hg] at h
  simp only [Option.bind_some] at h ⊢
  have hlt : g < w0.heap.size := by
   rcases Nat.lt_or_ge g w0.heap.size with h' | h'
   ·exact h'
   rw [Array.getElem?_eq_none h'] at h; cases h
  rw [hb.block g hlt]
  exact h
theorem cell_below {w0 w : World} {a : Addr} {v : Value} (h : w0.cell? a = some v) (hb : Below w0.heap.size w0 w) : w.cell? a = some v := by
 have hlt : a.block < w0.heap.size := by
  rcases Nat.lt_or_ge a.block w0.heap.size with h' | h'
  ·exact h'
  unfold World.cell? at h
  rw [Array.getElem?_eq_none h'] at h; cases h
 unfold World.cell? at h ⊢
 rw [hb.block _ hlt]
 exact h
end Go.Proofs.YtkjnbafdmjakgaaGreatDoor
end
