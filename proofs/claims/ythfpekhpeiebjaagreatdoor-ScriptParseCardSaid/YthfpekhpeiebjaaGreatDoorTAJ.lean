/- Joined texts: SU. -/
import Derived.Test.YthfpekhpeiebjaaGreatDoorTAD
set_option linter.unusedSimpArgs false
set_option linter.unusedVariables false
namespace Go.Sx
open Go
def pAJ0 : List Nat := [1, 1, 1, 1, 1, 1, 1, 1, 1, 1, 1, 0, 1, 4, 4, 1, 1, 0, 4, 1, 1, 1, 1, 1, 1, 1, 0, 1, 2, 0]
def pAJ1 : List Nat := [1, 1, 1, 1, 1, 1, 1, 1, 1, 1, 1, 0, 1, 4, 4, 1, 1, 0, 4, 1, 1, 0, 4, 1, 3, 1, 3, 1, 3, 0]
def pAJ2 : List Nat := [1, 1, 1, 1, 1, 1, 1, 1, 1, 1, 1, 0, 1, 4, 4, 1, 1, 0, 4, 1, 1, 0, 4, 1, 3, 1, 3, 1, 2]
def pAJ3 : List Nat := [1, 1, 1, 1, 1, 1, 1, 1, 1, 1, 1, 0, 1, 4, 4, 1, 1, 0, 4, 1, 1, 1, 1, 1, 1, 1, 0, 0]
def pAJ4 : List Nat := [1, 1, 1, 1, 1, 1, 1, 1, 1, 1, 1, 0, 1, 4, 4, 1, 1, 0, 4, 1, 1, 1, 1, 1, 1, 1, 0, 1]
def pAJ5 : List Nat := [1, 1, 1, 1, 1, 1, 1, 1, 1, 1, 1, 0, 1, 4, 4, 1, 1, 0, 4, 1, 1, 0, 4, 1, 3, 1, 3, 0]
def pAJ6 : List Nat := [1, 1, 1, 1, 1, 1, 1, 1, 1, 1, 1, 0, 1, 4, 4, 1, 1, 0, 4, 1, 1, 0, 4, 1, 3, 1, 3, 1]
def pAJ7 : List Nat := [1, 1, 1, 1, 1, 1, 1, 1, 1, 1, 1, 0, 1, 4, 4, 1, 1, 0, 4, 1, 1, 1, 1, 0, 1, 2, 0]
def pAJ8 : List Nat := [1, 1, 1, 1, 1, 1, 1, 1, 1, 1, 1, 0, 1, 4, 4, 1, 1, 0, 4, 1, 1, 1, 1, 1, 1, 1, 1]
def pAJ9 : List Nat := [1, 1, 1, 1, 1, 1, 1, 1, 1, 1, 1, 0, 1, 4, 4, 1, 1, 0, 4, 1, 1, 0, 4, 1, 3, 0]
def pAJ10 : List Nat := [1, 1, 1, 1, 1, 1, 1, 1, 1, 1, 1, 0, 1, 4, 4, 1, 1, 0, 4, 1, 1, 0, 4, 1, 3, 1]
def pAJ11 : List Nat := [1, 1, 1, 1, 1, 1, 1, 1, 1, 1, 1, 0, 1, 4, 4, 1, 1, 0, 4, 1, 1, 1, 0, 1, 2, 0]
def pAJ12 : List Nat := [1, 1, 1, 1, 1, 1, 1, 1, 1, 1, 1, 0, 1, 4, 4, 1, 1, 0, 4, 1, 1, 1, 1, 0, 1]
def pAJ13 : List Nat := [1, 1, 1, 1, 1, 1, 1, 1, 1, 1, 1, 0, 1, 4, 4, 1, 1, 0, 4, 1, 1, 1, 0, 1]
def pAJ14 : List Nat := [1, 1, 1, 1, 1, 1, 1, 1, 1, 1, 1, 0, 1, 4, 4, 1, 1, 0, 4, 1, 1, 1, 1, 1]
def pAJ15 : List Nat := [1, 1, 1, 1, 1, 1, 1, 1, 1, 1, 1, 0, 1, 4, 4, 1, 1, 0, 4, 1, 1, 1, 1]
def pAJ16 : List Nat := [1, 1, 1, 1, 1, 1, 1, 1, 1, 1, 1, 0, 1, 4, 4, 1, 1, 0, 4, 1, 1, 1]
def pAJ17 : List Nat := [1, 1, 1, 1, 1, 1, 1, 1, 1, 1, 1, 0, 1, 4, 4, 1, 1, 0, 4, 0]
def pAJ18 : List Nat := [1, 1, 1, 1, 1, 1, 1, 1, 1, 1, 1, 0, 1, 4, 4, 1, 1, 0, 4, 1]
def pAJ19 : List Nat := [1, 1, 1, 1, 1, 1, 1, 1, 1, 1, 1, 0, 1, 4, 4, 1, 1, 1]
def pAJ20 : List Nat := [1, 1, 1, 1, 1, 1, 1, 1, 1, 1, 1, 1]
def pAJ21 : List Nat := [1, 0, 1, 2, 1]
end Go.Sx
section
namespace Go.Proofs.YthfpekhpeiebjaaGreatDoor
open Go.RowKit Go.Sx
section
variable {Q : Exit → Act → World → Prop} {N : Nat} {w0 : World} {ntm : Nat} {F : List Nat → World → Prop} [Md]
def canonT (ts : List Nat) (fr : Fr) : Fr := fr.map fun p => if ts.contains p.1 then (p.1, p.2.canon) else p
omit [Md] in
theorem look_canonT (ts : List Nat) : ∀ {fr : Fr} {t : Nat} {s : SV}, Sx.look (canonT ts fr) t = some s → ∃ s', Sx.look fr t = some s' ∧ (s = s' ∨ s = s'.canon)
 | [], t, s, h => by simp [canonT, Sx.look] at h
 | (k, x) :: l, t, s, h => by
  simp only [canonT, List.map_cons] at h
  by_cases hk : ts.contains k
  ·simp only [hk, if_true, Sx.look] at h ⊢
   split at h
   ·exact ⟨x, rfl, .inr (by simpa using h.symm)⟩
   exact look_canonT ts h
  simp only [hk, if_false, Sx.look, Bool.false_eq_true] at h ⊢
  split at h
  ·exact ⟨x, rfl, .inl (by simpa using h.symm)⟩
  exact look_canonT ts h
def mkiI (P : Program) (ntm : Nat) (s : S) : Option (TypeId × Value) :=
 match s.head?, s.dstOk ntm with
 | some o, true => match o.op with
  | .makeInterface t x => match evalS s.fr x, P.concrete t with
   | some (.v v), true => some (t, v)
   | _, _ => none
  | _ => none
 | _, _ => none
theorem At.mkI {s : S} (t : TypeId) (v : Value) (hq : mkiI Tryz.prog ntm s = some (t, v)) (hF : Stable F) (h : At Tryz.prog Q N w0 ntm F (s.tail ntm (.v (.iface t v)))) : At Tryz.prog Q N w0 ntm F s := by
 unfold mkiI at hq
 split at hq
 ·rename_i o ho hd
  split at hq
  ·rename_i t' x hop
   split at hq
   ·rename_i v' hx hc
    simp only [Option.some.injEq, Prod.mk.injEq] at hq
    obtain ⟨rfl, rfl⟩ := hq
    refine At.op hF o (.v (.iface t' v')) ho hd (fun ρ act w hi _ => ?_) h
    obtain ⟨dst, op, ty, pos, after, guard⟩ := o
    simp only at hop
    subst hop
    have hrr := run_makeInterface (P := Tryz.prog) t' v' (w := w) hc
    simp [execOp, evalS_sound hi.act hx, SV.den, hrr]
   cases hq
  cases hq
 cases hq
theorem At.canonT (ts : List Nat) {s : S} (s' : S) (hs : { s with fr := Go.Proofs.YthfpekhpeiebjaaGreatDoor.canonT ts s.fr } = s') (h : At Tryz.prog Q N w0 ntm F s') : At Tryz.prog Q N w0 ntm F s := by
 subst hs
 intro ρ a w hi hf
 refine h ρ a w ⟨⟨hi.act.defers, hi.act.size, fun t x hl => ?_⟩, hi.mem⟩ hf
 obtain ⟨x', h1, h2⟩ := look_canonT ts hl
 rcases h2 with rfl | rfl
 ·exact hi.act.slot t _ h1
 rw [SV.canon_den]
 exact hi.act.slot t x' h1
end
def lowB (y : UInt8) : Int := ((y ||| 32).toNat : Int)
def hxd (c : UInt8) : Option Nat := if 48 ≤ c.toNat ∧ c.toNat ≤ 57 then some (c.toNat - 48) else if 97 ≤ lowB c ∧ lowB c ≤ 102 then some ((lowB c).toNat - 87) else none
def hxs : Nat → List UInt8 → Option Nat
 | n, [] => some n
 | n, c :: l => match hxd c with
  | some d => hxs (16 * n + d) l
  | none => none
theorem hxs_no {c : UInt8} {n : Nat} {l : List UInt8} (h : hxd c = none) : hxs n (c :: l) = none := by simp only [hxs, h]
theorem hxs_yes {c : UInt8} {n d : Nat} {l : List UInt8} (h : hxd c = some d) : hxs n (c :: l) = hxs (16 * n + d) l := by simp only [hxs, h]
theorem low_all : ∀ z : Fin 256, IntKind.u8.wrap ((BitVec.ofInt IntKind.u8.bits ((z.val : Nat) : Int) ||| BitVec.ofInt IntKind.u8.bits 32).toNat : Int) = lowB (UInt8.ofNat z.val) := by decide +kernel
theorem low_eq (y : UInt8) : IntKind.u8.wrap ((BitVec.ofInt IntKind.u8.bits (y.toNat : Int) ||| BitVec.ofInt IntKind.u8.bits 32).toNat : Int) = lowB y := by
 have := low_all ⟨y.toNat, y.toNat_lt⟩
 simp only [UInt8.ofNat_toNat] at this
 exact this
theorem low_lt (y : UInt8) : 0 ≤ lowB y ∧ lowB y < 256 := by
 have := (y ||| 32).toNat_lt
 unfold lowB
 omega
def ipuV : Option Nat → Value
 | some n => .tuple #[.int .u64 (n : Int), .nilIface]
 | none => .tuple #[.int .u64 0, .iface 145 (.int .i64 2)]
theorem wrap_u8 (x : Int) : IntKind.u8.wrap x = x % 256 := by simp [IntKind.wrap, IntKind.signed, IntKind.bits]
theorem wrap_u64 (x : Int) : IntKind.u64.wrap x = x % 18446744073709551616 := by simp [IntKind.wrap, IntKind.signed, IntKind.bits]
def frI (b : Addr) (c : Nat) (l : List UInt8) : Nat × Nat → Fr
 | (i, n) => [(1, .v (.int .i64 16)), (8, .v (.bool false)), (9, .so (mkB l)), (10, .v (.int .u64 1152921504606846976)), (11, .v (.int .u64 255)), (12, .v (.bool false)), (13, .io .u64 (n : Int)), (99, .sl (some b) (mkB l).size c), (100, .io .i64 ((mkB l).size : Int)), (101, .io .i64 (i : Int))]
def locI (_ : Nat × Nat) : Sx.Loc := []
def GI (w0 : World) (b : Addr) (l : List UInt8) (R : Option Nat) (x : Nat × Nat) (ρ : List Nat) (w : World) : Prop :=
 RowE w0 (fun _ => False) [] w0.heap.size 5 1 none 0 0 [] [(some b, bytesV (mkB l))] ρ w ∧ (hxs x.2 (l.drop x.1) = R ∧ x.1 ≤ l.length ∧ x.2 < 16 ^ x.1)
noncomputable def B119 : Code := (Tryz.f119.body).getD .skip
noncomputable def sq119 (p : List Nat) : Go.Sx.K := .seq (sub B119 p)
set_option maxHeartbeats 4000000 in
set_option maxRecDepth 100000 in
theorem lower_any (y : UInt8) (w : World) : Calls Tryz.prog 119 #[.int .u8 (y.toNat : Int)] w fun e w' => e = .returned (.int .u8 (lowB y)) ∧ Below w.heap.size w w' := by
 refine enter (fn := Tryz.f119) (c := B119) [.io .u8 (y.toNat : Int)] Tryz.func119 rfl rfl ?_
 refine At.to noF_stable noF_fewer 20 400 [2] 0 ⟨.exit .ret, [], [(2, .io IntKind.u8 (IntKind.u8.wrap (↑(BitVec.ofInt IntKind.u8.bits (↑y.toNat : Int) ||| BitVec.ofInt IntKind.u8.bits 32).toNat : Int)))], []⟩ (by kernel_rfl) (by kernel_rfl) ?_
 refine zE (.io IntKind.u8 (IntKind.u8.wrap (↑(BitVec.ofInt IntKind.u8.bits (↑y.toNat : Int) ||| BitVec.ofInt IntKind.u8.bits 32).toNat : Int))) ?_
 intro ρ w9 hw9 _
 exact ⟨by rw [low_eq]; rfl, hw9.below⟩
noncomputable def B97 : Code := (Tryz.f97.body).getD .skip
noncomputable def sq97 (p : List Nat) : Go.Sx.K := .seq (sub B97 p)
set_option maxHeartbeats 8000000 in
set_option maxRecDepth 100000 in
theorem ipu_any (l : List UInt8) (hl : l.length = 2) (w : World) :
  Calls Tryz.prog 97 #[.string (mkB l), .int .i64 16, .int .i64 8] w fun e w' => e = .returned (ipuV (hxs 0 l)) ∧ Below w.heap.size w w' := by
 refine enterF (N := w.heap.size) (F := RowE w (fun _ => False) [] w.heap.size 5 1  none 0 0 [] []) (fn := Tryz.f97) (c := B97) [.so (mkB l), .v (.int .i64 16), .v (.int .i64 8)] Tryz.func97 rfl rfl (Nat.le_refl _) ⟨⟨⟨⟨World.ownsRow_nil _ _ _ _, by simp [Value.ownBlock]⟩, Nat.le_refl _⟩, FrameR.start _ [] (by simp), by simp [Value.ownBlock]⟩, by simp⟩ ?_
 refine zTq RowE.stable RowE.fewer [0, 1, 2, 19] 0 ?_
 rcases zB ((mkB l).toList == (ByteArray.mk #[]).toList) with b0 | b0
 ·refine zR 19 b0 ?_
  refine zH [] 0 ⟨pops B97 [1, 0, 1, 2, 0] 0, [(sq97 pAJ21), (sq97 [1, 1])], [], []⟩ ?_
  exfalso
  have := emp_true b0
  subst this
  cases hl
 refine zR 19 b0 ?_
 refine zH [1, 8, 9, 10, 11, 12, 13, 98] 0 ⟨pops B97 [1, 1, 1, 1, 1, 1, 1, 1, 1, 1, 1, 0, 0] 1, [(sq97 [1, 1, 1, 1, 1, 1, 1, 1, 1, 1, 1, 0, 1]), (sq97 pAJ20)], [(1, .v (.int .i64 16)), (8, .v (.bool false)), (9, .so (mkB l)), (10, .v (.int IntKind.u64 1152921504606846976)), (11, .v (.int IntKind.u64 255)), (12, .v (.bool false)), (13, .v (.int IntKind.u64 0)), (98, .so (mkB l))], []⟩ ?_
 clear b0
 refine At.cvbE (mkB l) (by kernel_rfl) ?_
 intro b c
 refine zH [1, 8, 9, 10, 11, 12, 13, 99, 100, 101] 0 ⟨.code (sub B97 [1, 1, 1, 1, 1, 1, 1, 1, 1, 1, 1, 0, 1, 4]), [.block 3, (sq97 pAJ20)], [(1, .v (.int .i64 16)), (8, .v (.bool false)), (9, .so (mkB l)), (10, .v (.int IntKind.u64 1152921504606846976)), (11, .v (.int IntKind.u64 255)), (12, .v (.bool false)), (13, .v (.int IntKind.u64 0)), (99, .sl (some b) (mkB l).size c), (100, .io .i64 (↑(mkB l).size : Int)), (101, .v (.int .i64 0))], []⟩ ?_
 generalize hR : hxs 0 l = R
 refine At.canonT [13, 100, 101] _ rfl ?_
 refine At.loop (σ := Nat × Nat) (sub B97 [1, 1, 1, 1, 1, 1, 1, 1, 1, 1, 1, 0, 1, 4, 4]) (frI b c l) locI (GI w b l R) (fun x => l.length - x.1) (0, 0) (by kernel_rfl) (by unfold subFr; kernel_rfl) (by kernel_rfl) (fun _ _ _ _ h => ⟨h, hR, Nat.zero_le _, by show (0 : Nat) < 16 ^ 0; decide⟩) ?_
 clear hR
 rintro ⟨i, n⟩
 refine At.pure fun ⟨h1, h2, h3⟩ => ?_
 simp only at h1 h2 h3
 refine zTq RowE.stable RowE.fewer [1, 8, 9, 10, 11, 12, 13, 99, 100, 101, 102] 0 ?_
 rcases zB (decide ((↑i : Int) < (↑(mkB l).size : Int))) with b0 | b0
 ·refine zR 102 b0 ?_
  refine zH [1, 8, 9, 10, 11, 12, 13, 99, 100, 101] 0 ⟨pops B97 pAJ17 0, [(sq97 pAJ18), .block 4, (sq97 pAJ19), .next (Sx.Next w.heap.size w Tryz.f97.ntmps (frI b c l) locI (GI w b l R) (fun x => l.length - x.fst) (i, n)), .block 3, (sq97 pAJ20)], [(1, .v (.int .i64 16)), (8, .v (.bool false)), (9, .so (mkB l)), (10, .v (.int IntKind.u64 1152921504606846976)), (11, .v (.int IntKind.u64 255)), (12, .v (.bool false)), (13, .io IntKind.u64 (↑n : Int)), (99, .sl (some b) (mkB l).size c), (100, .io .i64 (↑(mkB l).size : Int)), (101, .io .i64 (↑i : Int))], []⟩ ?_
  have hi : i < l.length := by have := of_decide_eq_true b0; rw [mkB_size] at this; omega
  clear b0
  obtain ⟨y, hz⟩ : ∃ y, l[i]? = some y := ⟨_, List.getElem?_eq_getElem hi⟩
  have hy := y.toNat_lt
  rw [drop_at hz] at h1
  have h16 : n < 16 := by
   rcases (show i = 0 ∨ i = 1 by omega) with rfl | rfl
   ·have : n < 1 := h3
    omega
   exact h3
  refine At.idx b (mkB l).size 1 (i : Int) (by kernel_rfl) (by omega) (by rw [mkB_size]; omega) RowE.stable ?_
  let kn0 : K := .next (Sx.Next w.heap.size w Tryz.f97.ntmps (frI b c l) locI (GI w b l R) (fun x => l.length - x.fst) (i, n))
  refine zH [1, 8, 9, 10, 11, 12, 13, 99, 100, 101, 103] 0 ⟨pops B97 pAJ17 1, [(sq97 pAJ18), .block 4, (sq97 pAJ19), kn0, .block 3, (sq97 pAJ20)], [(1, .v (.int .i64 16)), (8, .v (.bool false)), (9, .so (mkB l)), (10, .v (.int IntKind.u64 1152921504606846976)), (11, .v (.int IntKind.u64 255)), (12, .v (.bool false)), (13, .io IntKind.u64 (↑n : Int)), (99, .sl (some b) (mkB l).size c), (100, .io .i64 (↑(mkB l).size : Int)), (101, .io .i64 (↑i : Int)), (103, .v (.pointer (some (b.add ((↑i : Int).toNat * 1)))))], []⟩ ?_
  refine At.ldx (b.add ((i : Int).toNat * 1)) (.io .u8 (y.toNat : Int)) (by kernel_rfl) RowE.stable (fun ρ w1 hm hf => by rw [Int.toNat_natCast, Nat.mul_one]; exact ent_src (hf.2 _ (List.mem_singleton.2 rfl)) i _ (show (bytesV (mkB l))[i]? = some (.int .u8 (y.toNat : Int)) by simp only [bytesV, mkB, List.getElem?_map, hz]; rfl)) ?_
  refine zTq RowE.stable RowE.fewer [1, 8, 9, 10, 11, 12, 13, 15, 99, 100, 101, 109] 0 ?_
  rcases zB ((↑y.toNat : Int) == 95) with b0 | b0
  ·refine zR 109 b0 ?_
   refine zH [1, 8, 9, 10, 11, 12, 13, 15, 99, 100, 101, 115] 0 ⟨pops B97 pAJ9 3, [(sq97 pAJ10), .block 5, (sq97 pAJ16), .block 4, (sq97 pAJ19), kn0, .block 3, (sq97 pAJ20)], [(1, .v (.int .i64 16)), (8, .v (.bool false)), (9, .so (mkB l)), (10, .v (.int IntKind.u64 1152921504606846976)), (11, .v (.int IntKind.u64 255)), (12, .v (.bool false)), (13, .io IntKind.u64 (↑n : Int)), (15, .io IntKind.u8 (↑y.toNat : Int)), (99, .sl (some b) (mkB l).size c), (100, .io .i64 (↑(mkB l).size : Int)), (101, .io .i64 (↑i : Int)), (115, .bo (decide (48 ≤ (↑y.toNat : Int))))], []⟩ ?_
   rcases zB (decide (48 ≤ (↑y.toNat : Int))) with b1 | b1
   ·refine zR 115 b1 ?_
    refine zTq RowE.stable RowE.fewer [1, 8, 9, 10, 11, 12, 13, 15, 99, 100, 101, 112] 0 ?_
    rcases zB (decide ((↑y.toNat : Int) ≤ 57)) with b2 | b2
    ·refine zR 112 b2 ?_
     refine zH [1, 8, 9, 10, 11, 12, 13, 16, 99, 100, 101, 137] 0 ⟨.code (sub B97 pAJ13), [(sq97 pAJ15), .block 4, (sq97 pAJ19), kn0, .block 3, (sq97 pAJ20)], [(1, .v (.int .i64 16)), (8, .v (.bool false)), (9, .so (mkB l)), (10, .v (.int IntKind.u64 1152921504606846976)), (11, .v (.int IntKind.u64 255)), (12, .v (.bool false)), (13, .io IntKind.u64 (↑n : Int)), (16, .io IntKind.u8 (IntKind.u8.wrap ((↑y.toNat : Int) - 48))), (99, .sl (some b) (mkB l).size c), (100, .io .i64 (↑(mkB l).size : Int)), (101, .io .i64 (↑i : Int)), (137, .bo (decide (IntKind.u8.wrap ((↑y.toNat : Int) - 48) ≥ IntKind.u8.wrap 16)))], []⟩ ?_
     rcases zB (decide (IntKind.u8.wrap ((↑y.toNat : Int) - 48) ≥ IntKind.u8.wrap 16)) with b3 | b3
     ·refine zR 137 b3 ?_
      refine zH [] 0 ⟨pops B97 pAJ11 0, [(sq97 pAJ21), (sq97 pAJ15), .block 4, (sq97 pAJ19), kn0, .block 3, (sq97 pAJ20)], [], []⟩ ?_
      refine At.mkI 145 (.int .i64 2) (by kernel_rfl) RowE.stable ?_
      refine zH [6, 7] 0 ⟨.exit .ret, [], [(6, .v (.int IntKind.u64 0)), (7, .v (.iface 145 (.int .i64 2)))], []⟩ ?_
      refine zE (.tup [.v (.int IntKind.u64 0), .v (.iface 145 (.int .i64 2))]) ?_
      have hy1 : hxd y = none := by
       simp only [wrap_u8, wrap_u64, decide_eq_true_eq, decide_eq_false_iff_not] at *
       unfold hxd
       have hlo := low_lt y
       first | (rw [if_neg (by omega), if_neg (by omega)]) | (exfalso; omega)
      rw [hxs_no hy1] at h1
      intro ρ w9 hm' hf
      rw [← h1]
      exact ⟨rfl, hm'.below⟩
     refine zR 137 b3 ?_
     refine zTq RowE.stable RowE.fewer [1, 8, 9, 10, 11, 12, 13, 16, 99, 100, 101, 141] 0 ?_
     rcases zB (decide ((↑n : Int) ≥ 1152921504606846976)) with b4 | b4
     ·refine zR 141 b4 ?_
      refine zH [142] 0 ⟨pops B97 pAJ7 1, [(sq97 pAJ21), (sq97 pAJ14), .block 4, (sq97 pAJ19), .next (Sx.Next w.heap.size w Tryz.f97.ntmps (frI b c l) locI (GI w b l R) (fun x => l.length - x.fst) (i, n)), .block 3, (sq97 pAJ20)], [(142, .v (.int IntKind.u64 255))], []⟩ ?_
      exfalso
      have hlo := low_lt y
      simp only [wrap_u8, wrap_u64, decide_eq_true_eq, decide_eq_false_iff_not] at *
      omega
     refine zR 141 b4 ?_
     refine zH [1, 8, 9, 10, 11, 12, 17, 99, 100, 101, 155] 0 ⟨pops B97 pAJ3 4, [(sq97 pAJ4), (sq97 pAJ8), .block 4, (sq97 pAJ19), .next (Sx.Next w.heap.size w Tryz.f97.ntmps (frI b c l) locI (GI w b l R) (fun x => l.length - x.fst) (i, n)), .block 3, (sq97 pAJ20)], [(1, .v (.int .i64 16)), (8, .v (.bool false)), (9, .so (mkB l)), (10, .v (.int IntKind.u64 1152921504606846976)), (11, .v (.int IntKind.u64 255)), (12, .v (.bool false)), (17, .io IntKind.u64 (IntKind.u64.wrap (IntKind.u64.wrap ((↑n : Int) * IntKind.u64.wrap 16) + IntKind.u64.wrap (IntKind.u8.wrap ((↑y.toNat : Int) - 48))))), (99, .sl (some b) (mkB l).size c), (100, .io .i64 (↑(mkB l).size : Int)), (101, .io .i64 (↑i : Int)), (155, .bo (decide (IntKind.u64.wrap (IntKind.u64.wrap ((↑n : Int) * IntKind.u64.wrap 16) + IntKind.u64.wrap (IntKind.u8.wrap ((↑y.toNat : Int) - 48))) < IntKind.u64.wrap ((↑n : Int) * IntKind.u64.wrap 16))))], []⟩ ?_
     rcases zB (decide (IntKind.u64.wrap (IntKind.u64.wrap ((↑n : Int) * IntKind.u64.wrap 16) + IntKind.u64.wrap (IntKind.u8.wrap ((↑y.toNat : Int) - 48))) < IntKind.u64.wrap ((↑n : Int) * IntKind.u64.wrap 16))) with b5 | b5
     ·refine zR 155 b5 ?_
      refine zH [160] 0 ⟨pops B97 pAJ0 1, [(sq97 pAJ21), (sq97 pAJ8), .block 4, (sq97 pAJ19), .next (Sx.Next w.heap.size w Tryz.f97.ntmps (frI b c l) locI (GI w b l R) (fun x => l.length - x.fst) (i, n)), .block 3, (sq97 pAJ20)], [(160, .v (.int IntKind.u64 255))], []⟩ ?_
      exfalso
      have hlo := low_lt y
      simp only [wrap_u8, wrap_u64, decide_eq_true_eq, decide_eq_false_iff_not] at *
      omega
     refine zR 155 b5 ?_
     refine zTq RowE.stable RowE.fewer [1, 8, 9, 10, 11, 12, 17, 99, 100, 101, 159] 0 ?_
     rcases zB (decide (IntKind.u64.wrap (IntKind.u64.wrap ((↑n : Int) * IntKind.u64.wrap 16) + IntKind.u64.wrap (IntKind.u8.wrap ((↑y.toNat : Int) - 48))) > 255)) with b6 | b6
     ·refine zR 159 b6 ?_
      refine zH [160] 0 ⟨pops B97 pAJ0 1, [(sq97 pAJ21), (sq97 pAJ8), .block 4, (sq97 pAJ19), .next (Sx.Next w.heap.size w Tryz.f97.ntmps (frI b c l) locI (GI w b l R) (fun x => l.length - x.fst) (i, n)), .block 3, (sq97 pAJ20)], [(160, .v (.int IntKind.u64 255))], []⟩ ?_
      exfalso
      have hlo := low_lt y
      simp only [wrap_u8, wrap_u64, decide_eq_true_eq, decide_eq_false_iff_not] at *
      omega
     refine zR 159 b6 ?_
     refine zH [1, 8, 9, 10, 11, 12, 13, 99, 100, 101] 0 ⟨.exit .normal, [.next (Sx.Next w.heap.size w Tryz.f97.ntmps (frI b c l) locI (GI w b l R) (fun x => l.length - x.fst) (i, n)), .block 3, (sq97 pAJ20)], [(1, .v (.int .i64 16)), (8, .v (.bool false)), (9, .so (mkB l)), (10, .v (.int IntKind.u64 1152921504606846976)), (11, .v (.int IntKind.u64 255)), (12, .v (.bool false)), (13, .io IntKind.u64 (IntKind.u64.wrap (IntKind.u64.wrap ((↑n : Int) * IntKind.u64.wrap 16) + IntKind.u64.wrap (IntKind.u8.wrap ((↑y.toNat : Int) - 48))))), (99, .sl (some b) (mkB l).size c), (100, .io .i64 (↑(mkB l).size : Int)), (101, .io .i64 (IntKind.i64.wrap ((↑i : Int) + 1)))], []⟩ ?_
     have hlo := low_lt y
     have hw3 : IntKind.i64.wrap ((i : Int) + 1) = ((i + 1 : Nat) : Int) := by
      rw [wrap63 (by omega) (by omega)]
      omega
     rw [hw3]
     have hyd : hxd y = some (y.toNat - 48) := by
      simp only [wrap_u8, wrap_u64, decide_eq_true_eq, decide_eq_false_iff_not] at *
      unfold hxd
      rw [if_pos (by omega)]
     rw [hxs_yes hyd] at h1
     have hv : (IntKind.u64.wrap (IntKind.u64.wrap ((↑n : Int) * IntKind.u64.wrap 16) + IntKind.u64.wrap (IntKind.u8.wrap ((↑y.toNat : Int) - 48)))) = ((16 * n + (y.toNat - 48) : Nat) : Int) := by
      simp only [wrap_u8, wrap_u64, decide_eq_true_eq, decide_eq_false_iff_not] at *
      omega
     rw [hv]
     refine At.next (σ := Nat × Nat) (i + 1, 16 * n + (y.toNat - 48)) rfl rfl (by unfold subFr; kernel_rfl) (by kernel_rfl) ?_ ?_
     ·intro ρ a' w' hi' hf
      refine ⟨hf, h1, by simp only; omega, ?_⟩
      show 16 * n + (y.toNat - 48) < 16 ^ (i + 1)
      have hdd : (y.toNat - 48) < 16 := by
       simp only [wrap_u8, wrap_u64, decide_eq_true_eq, decide_eq_false_iff_not] at *
       omega
      rw [Nat.pow_succ]
      omega
     show l.length - (i + 1) < l.length - i
     omega
    refine zR 112 b2 ?_
    let kn1 : K := .next (Sx.Next w.heap.size w Tryz.f97.ntmps (frI b c l) locI (GI w b l R) (fun x => l.length - x.fst) (i, n))
    refine zH [1, 8, 9, 10, 11, 12, 13, 15, 99, 100, 101, 122] 0 ⟨pops B97 pAJ5 1, [(sq97 pAJ6), .block 5, (sq97 pAJ16), .block 4, (sq97 pAJ19), kn1, .block 3, (sq97 pAJ20)], [(1, .v (.int .i64 16)), (8, .v (.bool false)), (9, .so (mkB l)), (10, .v (.int IntKind.u64 1152921504606846976)), (11, .v (.int IntKind.u64 255)), (12, .v (.bool false)), (13, .io IntKind.u64 (↑n : Int)), (15, .io IntKind.u8 (↑y.toNat : Int)), (99, .sl (some b) (mkB l).size c), (100, .io .i64 (↑(mkB l).size : Int)), (101, .io .i64 (↑i : Int)), (122, .io IntKind.u8 (↑y.toNat : Int))], []⟩ ?_
    refine zC RowE.stable 119 [.io .u8 (y.toNat : Int)] (.io .u8 (lowB y)) (fun _ _ w1 _ _ => lower_any y w1) ?_
    refine zTq RowE.stable RowE.fewer [1, 8, 9, 10, 11, 12, 13, 15, 99, 100, 101, 125] 0 ?_
    rcases zB (decide (97 ≤ lowB y)) with b0 | b0
    ·refine zR 125 b0 ?_
     refine zH [1, 8, 9, 10, 11, 12, 13, 15, 99, 100, 101, 125, 126] 0 ⟨pops B97 pAJ5 5, [(sq97 pAJ6), .block 5, (sq97 pAJ16), .block 4, (sq97 pAJ19), kn1, .block 3, (sq97 pAJ20)], [(1, .v (.int .i64 16)), (8, .v (.bool false)), (9, .so (mkB l)), (10, .v (.int IntKind.u64 1152921504606846976)), (11, .v (.int IntKind.u64 255)), (12, .v (.bool false)), (13, .io IntKind.u64 (↑n : Int)), (15, .io IntKind.u8 (↑y.toNat : Int)), (99, .sl (some b) (mkB l).size c), (100, .io .i64 (↑(mkB l).size : Int)), (101, .io .i64 (↑i : Int)), (125, .v (.bool true)), (126, .io IntKind.u8 (↑y.toNat : Int))], []⟩ ?_
     refine zC RowE.stable 119 [.io .u8 (y.toNat : Int)] (.io .u8 (lowB y)) (fun _ _ w1 _ _ => lower_any y w1) ?_
     refine zTq RowE.stable RowE.fewer [1, 8, 9, 10, 11, 12, 13, 15, 99, 100, 101, 121] 0 ?_
     rcases zB (decide (lowB y ≤ 122)) with b0 | b0
     ·refine zR 121 b0 ?_
      refine zH [1, 8, 9, 10, 11, 12, 13, 99, 100, 101, 130] 0 ⟨pops B97 pAJ2 1, [.block 5, (sq97 pAJ16), .block 4, (sq97 pAJ19), kn1, .block 3, (sq97 pAJ20)], [(1, .v (.int .i64 16)), (8, .v (.bool false)), (9, .so (mkB l)), (10, .v (.int IntKind.u64 1152921504606846976)), (11, .v (.int IntKind.u64 255)), (12, .v (.bool false)), (13, .io IntKind.u64 (↑n : Int)), (99, .sl (some b) (mkB l).size c), (100, .io .i64 (↑(mkB l).size : Int)), (101, .io .i64 (↑i : Int)), (130, .io IntKind.u8 (↑y.toNat : Int))], []⟩ ?_
      refine zC RowE.stable 119 [.io .u8 (y.toNat : Int)] (.io .u8 (lowB y)) (fun _ _ w1 _ _ => lower_any y w1) ?_
      refine zTq RowE.stable RowE.fewer [1, 8, 9, 10, 11, 12, 13, 16, 99, 100, 101, 137] 0 ?_
      rcases zB (decide (IntKind.u8.wrap (IntKind.u8.wrap (lowB y - 97) + 10) ≥ IntKind.u8.wrap 16)) with b0 | b0
      ·refine zR 137 b0 ?_
       refine zH [] 0 ⟨pops B97 pAJ11 0, [(sq97 pAJ21), (sq97 pAJ15), .block 4, (sq97 pAJ19), kn1, .block 3, (sq97 pAJ20)], [], []⟩ ?_
       refine At.mkI 145 (.int .i64 2) (by kernel_rfl) RowE.stable ?_
       refine zH [6, 7] 0 ⟨.exit .ret, [], [(6, .v (.int IntKind.u64 0)), (7, .v (.iface 145 (.int .i64 2)))], []⟩ ?_
       refine zE (.tup [.v (.int IntKind.u64 0), .v (.iface 145 (.int .i64 2))]) ?_
       have hy1 : hxd y = none := by
        simp only [wrap_u8, wrap_u64, decide_eq_true_eq, decide_eq_false_iff_not] at *
        unfold hxd
        have hlo := low_lt y
        first | (rw [if_neg (by omega), if_neg (by omega)]) | (exfalso; omega)
       rw [hxs_no hy1] at h1
       intro ρ w9 hm' hf
       rw [← h1]
       exact ⟨rfl, hm'.below⟩
      refine zR 137 b0 ?_
      refine zH [1, 8, 9, 10, 11, 12, 13, 16, 99, 100, 101, 141] 0 ⟨.code (sub B97 pAJ12), [(sq97 pAJ14), .block 4, (sq97 pAJ19), kn1, .block 3, (sq97 pAJ20)], [(1, .v (.int .i64 16)), (8, .v (.bool false)), (9, .so (mkB l)), (10, .v (.int IntKind.u64 1152921504606846976)), (11, .v (.int IntKind.u64 255)), (12, .v (.bool false)), (13, .io IntKind.u64 (↑n : Int)), (16, .io IntKind.u8 (IntKind.u8.wrap (IntKind.u8.wrap (lowB y - 97) + 10))), (99, .sl (some b) (mkB l).size c), (100, .io .i64 (↑(mkB l).size : Int)), (101, .io .i64 (↑i : Int)), (141, .bo (decide ((↑n : Int) ≥ 1152921504606846976)))], []⟩ ?_
      rcases zB (decide ((↑n : Int) ≥ 1152921504606846976)) with b1 | b1
      ·refine zR 141 b1 ?_
       refine zH [142] 0 ⟨pops B97 pAJ7 1, [(sq97 pAJ21), (sq97 pAJ14), .block 4, (sq97 pAJ19), .next (Sx.Next w.heap.size w Tryz.f97.ntmps (frI b c l) locI (GI w b l R) (fun x => l.length - x.fst) (i, n)), .block 3, (sq97 pAJ20)], [(142, .v (.int IntKind.u64 255))], []⟩ ?_
       exfalso
       have hlo := low_lt y
       simp only [wrap_u8, wrap_u64, decide_eq_true_eq, decide_eq_false_iff_not] at *
       omega
      refine zR 141 b1 ?_
      refine zTq RowE.stable RowE.fewer [1, 8, 9, 10, 11, 12, 17, 99, 100, 101, 155] 0 ?_
      rcases zB (decide (IntKind.u64.wrap (IntKind.u64.wrap ((↑n : Int) * IntKind.u64.wrap 16) + IntKind.u64.wrap (IntKind.u8.wrap (IntKind.u8.wrap (lowB y - 97) + 10))) < IntKind.u64.wrap ((↑n : Int) * IntKind.u64.wrap 16))) with b2 | b2
      ·refine zR 155 b2 ?_
       refine zH [160] 0 ⟨pops B97 pAJ0 1, [(sq97 pAJ21), (sq97 pAJ8), .block 4, (sq97 pAJ19), .next (Sx.Next w.heap.size w Tryz.f97.ntmps (frI b c l) locI (GI w b l R) (fun x => l.length - x.fst) (i, n)), .block 3, (sq97 pAJ20)], [(160, .v (.int IntKind.u64 255))], []⟩ ?_
       exfalso
       have hlo := low_lt y
       simp only [wrap_u8, wrap_u64, decide_eq_true_eq, decide_eq_false_iff_not] at *
       omega
      refine zR 155 b2 ?_
      refine zH [1, 8, 9, 10, 11, 12, 17, 99, 100, 101, 159] 0 ⟨.code (sub B97 pAJ4), [(sq97 pAJ8), .block 4, (sq97 pAJ19), .next (Sx.Next w.heap.size w Tryz.f97.ntmps (frI b c l) locI (GI w b l R) (fun x => l.length - x.fst) (i, n)), .block 3, (sq97 pAJ20)], [(1, .v (.int .i64 16)), (8, .v (.bool false)), (9, .so (mkB l)), (10, .v (.int IntKind.u64 1152921504606846976)), (11, .v (.int IntKind.u64 255)), (12, .v (.bool false)), (17, .io IntKind.u64 (IntKind.u64.wrap (IntKind.u64.wrap ((↑n : Int) * IntKind.u64.wrap 16) + IntKind.u64.wrap (IntKind.u8.wrap (IntKind.u8.wrap (lowB y - 97) + 10))))), (99, .sl (some b) (mkB l).size c), (100, .io .i64 (↑(mkB l).size : Int)), (101, .io .i64 (↑i : Int)), (159, .bo (decide (IntKind.u64.wrap (IntKind.u64.wrap ((↑n : Int) * IntKind.u64.wrap 16) + IntKind.u64.wrap (IntKind.u8.wrap (IntKind.u8.wrap (lowB y - 97) + 10))) > 255)))], []⟩ ?_
      rcases zB (decide (IntKind.u64.wrap (IntKind.u64.wrap ((↑n : Int) * IntKind.u64.wrap 16) + IntKind.u64.wrap (IntKind.u8.wrap (IntKind.u8.wrap (lowB y - 97) + 10))) > 255)) with b3 | b3
      ·refine zR 159 b3 ?_
       refine zH [160] 0 ⟨pops B97 pAJ0 1, [(sq97 pAJ21), (sq97 pAJ8), .block 4, (sq97 pAJ19), .next (Sx.Next w.heap.size w Tryz.f97.ntmps (frI b c l) locI (GI w b l R) (fun x => l.length - x.fst) (i, n)), .block 3, (sq97 pAJ20)], [(160, .v (.int IntKind.u64 255))], []⟩ ?_
       exfalso
       have hlo := low_lt y
       simp only [wrap_u8, wrap_u64, decide_eq_true_eq, decide_eq_false_iff_not] at *
       omega
      refine zR 159 b3 ?_
      refine zH [1, 8, 9, 10, 11, 12, 13, 99, 100, 101] 0 ⟨.exit .normal, [.next (Sx.Next w.heap.size w Tryz.f97.ntmps (frI b c l) locI (GI w b l R) (fun x => l.length - x.fst) (i, n)), .block 3, (sq97 pAJ20)], [(1, .v (.int .i64 16)), (8, .v (.bool false)), (9, .so (mkB l)), (10, .v (.int IntKind.u64 1152921504606846976)), (11, .v (.int IntKind.u64 255)), (12, .v (.bool false)), (13, .io IntKind.u64 (IntKind.u64.wrap (IntKind.u64.wrap ((↑n : Int) * IntKind.u64.wrap 16) + IntKind.u64.wrap (IntKind.u8.wrap (IntKind.u8.wrap (lowB y - 97) + 10))))), (99, .sl (some b) (mkB l).size c), (100, .io .i64 (↑(mkB l).size : Int)), (101, .io .i64 (IntKind.i64.wrap ((↑i : Int) + 1)))], []⟩ ?_
      have hlo := low_lt y
      have hw3 : IntKind.i64.wrap ((i : Int) + 1) = ((i + 1 : Nat) : Int) := by
       rw [wrap63 (by omega) (by omega)]
       omega
      rw [hw3]
      have hyd : hxd y = some ((lowB y).toNat - 87) := by
       simp only [wrap_u8, wrap_u64, decide_eq_true_eq, decide_eq_false_iff_not] at *
       unfold hxd
       rw [if_neg (by omega), if_pos (by omega)]
      rw [hxs_yes hyd] at h1
      have hv : (IntKind.u64.wrap (IntKind.u64.wrap ((↑n : Int) * IntKind.u64.wrap 16) + IntKind.u64.wrap (IntKind.u8.wrap (IntKind.u8.wrap (lowB y - 97) + 10)))) = ((16 * n + ((lowB y).toNat - 87) : Nat) : Int) := by
       simp only [wrap_u8, wrap_u64, decide_eq_true_eq, decide_eq_false_iff_not] at *
       omega
      rw [hv]
      refine At.next (σ := Nat × Nat) (i + 1, 16 * n + ((lowB y).toNat - 87)) rfl rfl (by unfold subFr; kernel_rfl) (by kernel_rfl) ?_ ?_
      ·intro ρ a' w' hi' hf
       refine ⟨hf, h1, by simp only; omega, ?_⟩
       show 16 * n + ((lowB y).toNat - 87) < 16 ^ (i + 1)
       have hdd : ((lowB y).toNat - 87) < 16 := by
        simp only [wrap_u8, wrap_u64, decide_eq_true_eq, decide_eq_false_iff_not] at *
        omega
       rw [Nat.pow_succ]
       omega
      show l.length - (i + 1) < l.length - i
      omega
     refine zR 121 b0 ?_
     refine zH [] 0 ⟨pops B97 pAJ1 0, [(sq97 pAJ21), .block 5, (sq97 pAJ16), .block 4, (sq97 pAJ19), .next (Sx.Next w.heap.size w Tryz.f97.ntmps (frI b c l) locI (GI w b l R) (fun x => l.length - x.fst) (i, n)), .block 3, (sq97 pAJ20)], [], []⟩ ?_
     refine At.mkI 145 (.int .i64 2) (by kernel_rfl) RowE.stable ?_
     refine zH [6, 7] 0 ⟨.exit .ret, [], [(6, .v (.int IntKind.u64 0)), (7, .v (.iface 145 (.int .i64 2)))], []⟩ ?_
     refine zE (.tup [.v (.int IntKind.u64 0), .v (.iface 145 (.int .i64 2))]) ?_
     have hy1 : hxd y = none := by
      simp only [wrap_u8, wrap_u64, decide_eq_true_eq, decide_eq_false_iff_not] at *
      unfold hxd
      have hlo := low_lt y
      first | (rw [if_neg (by omega), if_neg (by omega)]) | (exfalso; omega)
     rw [hxs_no hy1] at h1
     intro ρ w9 hm' hf
     rw [← h1]
     exact ⟨rfl, hm'.below⟩
    refine zR 125 b0 ?_
    refine zH [] 0 ⟨pops B97 pAJ1 0, [(sq97 pAJ21), .block 5, (sq97 pAJ16), .block 4, (sq97 pAJ19), .next (Sx.Next w.heap.size w Tryz.f97.ntmps (frI b c l) locI (GI w b l R) (fun x => l.length - x.fst) (i, n)), .block 3, (sq97 pAJ20)], [], []⟩ ?_
    refine At.mkI 145 (.int .i64 2) (by kernel_rfl) RowE.stable ?_
    refine zH [6, 7] 0 ⟨.exit .ret, [], [(6, .v (.int IntKind.u64 0)), (7, .v (.iface 145 (.int .i64 2)))], []⟩ ?_
    refine zE (.tup [.v (.int IntKind.u64 0), .v (.iface 145 (.int .i64 2))]) ?_
    have hy1 : hxd y = none := by
     simp only [wrap_u8, wrap_u64, decide_eq_true_eq, decide_eq_false_iff_not] at *
     unfold hxd
     have hlo := low_lt y
     first | (rw [if_neg (by omega), if_neg (by omega)]) | (exfalso; omega)
    rw [hxs_no hy1] at h1
    intro ρ w9 hm' hf
    rw [← h1]
    exact ⟨rfl, hm'.below⟩
   refine zR 115 b1 ?_
   let kn2 : K := .next (Sx.Next w.heap.size w Tryz.f97.ntmps (frI b c l) locI (GI w b l R) (fun x => l.length - x.fst) (i, n))
   refine zH [1, 8, 9, 10, 11, 12, 13, 15, 99, 100, 101, 122] 0 ⟨pops B97 pAJ5 1, [(sq97 pAJ6), .block 5, (sq97 pAJ16), .block 4, (sq97 pAJ19), kn2, .block 3, (sq97 pAJ20)], [(1, .v (.int .i64 16)), (8, .v (.bool false)), (9, .so (mkB l)), (10, .v (.int IntKind.u64 1152921504606846976)), (11, .v (.int IntKind.u64 255)), (12, .v (.bool false)), (13, .io IntKind.u64 (↑n : Int)), (15, .io IntKind.u8 (↑y.toNat : Int)), (99, .sl (some b) (mkB l).size c), (100, .io .i64 (↑(mkB l).size : Int)), (101, .io .i64 (↑i : Int)), (122, .io IntKind.u8 (↑y.toNat : Int))], []⟩ ?_
   refine zC RowE.stable 119 [.io .u8 (y.toNat : Int)] (.io .u8 (lowB y)) (fun _ _ w1 _ _ => lower_any y w1) ?_
   refine zTq RowE.stable RowE.fewer [1, 8, 9, 10, 11, 12, 13, 15, 99, 100, 101, 125] 0 ?_
   rcases zB (decide (97 ≤ lowB y)) with b0 | b0
   ·refine zR 125 b0 ?_
    refine zH [1, 8, 9, 10, 11, 12, 13, 15, 99, 100, 101, 125, 126] 0 ⟨pops B97 pAJ5 5, [(sq97 pAJ6), .block 5, (sq97 pAJ16), .block 4, (sq97 pAJ19), kn2, .block 3, (sq97 pAJ20)], [(1, .v (.int .i64 16)), (8, .v (.bool false)), (9, .so (mkB l)), (10, .v (.int IntKind.u64 1152921504606846976)), (11, .v (.int IntKind.u64 255)), (12, .v (.bool false)), (13, .io IntKind.u64 (↑n : Int)), (15, .io IntKind.u8 (↑y.toNat : Int)), (99, .sl (some b) (mkB l).size c), (100, .io .i64 (↑(mkB l).size : Int)), (101, .io .i64 (↑i : Int)), (125, .v (.bool true)), (126, .io IntKind.u8 (↑y.toNat : Int))], []⟩ ?_
    refine zC RowE.stable 119 [.io .u8 (y.toNat : Int)] (.io .u8 (lowB y)) (fun _ _ w1 _ _ => lower_any y w1) ?_
    refine zTq RowE.stable RowE.fewer [1, 8, 9, 10, 11, 12, 13, 15, 99, 100, 101, 121] 0 ?_
    rcases zB (decide (lowB y ≤ 122)) with b0 | b0
    ·refine zR 121 b0 ?_
     refine zH [1, 8, 9, 10, 11, 12, 13, 99, 100, 101, 130] 0 ⟨pops B97 pAJ2 1, [.block 5, (sq97 pAJ16), .block 4, (sq97 pAJ19), kn2, .block 3, (sq97 pAJ20)], [(1, .v (.int .i64 16)), (8, .v (.bool false)), (9, .so (mkB l)), (10, .v (.int IntKind.u64 1152921504606846976)), (11, .v (.int IntKind.u64 255)), (12, .v (.bool false)), (13, .io IntKind.u64 (↑n : Int)), (99, .sl (some b) (mkB l).size c), (100, .io .i64 (↑(mkB l).size : Int)), (101, .io .i64 (↑i : Int)), (130, .io IntKind.u8 (↑y.toNat : Int))], []⟩ ?_
     refine zC RowE.stable 119 [.io .u8 (y.toNat : Int)] (.io .u8 (lowB y)) (fun _ _ w1 _ _ => lower_any y w1) ?_
     refine zTq RowE.stable RowE.fewer [1, 8, 9, 10, 11, 12, 13, 16, 99, 100, 101, 137] 0 ?_
     rcases zB (decide (IntKind.u8.wrap (IntKind.u8.wrap (lowB y - 97) + 10) ≥ IntKind.u8.wrap 16)) with b0 | b0
     ·refine zR 137 b0 ?_
      refine zH [] 0 ⟨pops B97 pAJ11 0, [(sq97 pAJ21), (sq97 pAJ15), .block 4, (sq97 pAJ19), kn2, .block 3, (sq97 pAJ20)], [], []⟩ ?_
      refine At.mkI 145 (.int .i64 2) (by kernel_rfl) RowE.stable ?_
      refine zH [6, 7] 0 ⟨.exit .ret, [], [(6, .v (.int IntKind.u64 0)), (7, .v (.iface 145 (.int .i64 2)))], []⟩ ?_
      refine zE (.tup [.v (.int IntKind.u64 0), .v (.iface 145 (.int .i64 2))]) ?_
      have hy1 : hxd y = none := by
       simp only [wrap_u8, wrap_u64, decide_eq_true_eq, decide_eq_false_iff_not] at *
       unfold hxd
       have hlo := low_lt y
       first | (rw [if_neg (by omega), if_neg (by omega)]) | (exfalso; omega)
      rw [hxs_no hy1] at h1
      intro ρ w9 hm' hf
      rw [← h1]
      exact ⟨rfl, hm'.below⟩
     refine zR 137 b0 ?_
     refine zH [1, 8, 9, 10, 11, 12, 13, 16, 99, 100, 101, 141] 0 ⟨.code (sub B97 pAJ12), [(sq97 pAJ14), .block 4, (sq97 pAJ19), kn2, .block 3, (sq97 pAJ20)], [(1, .v (.int .i64 16)), (8, .v (.bool false)), (9, .so (mkB l)), (10, .v (.int IntKind.u64 1152921504606846976)), (11, .v (.int IntKind.u64 255)), (12, .v (.bool false)), (13, .io IntKind.u64 (↑n : Int)), (16, .io IntKind.u8 (IntKind.u8.wrap (IntKind.u8.wrap (lowB y - 97) + 10))), (99, .sl (some b) (mkB l).size c), (100, .io .i64 (↑(mkB l).size : Int)), (101, .io .i64 (↑i : Int)), (141, .bo (decide ((↑n : Int) ≥ 1152921504606846976)))], []⟩ ?_
     rcases zB (decide ((↑n : Int) ≥ 1152921504606846976)) with b1 | b1
     ·refine zR 141 b1 ?_
      refine zH [142] 0 ⟨pops B97 pAJ7 1, [(sq97 pAJ21), (sq97 pAJ14), .block 4, (sq97 pAJ19), .next (Sx.Next w.heap.size w Tryz.f97.ntmps (frI b c l) locI (GI w b l R) (fun x => l.length - x.fst) (i, n)), .block 3, (sq97 pAJ20)], [(142, .v (.int IntKind.u64 255))], []⟩ ?_
      exfalso
      have hlo := low_lt y
      simp only [wrap_u8, wrap_u64, decide_eq_true_eq, decide_eq_false_iff_not] at *
      omega
     refine zR 141 b1 ?_
     refine zTq RowE.stable RowE.fewer [1, 8, 9, 10, 11, 12, 17, 99, 100, 101, 155] 0 ?_
     rcases zB (decide (IntKind.u64.wrap (IntKind.u64.wrap ((↑n : Int) * IntKind.u64.wrap 16) + IntKind.u64.wrap (IntKind.u8.wrap (IntKind.u8.wrap (lowB y - 97) + 10))) < IntKind.u64.wrap ((↑n : Int) * IntKind.u64.wrap 16))) with b2 | b2
     ·refine zR 155 b2 ?_
      refine zH [160] 0 ⟨pops B97 pAJ0 1, [(sq97 pAJ21), (sq97 pAJ8), .block 4, (sq97 pAJ19), .next (Sx.Next w.heap.size w Tryz.f97.ntmps (frI b c l) locI (GI w b l R) (fun x => l.length - x.fst) (i, n)), .block 3, (sq97 pAJ20)], [(160, .v (.int IntKind.u64 255))], []⟩ ?_
      exfalso
      have hlo := low_lt y
      simp only [wrap_u8, wrap_u64, decide_eq_true_eq, decide_eq_false_iff_not] at *
      omega
     refine zR 155 b2 ?_
     refine zH [1, 8, 9, 10, 11, 12, 17, 99, 100, 101, 159] 0 ⟨.code (sub B97 pAJ4), [(sq97 pAJ8), .block 4, (sq97 pAJ19), .next (Sx.Next w.heap.size w Tryz.f97.ntmps (frI b c l) locI (GI w b l R) (fun x => l.length - x.fst) (i, n)), .block 3, (sq97 pAJ20)], [(1, .v (.int .i64 16)), (8, .v (.bool false)), (9, .so (mkB l)), (10, .v (.int IntKind.u64 1152921504606846976)), (11, .v (.int IntKind.u64 255)), (12, .v (.bool false)), (17, .io IntKind.u64 (IntKind.u64.wrap (IntKind.u64.wrap ((↑n : Int) * IntKind.u64.wrap 16) + IntKind.u64.wrap (IntKind.u8.wrap (IntKind.u8.wrap (lowB y - 97) + 10))))), (99, .sl (some b) (mkB l).size c), (100, .io .i64 (↑(mkB l).size : Int)), (101, .io .i64 (↑i : Int)), (159, .bo (decide (IntKind.u64.wrap (IntKind.u64.wrap ((↑n : Int) * IntKind.u64.wrap 16) + IntKind.u64.wrap (IntKind.u8.wrap (IntKind.u8.wrap (lowB y - 97) + 10))) > 255)))], []⟩ ?_
     rcases zB (decide (IntKind.u64.wrap (IntKind.u64.wrap ((↑n : Int) * IntKind.u64.wrap 16) + IntKind.u64.wrap (IntKind.u8.wrap (IntKind.u8.wrap (lowB y - 97) + 10))) > 255)) with b3 | b3
     ·refine zR 159 b3 ?_
      refine zH [160] 0 ⟨pops B97 pAJ0 1, [(sq97 pAJ21), (sq97 pAJ8), .block 4, (sq97 pAJ19), .next (Sx.Next w.heap.size w Tryz.f97.ntmps (frI b c l) locI (GI w b l R) (fun x => l.length - x.fst) (i, n)), .block 3, (sq97 pAJ20)], [(160, .v (.int IntKind.u64 255))], []⟩ ?_
      exfalso
      have hlo := low_lt y
      simp only [wrap_u8, wrap_u64, decide_eq_true_eq, decide_eq_false_iff_not] at *
      omega
     refine zR 159 b3 ?_
     refine zH [1, 8, 9, 10, 11, 12, 13, 99, 100, 101] 0 ⟨.exit .normal, [.next (Sx.Next w.heap.size w Tryz.f97.ntmps (frI b c l) locI (GI w b l R) (fun x => l.length - x.fst) (i, n)), .block 3, (sq97 pAJ20)], [(1, .v (.int .i64 16)), (8, .v (.bool false)), (9, .so (mkB l)), (10, .v (.int IntKind.u64 1152921504606846976)), (11, .v (.int IntKind.u64 255)), (12, .v (.bool false)), (13, .io IntKind.u64 (IntKind.u64.wrap (IntKind.u64.wrap ((↑n : Int) * IntKind.u64.wrap 16) + IntKind.u64.wrap (IntKind.u8.wrap (IntKind.u8.wrap (lowB y - 97) + 10))))), (99, .sl (some b) (mkB l).size c), (100, .io .i64 (↑(mkB l).size : Int)), (101, .io .i64 (IntKind.i64.wrap ((↑i : Int) + 1)))], []⟩ ?_
     have hlo := low_lt y
     have hw3 : IntKind.i64.wrap ((i : Int) + 1) = ((i + 1 : Nat) : Int) := by
      rw [wrap63 (by omega) (by omega)]
      omega
     rw [hw3]
     have hyd : hxd y = some ((lowB y).toNat - 87) := by
      simp only [wrap_u8, wrap_u64, decide_eq_true_eq, decide_eq_false_iff_not] at *
      unfold hxd
      rw [if_neg (by omega), if_pos (by omega)]
     rw [hxs_yes hyd] at h1
     have hv : (IntKind.u64.wrap (IntKind.u64.wrap ((↑n : Int) * IntKind.u64.wrap 16) + IntKind.u64.wrap (IntKind.u8.wrap (IntKind.u8.wrap (lowB y - 97) + 10)))) = ((16 * n + ((lowB y).toNat - 87) : Nat) : Int) := by
      simp only [wrap_u8, wrap_u64, decide_eq_true_eq, decide_eq_false_iff_not] at *
      omega
     rw [hv]
     refine At.next (σ := Nat × Nat) (i + 1, 16 * n + ((lowB y).toNat - 87)) rfl rfl (by unfold subFr; kernel_rfl) (by kernel_rfl) ?_ ?_
     ·intro ρ a' w' hi' hf
      refine ⟨hf, h1, by simp only; omega, ?_⟩
      show 16 * n + ((lowB y).toNat - 87) < 16 ^ (i + 1)
      have hdd : ((lowB y).toNat - 87) < 16 := by
       simp only [wrap_u8, wrap_u64, decide_eq_true_eq, decide_eq_false_iff_not] at *
       omega
      rw [Nat.pow_succ]
      omega
     show l.length - (i + 1) < l.length - i
     omega
    refine zR 121 b0 ?_
    refine zH [] 0 ⟨pops B97 pAJ1 0, [(sq97 pAJ21), .block 5, (sq97 pAJ16), .block 4, (sq97 pAJ19), .next (Sx.Next w.heap.size w Tryz.f97.ntmps (frI b c l) locI (GI w b l R) (fun x => l.length - x.fst) (i, n)), .block 3, (sq97 pAJ20)], [], []⟩ ?_
    refine At.mkI 145 (.int .i64 2) (by kernel_rfl) RowE.stable ?_
    refine zH [6, 7] 0 ⟨.exit .ret, [], [(6, .v (.int IntKind.u64 0)), (7, .v (.iface 145 (.int .i64 2)))], []⟩ ?_
    refine zE (.tup [.v (.int IntKind.u64 0), .v (.iface 145 (.int .i64 2))]) ?_
    have hy1 : hxd y = none := by
     simp only [wrap_u8, wrap_u64, decide_eq_true_eq, decide_eq_false_iff_not] at *
     unfold hxd
     have hlo := low_lt y
     first | (rw [if_neg (by omega), if_neg (by omega)]) | (exfalso; omega)
    rw [hxs_no hy1] at h1
    intro ρ w9 hm' hf
    rw [← h1]
    exact ⟨rfl, hm'.below⟩
   refine zR 125 b0 ?_
   refine zH [] 0 ⟨pops B97 pAJ1 0, [(sq97 pAJ21), .block 5, (sq97 pAJ16), .block 4, (sq97 pAJ19), .next (Sx.Next w.heap.size w Tryz.f97.ntmps (frI b c l) locI (GI w b l R) (fun x => l.length - x.fst) (i, n)), .block 3, (sq97 pAJ20)], [], []⟩ ?_
   refine At.mkI 145 (.int .i64 2) (by kernel_rfl) RowE.stable ?_
   refine zH [6, 7] 0 ⟨.exit .ret, [], [(6, .v (.int IntKind.u64 0)), (7, .v (.iface 145 (.int .i64 2)))], []⟩ ?_
   refine zE (.tup [.v (.int IntKind.u64 0), .v (.iface 145 (.int .i64 2))]) ?_
   have hy1 : hxd y = none := by
    simp only [wrap_u8, wrap_u64, decide_eq_true_eq, decide_eq_false_iff_not] at *
    unfold hxd
    have hlo := low_lt y
    first | (rw [if_neg (by omega), if_neg (by omega)]) | (exfalso; omega)
   rw [hxs_no hy1] at h1
   intro ρ w9 hm' hf
   rw [← h1]
   exact ⟨rfl, hm'.below⟩
  refine zR 109 b0 ?_
  let kn3 : K := .next (Sx.Next w.heap.size w Tryz.f97.ntmps (frI b c l) locI (GI w b l R) (fun x => l.length - x.fst) (i, n))
  refine zH [1, 8, 9, 10, 11, 12, 13, 15, 99, 100, 101, 115] 0 ⟨pops B97 pAJ9 3, [(sq97 pAJ10), .block 5, (sq97 pAJ16), .block 4, (sq97 pAJ19), kn3, .block 3, (sq97 pAJ20)], [(1, .v (.int .i64 16)), (8, .v (.bool false)), (9, .so (mkB l)), (10, .v (.int IntKind.u64 1152921504606846976)), (11, .v (.int IntKind.u64 255)), (12, .v (.bool false)), (13, .io IntKind.u64 (↑n : Int)), (15, .io IntKind.u8 (↑y.toNat : Int)), (99, .sl (some b) (mkB l).size c), (100, .io .i64 (↑(mkB l).size : Int)), (101, .io .i64 (↑i : Int)), (115, .bo (decide (48 ≤ (↑y.toNat : Int))))], []⟩ ?_
  rcases zB (decide (48 ≤ (↑y.toNat : Int))) with b7 | b7
  ·refine zR 115 b7 ?_
   refine zTq RowE.stable RowE.fewer [1, 8, 9, 10, 11, 12, 13, 15, 99, 100, 101, 112] 0 ?_
   rcases zB (decide ((↑y.toNat : Int) ≤ 57)) with b8 | b8
   ·refine zR 112 b8 ?_
    refine zH [1, 8, 9, 10, 11, 12, 13, 16, 99, 100, 101, 137] 0 ⟨.code (sub B97 pAJ13), [(sq97 pAJ15), .block 4, (sq97 pAJ19), kn3, .block 3, (sq97 pAJ20)], [(1, .v (.int .i64 16)), (8, .v (.bool false)), (9, .so (mkB l)), (10, .v (.int IntKind.u64 1152921504606846976)), (11, .v (.int IntKind.u64 255)), (12, .v (.bool false)), (13, .io IntKind.u64 (↑n : Int)), (16, .io IntKind.u8 (IntKind.u8.wrap ((↑y.toNat : Int) - 48))), (99, .sl (some b) (mkB l).size c), (100, .io .i64 (↑(mkB l).size : Int)), (101, .io .i64 (↑i : Int)), (137, .bo (decide (IntKind.u8.wrap ((↑y.toNat : Int) - 48) ≥ IntKind.u8.wrap 16)))], []⟩ ?_
    rcases zB (decide (IntKind.u8.wrap ((↑y.toNat : Int) - 48) ≥ IntKind.u8.wrap 16)) with b9 | b9
    ·refine zR 137 b9 ?_
     refine zH [] 0 ⟨pops B97 pAJ11 0, [(sq97 pAJ21), (sq97 pAJ15), .block 4, (sq97 pAJ19), kn3, .block 3, (sq97 pAJ20)], [], []⟩ ?_
     refine At.mkI 145 (.int .i64 2) (by kernel_rfl) RowE.stable ?_
     refine zH [6, 7] 0 ⟨.exit .ret, [], [(6, .v (.int IntKind.u64 0)), (7, .v (.iface 145 (.int .i64 2)))], []⟩ ?_
     refine zE (.tup [.v (.int IntKind.u64 0), .v (.iface 145 (.int .i64 2))]) ?_
     have hy1 : hxd y = none := by
      simp only [wrap_u8, wrap_u64, decide_eq_true_eq, decide_eq_false_iff_not] at *
      unfold hxd
      have hlo := low_lt y
      first | (rw [if_neg (by omega), if_neg (by omega)]) | (exfalso; omega)
     rw [hxs_no hy1] at h1
     intro ρ w9 hm' hf
     rw [← h1]
     exact ⟨rfl, hm'.below⟩
    refine zR 137 b9 ?_
    refine zTq RowE.stable RowE.fewer [1, 8, 9, 10, 11, 12, 13, 16, 99, 100, 101, 141] 0 ?_
    rcases zB (decide ((↑n : Int) ≥ 1152921504606846976)) with b10 | b10
    ·refine zR 141 b10 ?_
     refine zH [142] 0 ⟨pops B97 pAJ7 1, [(sq97 pAJ21), (sq97 pAJ14), .block 4, (sq97 pAJ19), .next (Sx.Next w.heap.size w Tryz.f97.ntmps (frI b c l) locI (GI w b l R) (fun x => l.length - x.fst) (i, n)), .block 3, (sq97 pAJ20)], [(142, .v (.int IntKind.u64 255))], []⟩ ?_
     exfalso
     have hlo := low_lt y
     simp only [wrap_u8, wrap_u64, decide_eq_true_eq, decide_eq_false_iff_not] at *
     omega
    refine zR 141 b10 ?_
    refine zH [1, 8, 9, 10, 11, 12, 17, 99, 100, 101, 155] 0 ⟨pops B97 pAJ3 4, [(sq97 pAJ4), (sq97 pAJ8), .block 4, (sq97 pAJ19), .next (Sx.Next w.heap.size w Tryz.f97.ntmps (frI b c l) locI (GI w b l R) (fun x => l.length - x.fst) (i, n)), .block 3, (sq97 pAJ20)], [(1, .v (.int .i64 16)), (8, .v (.bool false)), (9, .so (mkB l)), (10, .v (.int IntKind.u64 1152921504606846976)), (11, .v (.int IntKind.u64 255)), (12, .v (.bool false)), (17, .io IntKind.u64 (IntKind.u64.wrap (IntKind.u64.wrap ((↑n : Int) * IntKind.u64.wrap 16) + IntKind.u64.wrap (IntKind.u8.wrap ((↑y.toNat : Int) - 48))))), (99, .sl (some b) (mkB l).size c), (100, .io .i64 (↑(mkB l).size : Int)), (101, .io .i64 (↑i : Int)), (155, .bo (decide (IntKind.u64.wrap (IntKind.u64.wrap ((↑n : Int) * IntKind.u64.wrap 16) + IntKind.u64.wrap (IntKind.u8.wrap ((↑y.toNat : Int) - 48))) < IntKind.u64.wrap ((↑n : Int) * IntKind.u64.wrap 16))))], []⟩ ?_
    rcases zB (decide (IntKind.u64.wrap (IntKind.u64.wrap ((↑n : Int) * IntKind.u64.wrap 16) + IntKind.u64.wrap (IntKind.u8.wrap ((↑y.toNat : Int) - 48))) < IntKind.u64.wrap ((↑n : Int) * IntKind.u64.wrap 16))) with b11 | b11
    ·refine zR 155 b11 ?_
     refine zH [160] 0 ⟨pops B97 pAJ0 1, [(sq97 pAJ21), (sq97 pAJ8), .block 4, (sq97 pAJ19), .next (Sx.Next w.heap.size w Tryz.f97.ntmps (frI b c l) locI (GI w b l R) (fun x => l.length - x.fst) (i, n)), .block 3, (sq97 pAJ20)], [(160, .v (.int IntKind.u64 255))], []⟩ ?_
     exfalso
     have hlo := low_lt y
     simp only [wrap_u8, wrap_u64, decide_eq_true_eq, decide_eq_false_iff_not] at *
     omega
    refine zR 155 b11 ?_
    refine zTq RowE.stable RowE.fewer [1, 8, 9, 10, 11, 12, 17, 99, 100, 101, 159] 0 ?_
    rcases zB (decide (IntKind.u64.wrap (IntKind.u64.wrap ((↑n : Int) * IntKind.u64.wrap 16) + IntKind.u64.wrap (IntKind.u8.wrap ((↑y.toNat : Int) - 48))) > 255)) with b12 | b12
    ·refine zR 159 b12 ?_
     refine zH [160] 0 ⟨pops B97 pAJ0 1, [(sq97 pAJ21), (sq97 pAJ8), .block 4, (sq97 pAJ19), .next (Sx.Next w.heap.size w Tryz.f97.ntmps (frI b c l) locI (GI w b l R) (fun x => l.length - x.fst) (i, n)), .block 3, (sq97 pAJ20)], [(160, .v (.int IntKind.u64 255))], []⟩ ?_
     exfalso
     have hlo := low_lt y
     simp only [wrap_u8, wrap_u64, decide_eq_true_eq, decide_eq_false_iff_not] at *
     omega
    refine zR 159 b12 ?_
    refine zH [1, 8, 9, 10, 11, 12, 13, 99, 100, 101] 0 ⟨.exit .normal, [.next (Sx.Next w.heap.size w Tryz.f97.ntmps (frI b c l) locI (GI w b l R) (fun x => l.length - x.fst) (i, n)), .block 3, (sq97 pAJ20)], [(1, .v (.int .i64 16)), (8, .v (.bool false)), (9, .so (mkB l)), (10, .v (.int IntKind.u64 1152921504606846976)), (11, .v (.int IntKind.u64 255)), (12, .v (.bool false)), (13, .io IntKind.u64 (IntKind.u64.wrap (IntKind.u64.wrap ((↑n : Int) * IntKind.u64.wrap 16) + IntKind.u64.wrap (IntKind.u8.wrap ((↑y.toNat : Int) - 48))))), (99, .sl (some b) (mkB l).size c), (100, .io .i64 (↑(mkB l).size : Int)), (101, .io .i64 (IntKind.i64.wrap ((↑i : Int) + 1)))], []⟩ ?_
    have hlo := low_lt y
    have hw3 : IntKind.i64.wrap ((i : Int) + 1) = ((i + 1 : Nat) : Int) := by
     rw [wrap63 (by omega) (by omega)]
     omega
    rw [hw3]
    have hyd : hxd y = some (y.toNat - 48) := by
     simp only [wrap_u8, wrap_u64, decide_eq_true_eq, decide_eq_false_iff_not] at *
     unfold hxd
     rw [if_pos (by omega)]
    rw [hxs_yes hyd] at h1
    have hv : (IntKind.u64.wrap (IntKind.u64.wrap ((↑n : Int) * IntKind.u64.wrap 16) + IntKind.u64.wrap (IntKind.u8.wrap ((↑y.toNat : Int) - 48)))) = ((16 * n + (y.toNat - 48) : Nat) : Int) := by
     simp only [wrap_u8, wrap_u64, decide_eq_true_eq, decide_eq_false_iff_not] at *
     omega
    rw [hv]
    refine At.next (σ := Nat × Nat) (i + 1, 16 * n + (y.toNat - 48)) rfl rfl (by unfold subFr; kernel_rfl) (by kernel_rfl) ?_ ?_
    ·intro ρ a' w' hi' hf
     refine ⟨hf, h1, by simp only; omega, ?_⟩
     show 16 * n + (y.toNat - 48) < 16 ^ (i + 1)
     have hdd : (y.toNat - 48) < 16 := by
      simp only [wrap_u8, wrap_u64, decide_eq_true_eq, decide_eq_false_iff_not] at *
      omega
     rw [Nat.pow_succ]
     omega
    show l.length - (i + 1) < l.length - i
    omega
   refine zR 112 b8 ?_
   let kn4 : K := .next (Sx.Next w.heap.size w Tryz.f97.ntmps (frI b c l) locI (GI w b l R) (fun x => l.length - x.fst) (i, n))
   refine zH [1, 8, 9, 10, 11, 12, 13, 15, 99, 100, 101, 122] 0 ⟨pops B97 pAJ5 1, [(sq97 pAJ6), .block 5, (sq97 pAJ16), .block 4, (sq97 pAJ19), kn4, .block 3, (sq97 pAJ20)], [(1, .v (.int .i64 16)), (8, .v (.bool false)), (9, .so (mkB l)), (10, .v (.int IntKind.u64 1152921504606846976)), (11, .v (.int IntKind.u64 255)), (12, .v (.bool false)), (13, .io IntKind.u64 (↑n : Int)), (15, .io IntKind.u8 (↑y.toNat : Int)), (99, .sl (some b) (mkB l).size c), (100, .io .i64 (↑(mkB l).size : Int)), (101, .io .i64 (↑i : Int)), (122, .io IntKind.u8 (↑y.toNat : Int))], []⟩ ?_
   refine zC RowE.stable 119 [.io .u8 (y.toNat : Int)] (.io .u8 (lowB y)) (fun _ _ w1 _ _ => lower_any y w1) ?_
   refine zTq RowE.stable RowE.fewer [1, 8, 9, 10, 11, 12, 13, 15, 99, 100, 101, 125] 0 ?_
   rcases zB (decide (97 ≤ lowB y)) with b0 | b0
   ·refine zR 125 b0 ?_
    refine zH [1, 8, 9, 10, 11, 12, 13, 15, 99, 100, 101, 125, 126] 0 ⟨pops B97 pAJ5 5, [(sq97 pAJ6), .block 5, (sq97 pAJ16), .block 4, (sq97 pAJ19), kn4, .block 3, (sq97 pAJ20)], [(1, .v (.int .i64 16)), (8, .v (.bool false)), (9, .so (mkB l)), (10, .v (.int IntKind.u64 1152921504606846976)), (11, .v (.int IntKind.u64 255)), (12, .v (.bool false)), (13, .io IntKind.u64 (↑n : Int)), (15, .io IntKind.u8 (↑y.toNat : Int)), (99, .sl (some b) (mkB l).size c), (100, .io .i64 (↑(mkB l).size : Int)), (101, .io .i64 (↑i : Int)), (125, .v (.bool true)), (126, .io IntKind.u8 (↑y.toNat : Int))], []⟩ ?_
    refine zC RowE.stable 119 [.io .u8 (y.toNat : Int)] (.io .u8 (lowB y)) (fun _ _ w1 _ _ => lower_any y w1) ?_
    refine zTq RowE.stable RowE.fewer [1, 8, 9, 10, 11, 12, 13, 15, 99, 100, 101, 121] 0 ?_
    rcases zB (decide (lowB y ≤ 122)) with b0 | b0
    ·refine zR 121 b0 ?_
     refine zH [1, 8, 9, 10, 11, 12, 13, 99, 100, 101, 130] 0 ⟨pops B97 pAJ2 1, [.block 5, (sq97 pAJ16), .block 4, (sq97 pAJ19), kn4, .block 3, (sq97 pAJ20)], [(1, .v (.int .i64 16)), (8, .v (.bool false)), (9, .so (mkB l)), (10, .v (.int IntKind.u64 1152921504606846976)), (11, .v (.int IntKind.u64 255)), (12, .v (.bool false)), (13, .io IntKind.u64 (↑n : Int)), (99, .sl (some b) (mkB l).size c), (100, .io .i64 (↑(mkB l).size : Int)), (101, .io .i64 (↑i : Int)), (130, .io IntKind.u8 (↑y.toNat : Int))], []⟩ ?_
     refine zC RowE.stable 119 [.io .u8 (y.toNat : Int)] (.io .u8 (lowB y)) (fun _ _ w1 _ _ => lower_any y w1) ?_
     refine zTq RowE.stable RowE.fewer [1, 8, 9, 10, 11, 12, 13, 16, 99, 100, 101, 137] 0 ?_
     rcases zB (decide (IntKind.u8.wrap (IntKind.u8.wrap (lowB y - 97) + 10) ≥ IntKind.u8.wrap 16)) with b0 | b0
     ·refine zR 137 b0 ?_
      refine zH [] 0 ⟨pops B97 pAJ11 0, [(sq97 pAJ21), (sq97 pAJ15), .block 4, (sq97 pAJ19), kn4, .block 3, (sq97 pAJ20)], [], []⟩ ?_
      refine At.mkI 145 (.int .i64 2) (by kernel_rfl) RowE.stable ?_
      refine zH [6, 7] 0 ⟨.exit .ret, [], [(6, .v (.int IntKind.u64 0)), (7, .v (.iface 145 (.int .i64 2)))], []⟩ ?_
      refine zE (.tup [.v (.int IntKind.u64 0), .v (.iface 145 (.int .i64 2))]) ?_
      have hy1 : hxd y = none := by
       simp only [wrap_u8, wrap_u64, decide_eq_true_eq, decide_eq_false_iff_not] at *
       unfold hxd
       have hlo := low_lt y
       first | (rw [if_neg (by omega), if_neg (by omega)]) | (exfalso; omega)
      rw [hxs_no hy1] at h1
      intro ρ w9 hm' hf
      rw [← h1]
      exact ⟨rfl, hm'.below⟩
     refine zR 137 b0 ?_
     refine zH [1, 8, 9, 10, 11, 12, 13, 16, 99, 100, 101, 141] 0 ⟨.code (sub B97 pAJ12), [(sq97 pAJ14), .block 4, (sq97 pAJ19), kn4, .block 3, (sq97 pAJ20)], [(1, .v (.int .i64 16)), (8, .v (.bool false)), (9, .so (mkB l)), (10, .v (.int IntKind.u64 1152921504606846976)), (11, .v (.int IntKind.u64 255)), (12, .v (.bool false)), (13, .io IntKind.u64 (↑n : Int)), (16, .io IntKind.u8 (IntKind.u8.wrap (IntKind.u8.wrap (lowB y - 97) + 10))), (99, .sl (some b) (mkB l).size c), (100, .io .i64 (↑(mkB l).size : Int)), (101, .io .i64 (↑i : Int)), (141, .bo (decide ((↑n : Int) ≥ 1152921504606846976)))], []⟩ ?_
     rcases zB (decide ((↑n : Int) ≥ 1152921504606846976)) with b1 | b1
     ·refine zR 141 b1 ?_
      refine zH [142] 0 ⟨pops B97 pAJ7 1, [(sq97 pAJ21), (sq97 pAJ14), .block 4, (sq97 pAJ19), .next (Sx.Next w.heap.size w Tryz.f97.ntmps (frI b c l) locI (GI w b l R) (fun x => l.length - x.fst) (i, n)), .block 3, (sq97 pAJ20)], [(142, .v (.int IntKind.u64 255))], []⟩ ?_
      exfalso
      have hlo := low_lt y
      simp only [wrap_u8, wrap_u64, decide_eq_true_eq, decide_eq_false_iff_not] at *
      omega
     refine zR 141 b1 ?_
     refine zTq RowE.stable RowE.fewer [1, 8, 9, 10, 11, 12, 17, 99, 100, 101, 155] 0 ?_
     rcases zB (decide (IntKind.u64.wrap (IntKind.u64.wrap ((↑n : Int) * IntKind.u64.wrap 16) + IntKind.u64.wrap (IntKind.u8.wrap (IntKind.u8.wrap (lowB y - 97) + 10))) < IntKind.u64.wrap ((↑n : Int) * IntKind.u64.wrap 16))) with b2 | b2
     ·refine zR 155 b2 ?_
      refine zH [160] 0 ⟨pops B97 pAJ0 1, [(sq97 pAJ21), (sq97 pAJ8), .block 4, (sq97 pAJ19), .next (Sx.Next w.heap.size w Tryz.f97.ntmps (frI b c l) locI (GI w b l R) (fun x => l.length - x.fst) (i, n)), .block 3, (sq97 pAJ20)], [(160, .v (.int IntKind.u64 255))], []⟩ ?_
      exfalso
      have hlo := low_lt y
      simp only [wrap_u8, wrap_u64, decide_eq_true_eq, decide_eq_false_iff_not] at *
      omega
     refine zR 155 b2 ?_
     refine zH [1, 8, 9, 10, 11, 12, 17, 99, 100, 101, 159] 0 ⟨.code (sub B97 pAJ4), [(sq97 pAJ8), .block 4, (sq97 pAJ19), .next (Sx.Next w.heap.size w Tryz.f97.ntmps (frI b c l) locI (GI w b l R) (fun x => l.length - x.fst) (i, n)), .block 3, (sq97 pAJ20)], [(1, .v (.int .i64 16)), (8, .v (.bool false)), (9, .so (mkB l)), (10, .v (.int IntKind.u64 1152921504606846976)), (11, .v (.int IntKind.u64 255)), (12, .v (.bool false)), (17, .io IntKind.u64 (IntKind.u64.wrap (IntKind.u64.wrap ((↑n : Int) * IntKind.u64.wrap 16) + IntKind.u64.wrap (IntKind.u8.wrap (IntKind.u8.wrap (lowB y - 97) + 10))))), (99, .sl (some b) (mkB l).size c), (100, .io .i64 (↑(mkB l).size : Int)), (101, .io .i64 (↑i : Int)), (159, .bo (decide (IntKind.u64.wrap (IntKind.u64.wrap ((↑n : Int) * IntKind.u64.wrap 16) + IntKind.u64.wrap (IntKind.u8.wrap (IntKind.u8.wrap (lowB y - 97) + 10))) > 255)))], []⟩ ?_
     rcases zB (decide (IntKind.u64.wrap (IntKind.u64.wrap ((↑n : Int) * IntKind.u64.wrap 16) + IntKind.u64.wrap (IntKind.u8.wrap (IntKind.u8.wrap (lowB y - 97) + 10))) > 255)) with b3 | b3
     ·refine zR 159 b3 ?_
      refine zH [160] 0 ⟨pops B97 pAJ0 1, [(sq97 pAJ21), (sq97 pAJ8), .block 4, (sq97 pAJ19), .next (Sx.Next w.heap.size w Tryz.f97.ntmps (frI b c l) locI (GI w b l R) (fun x => l.length - x.fst) (i, n)), .block 3, (sq97 pAJ20)], [(160, .v (.int IntKind.u64 255))], []⟩ ?_
      exfalso
      have hlo := low_lt y
      simp only [wrap_u8, wrap_u64, decide_eq_true_eq, decide_eq_false_iff_not] at *
      omega
     refine zR 159 b3 ?_
     refine zH [1, 8, 9, 10, 11, 12, 13, 99, 100, 101] 0 ⟨.exit .normal, [.next (Sx.Next w.heap.size w Tryz.f97.ntmps (frI b c l) locI (GI w b l R) (fun x => l.length - x.fst) (i, n)), .block 3, (sq97 pAJ20)], [(1, .v (.int .i64 16)), (8, .v (.bool false)), (9, .so (mkB l)), (10, .v (.int IntKind.u64 1152921504606846976)), (11, .v (.int IntKind.u64 255)), (12, .v (.bool false)), (13, .io IntKind.u64 (IntKind.u64.wrap (IntKind.u64.wrap ((↑n : Int) * IntKind.u64.wrap 16) + IntKind.u64.wrap (IntKind.u8.wrap (IntKind.u8.wrap (lowB y - 97) + 10))))), (99, .sl (some b) (mkB l).size c), (100, .io .i64 (↑(mkB l).size : Int)), (101, .io .i64 (IntKind.i64.wrap ((↑i : Int) + 1)))], []⟩ ?_
     have hlo := low_lt y
     have hw3 : IntKind.i64.wrap ((i : Int) + 1) = ((i + 1 : Nat) : Int) := by
      rw [wrap63 (by omega) (by omega)]
      omega
     rw [hw3]
     have hyd : hxd y = some ((lowB y).toNat - 87) := by
      simp only [wrap_u8, wrap_u64, decide_eq_true_eq, decide_eq_false_iff_not] at *
      unfold hxd
      rw [if_neg (by omega), if_pos (by omega)]
     rw [hxs_yes hyd] at h1
     have hv : (IntKind.u64.wrap (IntKind.u64.wrap ((↑n : Int) * IntKind.u64.wrap 16) + IntKind.u64.wrap (IntKind.u8.wrap (IntKind.u8.wrap (lowB y - 97) + 10)))) = ((16 * n + ((lowB y).toNat - 87) : Nat) : Int) := by
      simp only [wrap_u8, wrap_u64, decide_eq_true_eq, decide_eq_false_iff_not] at *
      omega
     rw [hv]
     refine At.next (σ := Nat × Nat) (i + 1, 16 * n + ((lowB y).toNat - 87)) rfl rfl (by unfold subFr; kernel_rfl) (by kernel_rfl) ?_ ?_
     ·intro ρ a' w' hi' hf
      refine ⟨hf, h1, by simp only; omega, ?_⟩
      show 16 * n + ((lowB y).toNat - 87) < 16 ^ (i + 1)
      have hdd : ((lowB y).toNat - 87) < 16 := by
       simp only [wrap_u8, wrap_u64, decide_eq_true_eq, decide_eq_false_iff_not] at *
       omega
      rw [Nat.pow_succ]
      omega
     show l.length - (i + 1) < l.length - i
     omega
    refine zR 121 b0 ?_
    refine zH [] 0 ⟨pops B97 pAJ1 0, [(sq97 pAJ21), .block 5, (sq97 pAJ16), .block 4, (sq97 pAJ19), .next (Sx.Next w.heap.size w Tryz.f97.ntmps (frI b c l) locI (GI w b l R) (fun x => l.length - x.fst) (i, n)), .block 3, (sq97 pAJ20)], [], []⟩ ?_
    refine At.mkI 145 (.int .i64 2) (by kernel_rfl) RowE.stable ?_
    refine zH [6, 7] 0 ⟨.exit .ret, [], [(6, .v (.int IntKind.u64 0)), (7, .v (.iface 145 (.int .i64 2)))], []⟩ ?_
    refine zE (.tup [.v (.int IntKind.u64 0), .v (.iface 145 (.int .i64 2))]) ?_
    have hy1 : hxd y = none := by
     simp only [wrap_u8, wrap_u64, decide_eq_true_eq, decide_eq_false_iff_not] at *
     unfold hxd
     have hlo := low_lt y
     first | (rw [if_neg (by omega), if_neg (by omega)]) | (exfalso; omega)
    rw [hxs_no hy1] at h1
    intro ρ w9 hm' hf
    rw [← h1]
    exact ⟨rfl, hm'.below⟩
   refine zR 125 b0 ?_
   refine zH [] 0 ⟨pops B97 pAJ1 0, [(sq97 pAJ21), .block 5, (sq97 pAJ16), .block 4, (sq97 pAJ19), .next (Sx.Next w.heap.size w Tryz.f97.ntmps (frI b c l) locI (GI w b l R) (fun x => l.length - x.fst) (i, n)), .block 3, (sq97 pAJ20)], [], []⟩ ?_
   refine At.mkI 145 (.int .i64 2) (by kernel_rfl) RowE.stable ?_
   refine zH [6, 7] 0 ⟨.exit .ret, [], [(6, .v (.int IntKind.u64 0)), (7, .v (.iface 145 (.int .i64 2)))], []⟩ ?_
   refine zE (.tup [.v (.int IntKind.u64 0), .v (.iface 145 (.int .i64 2))]) ?_
   have hy1 : hxd y = none := by
    simp only [wrap_u8, wrap_u64, decide_eq_true_eq, decide_eq_false_iff_not] at *
    unfold hxd
    have hlo := low_lt y
    first | (rw [if_neg (by omega), if_neg (by omega)]) | (exfalso; omega)
   rw [hxs_no hy1] at h1
   intro ρ w9 hm' hf
   rw [← h1]
   exact ⟨rfl, hm'.below⟩
  refine zR 115 b7 ?_
  let kn5 : K := .next (Sx.Next w.heap.size w Tryz.f97.ntmps (frI b c l) locI (GI w b l R) (fun x => l.length - x.fst) (i, n))
  refine zH [1, 8, 9, 10, 11, 12, 13, 15, 99, 100, 101, 122] 0 ⟨pops B97 pAJ5 1, [(sq97 pAJ6), .block 5, (sq97 pAJ16), .block 4, (sq97 pAJ19), kn5, .block 3, (sq97 pAJ20)], [(1, .v (.int .i64 16)), (8, .v (.bool false)), (9, .so (mkB l)), (10, .v (.int IntKind.u64 1152921504606846976)), (11, .v (.int IntKind.u64 255)), (12, .v (.bool false)), (13, .io IntKind.u64 (↑n : Int)), (15, .io IntKind.u8 (↑y.toNat : Int)), (99, .sl (some b) (mkB l).size c), (100, .io .i64 (↑(mkB l).size : Int)), (101, .io .i64 (↑i : Int)), (122, .io IntKind.u8 (↑y.toNat : Int))], []⟩ ?_
  refine zC RowE.stable 119 [.io .u8 (y.toNat : Int)] (.io .u8 (lowB y)) (fun _ _ w1 _ _ => lower_any y w1) ?_
  refine zTq RowE.stable RowE.fewer [1, 8, 9, 10, 11, 12, 13, 15, 99, 100, 101, 125] 0 ?_
  rcases zB (decide (97 ≤ lowB y)) with b0 | b0
  ·refine zR 125 b0 ?_
   refine zH [1, 8, 9, 10, 11, 12, 13, 15, 99, 100, 101, 125, 126] 0 ⟨pops B97 pAJ5 5, [(sq97 pAJ6), .block 5, (sq97 pAJ16), .block 4, (sq97 pAJ19), kn5, .block 3, (sq97 pAJ20)], [(1, .v (.int .i64 16)), (8, .v (.bool false)), (9, .so (mkB l)), (10, .v (.int IntKind.u64 1152921504606846976)), (11, .v (.int IntKind.u64 255)), (12, .v (.bool false)), (13, .io IntKind.u64 (↑n : Int)), (15, .io IntKind.u8 (↑y.toNat : Int)), (99, .sl (some b) (mkB l).size c), (100, .io .i64 (↑(mkB l).size : Int)), (101, .io .i64 (↑i : Int)), (125, .v (.bool true)), (126, .io IntKind.u8 (↑y.toNat : Int))], []⟩ ?_
   refine zC RowE.stable 119 [.io .u8 (y.toNat : Int)] (.io .u8 (lowB y)) (fun _ _ w1 _ _ => lower_any y w1) ?_
   refine zTq RowE.stable RowE.fewer [1, 8, 9, 10, 11, 12, 13, 15, 99, 100, 101, 121] 0 ?_
   rcases zB (decide (lowB y ≤ 122)) with b0 | b0
   ·refine zR 121 b0 ?_
    refine zH [1, 8, 9, 10, 11, 12, 13, 99, 100, 101, 130] 0 ⟨pops B97 pAJ2 1, [.block 5, (sq97 pAJ16), .block 4, (sq97 pAJ19), kn5, .block 3, (sq97 pAJ20)], [(1, .v (.int .i64 16)), (8, .v (.bool false)), (9, .so (mkB l)), (10, .v (.int IntKind.u64 1152921504606846976)), (11, .v (.int IntKind.u64 255)), (12, .v (.bool false)), (13, .io IntKind.u64 (↑n : Int)), (99, .sl (some b) (mkB l).size c), (100, .io .i64 (↑(mkB l).size : Int)), (101, .io .i64 (↑i : Int)), (130, .io IntKind.u8 (↑y.toNat : Int))], []⟩ ?_
    refine zC RowE.stable 119 [.io .u8 (y.toNat : Int)] (.io .u8 (lowB y)) (fun _ _ w1 _ _ => lower_any y w1) ?_
    refine zTq RowE.stable RowE.fewer [1, 8, 9, 10, 11, 12, 13, 16, 99, 100, 101, 137] 0 ?_
    rcases zB (decide (IntKind.u8.wrap (IntKind.u8.wrap (lowB y - 97) + 10) ≥ IntKind.u8.wrap 16)) with b0 | b0
    ·refine zR 137 b0 ?_
     refine zH [] 0 ⟨pops B97 pAJ11 0, [(sq97 pAJ21), (sq97 pAJ15), .block 4, (sq97 pAJ19), kn5, .block 3, (sq97 pAJ20)], [], []⟩ ?_
     refine At.mkI 145 (.int .i64 2) (by kernel_rfl) RowE.stable ?_
     refine zH [6, 7] 0 ⟨.exit .ret, [], [(6, .v (.int IntKind.u64 0)), (7, .v (.iface 145 (.int .i64 2)))], []⟩ ?_
     refine zE (.tup [.v (.int IntKind.u64 0), .v (.iface 145 (.int .i64 2))]) ?_
     have hy1 : hxd y = none := by
      simp only [wrap_u8, wrap_u64, decide_eq_true_eq, decide_eq_false_iff_not] at *
      unfold hxd
      have hlo := low_lt y
      first | (rw [if_neg (by omega), if_neg (by omega)]) | (exfalso; omega)
     rw [hxs_no hy1] at h1
     intro ρ w9 hm' hf
     rw [← h1]
     exact ⟨rfl, hm'.below⟩
    refine zR 137 b0 ?_
    refine zH [1, 8, 9, 10, 11, 12, 13, 16, 99, 100, 101, 141] 0 ⟨.code (sub B97 pAJ12), [(sq97 pAJ14), .block 4, (sq97 pAJ19), kn5, .block 3, (sq97 pAJ20)], [(1, .v (.int .i64 16)), (8, .v (.bool false)), (9, .so (mkB l)), (10, .v (.int IntKind.u64 1152921504606846976)), (11, .v (.int IntKind.u64 255)), (12, .v (.bool false)), (13, .io IntKind.u64 (↑n : Int)), (16, .io IntKind.u8 (IntKind.u8.wrap (IntKind.u8.wrap (lowB y - 97) + 10))), (99, .sl (some b) (mkB l).size c), (100, .io .i64 (↑(mkB l).size : Int)), (101, .io .i64 (↑i : Int)), (141, .bo (decide ((↑n : Int) ≥ 1152921504606846976)))], []⟩ ?_
    rcases zB (decide ((↑n : Int) ≥ 1152921504606846976)) with b1 | b1
    ·refine zR 141 b1 ?_
     refine zH [142] 0 ⟨pops B97 pAJ7 1, [(sq97 pAJ21), (sq97 pAJ14), .block 4, (sq97 pAJ19), .next (Sx.Next w.heap.size w Tryz.f97.ntmps (frI b c l) locI (GI w b l R) (fun x => l.length - x.fst) (i, n)), .block 3, (sq97 pAJ20)], [(142, .v (.int IntKind.u64 255))], []⟩ ?_
     exfalso
     have hlo := low_lt y
     simp only [wrap_u8, wrap_u64, decide_eq_true_eq, decide_eq_false_iff_not] at *
     omega
    refine zR 141 b1 ?_
    refine zTq RowE.stable RowE.fewer [1, 8, 9, 10, 11, 12, 17, 99, 100, 101, 155] 0 ?_
    rcases zB (decide (IntKind.u64.wrap (IntKind.u64.wrap ((↑n : Int) * IntKind.u64.wrap 16) + IntKind.u64.wrap (IntKind.u8.wrap (IntKind.u8.wrap (lowB y - 97) + 10))) < IntKind.u64.wrap ((↑n : Int) * IntKind.u64.wrap 16))) with b2 | b2
    ·refine zR 155 b2 ?_
     refine zH [160] 0 ⟨pops B97 pAJ0 1, [(sq97 pAJ21), (sq97 pAJ8), .block 4, (sq97 pAJ19), .next (Sx.Next w.heap.size w Tryz.f97.ntmps (frI b c l) locI (GI w b l R) (fun x => l.length - x.fst) (i, n)), .block 3, (sq97 pAJ20)], [(160, .v (.int IntKind.u64 255))], []⟩ ?_
     exfalso
     have hlo := low_lt y
     simp only [wrap_u8, wrap_u64, decide_eq_true_eq, decide_eq_false_iff_not] at *
     omega
    refine zR 155 b2 ?_
    refine zH [1, 8, 9, 10, 11, 12, 17, 99, 100, 101, 159] 0 ⟨.code (sub B97 pAJ4), [(sq97 pAJ8), .block 4, (sq97 pAJ19), .next (Sx.Next w.heap.size w Tryz.f97.ntmps (frI b c l) locI (GI w b l R) (fun x => l.length - x.fst) (i, n)), .block 3, (sq97 pAJ20)], [(1, .v (.int .i64 16)), (8, .v (.bool false)), (9, .so (mkB l)), (10, .v (.int IntKind.u64 1152921504606846976)), (11, .v (.int IntKind.u64 255)), (12, .v (.bool false)), (17, .io IntKind.u64 (IntKind.u64.wrap (IntKind.u64.wrap ((↑n : Int) * IntKind.u64.wrap 16) + IntKind.u64.wrap (IntKind.u8.wrap (IntKind.u8.wrap (lowB y - 97) + 10))))), (99, .sl (some b) (mkB l).size c), (100, .io .i64 (↑(mkB l).size : Int)), (101, .io .i64 (↑i : Int)), (159, .bo (decide (IntKind.u64.wrap (IntKind.u64.wrap ((↑n : Int) * IntKind.u64.wrap 16) + IntKind.u64.wrap (IntKind.u8.wrap (IntKind.u8.wrap (lowB y - 97) + 10))) > 255)))], []⟩ ?_
    rcases zB (decide (IntKind.u64.wrap (IntKind.u64.wrap ((↑n : Int) * IntKind.u64.wrap 16) + IntKind.u64.wrap (IntKind.u8.wrap (IntKind.u8.wrap (lowB y - 97) + 10))) > 255)) with b3 | b3
    ·refine zR 159 b3 ?_
     refine zH [160] 0 ⟨pops B97 pAJ0 1, [(sq97 pAJ21), (sq97 pAJ8), .block 4, (sq97 pAJ19), .next (Sx.Next w.heap.size w Tryz.f97.ntmps (frI b c l) locI (GI w b l R) (fun x => l.length - x.fst) (i, n)), .block 3, (sq97 pAJ20)], [(160, .v (.int IntKind.u64 255))], []⟩ ?_
     exfalso
     have hlo := low_lt y
     simp only [wrap_u8, wrap_u64, decide_eq_true_eq, decide_eq_false_iff_not] at *
     omega
    refine zR 159 b3 ?_
    refine zH [1, 8, 9, 10, 11, 12, 13, 99, 100, 101] 0 ⟨.exit .normal, [.next (Sx.Next w.heap.size w Tryz.f97.ntmps (frI b c l) locI (GI w b l R) (fun x => l.length - x.fst) (i, n)), .block 3, (sq97 pAJ20)], [(1, .v (.int .i64 16)), (8, .v (.bool false)), (9, .so (mkB l)), (10, .v (.int IntKind.u64 1152921504606846976)), (11, .v (.int IntKind.u64 255)), (12, .v (.bool false)), (13, .io IntKind.u64 (IntKind.u64.wrap (IntKind.u64.wrap ((↑n : Int) * IntKind.u64.wrap 16) + IntKind.u64.wrap (IntKind.u8.wrap (IntKind.u8.wrap (lowB y - 97) + 10))))), (99, .sl (some b) (mkB l).size c), (100, .io .i64 (↑(mkB l).size : Int)), (101, .io .i64 (IntKind.i64.wrap ((↑i : Int) + 1)))], []⟩ ?_
    have hlo := low_lt y
    have hw3 : IntKind.i64.wrap ((i : Int) + 1) = ((i + 1 : Nat) : Int) := by
     rw [wrap63 (by omega) (by omega)]
     omega
    rw [hw3]
    have hyd : hxd y = some ((lowB y).toNat - 87) := by
     simp only [wrap_u8, wrap_u64, decide_eq_true_eq, decide_eq_false_iff_not] at *
     unfold hxd
     rw [if_neg (by omega), if_pos (by omega)]
    rw [hxs_yes hyd] at h1
    have hv : (IntKind.u64.wrap (IntKind.u64.wrap ((↑n : Int) * IntKind.u64.wrap 16) + IntKind.u64.wrap (IntKind.u8.wrap (IntKind.u8.wrap (lowB y - 97) + 10)))) = ((16 * n + ((lowB y).toNat - 87) : Nat) : Int) := by
     simp only [wrap_u8, wrap_u64, decide_eq_true_eq, decide_eq_false_iff_not] at *
     omega
    rw [hv]
    refine At.next (σ := Nat × Nat) (i + 1, 16 * n + ((lowB y).toNat - 87)) rfl rfl (by unfold subFr; kernel_rfl) (by kernel_rfl) ?_ ?_
    ·intro ρ a' w' hi' hf
     refine ⟨hf, h1, by simp only; omega, ?_⟩
     show 16 * n + ((lowB y).toNat - 87) < 16 ^ (i + 1)
     have hdd : ((lowB y).toNat - 87) < 16 := by
      simp only [wrap_u8, wrap_u64, decide_eq_true_eq, decide_eq_false_iff_not] at *
      omega
     rw [Nat.pow_succ]
     omega
    show l.length - (i + 1) < l.length - i
    omega
   refine zR 121 b0 ?_
   refine zH [] 0 ⟨pops B97 pAJ1 0, [(sq97 pAJ21), .block 5, (sq97 pAJ16), .block 4, (sq97 pAJ19), .next (Sx.Next w.heap.size w Tryz.f97.ntmps (frI b c l) locI (GI w b l R) (fun x => l.length - x.fst) (i, n)), .block 3, (sq97 pAJ20)], [], []⟩ ?_
   refine At.mkI 145 (.int .i64 2) (by kernel_rfl) RowE.stable ?_
   refine zH [6, 7] 0 ⟨.exit .ret, [], [(6, .v (.int IntKind.u64 0)), (7, .v (.iface 145 (.int .i64 2)))], []⟩ ?_
   refine zE (.tup [.v (.int IntKind.u64 0), .v (.iface 145 (.int .i64 2))]) ?_
   have hy1 : hxd y = none := by
    simp only [wrap_u8, wrap_u64, decide_eq_true_eq, decide_eq_false_iff_not] at *
    unfold hxd
    have hlo := low_lt y
    first | (rw [if_neg (by omega), if_neg (by omega)]) | (exfalso; omega)
   rw [hxs_no hy1] at h1
   intro ρ w9 hm' hf
   rw [← h1]
   exact ⟨rfl, hm'.below⟩
  refine zR 125 b0 ?_
  refine zH [] 0 ⟨pops B97 pAJ1 0, [(sq97 pAJ21), .block 5, (sq97 pAJ16), .block 4, (sq97 pAJ19), .next (Sx.Next w.heap.size w Tryz.f97.ntmps (frI b c l) locI (GI w b l R) (fun x => l.length - x.fst) (i, n)), .block 3, (sq97 pAJ20)], [], []⟩ ?_
  refine At.mkI 145 (.int .i64 2) (by kernel_rfl) RowE.stable ?_
  refine zH [6, 7] 0 ⟨.exit .ret, [], [(6, .v (.int IntKind.u64 0)), (7, .v (.iface 145 (.int .i64 2)))], []⟩ ?_
  refine zE (.tup [.v (.int IntKind.u64 0), .v (.iface 145 (.int .i64 2))]) ?_
  have hy1 : hxd y = none := by
   simp only [wrap_u8, wrap_u64, decide_eq_true_eq, decide_eq_false_iff_not] at *
   unfold hxd
   have hlo := low_lt y
   first | (rw [if_neg (by omega), if_neg (by omega)]) | (exfalso; omega)
  rw [hxs_no hy1] at h1
  intro ρ w9 hm' hf
  rw [← h1]
  exact ⟨rfl, hm'.below⟩
 refine zR 102 b0 ?_
 refine zH [6, 7] 0 ⟨.exit .ret, [], [(6, .io IntKind.u64 (↑n : Int)), (7, .v .nilIface)], []⟩ ?_
 refine zE (.tup [.io IntKind.u64 (↑n : Int), .v .nilIface]) ?_
 have hi : ¬ (i : Int) < ((mkB l).size : Int) := of_decide_eq_false b0
 rw [mkB_size] at hi
 rw [List.drop_eq_nil_of_le (by omega)] at h1
 intro ρ w9 hm' hf
 rw [← h1]
 exact ⟨rfl, hm'.below⟩
end Go.Proofs.YthfpekhpeiebjaaGreatDoor
end
