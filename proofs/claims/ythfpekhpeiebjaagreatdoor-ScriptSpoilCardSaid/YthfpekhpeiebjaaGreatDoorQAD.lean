/- Joined texts: SxDD, KA, KB, KC, NB, KD, KE, RA, RB, RC, RD. -/
import Derived.Test.YthfpekhpeiebjaaGreatDoorQAC
import Derived.Laws.IdiomStrings
import Derived.Test.YthfpekhpeiebjaaGreatDoorRows
import Derived.Test.YthfpekhpeiebjaaGreatDoorQAA
import Derived.Lib.ItoaLen
import Derived.Lib.ParseIntBCases
import Derived.Lib.SplitLaws
set_option linter.unusedSectionVars false
set_option linter.unusedSimpArgs false
set_option linter.unusedVariables false
namespace Go.Sx
open Go
def pAD0 : List Nat := [1, 1, 0, 1, 4, 4, 1, 0, 4, 1, 1, 3]
def pAD1 : List Nat := [1, 1, 0, 1, 4, 4, 1, 0, 4, 1, 0]
def pAD2 : List Nat := [1, 1, 0, 1, 4, 4, 1, 0, 4, 1, 1]
def pAD3 : List Nat := [1, 1, 0, 1, 4, 4, 1, 1]
def pAD4 : List Nat := [1, 1, 1]
end Go.Sx
section
namespace Go.Sx
open Go.RowKit
section
variable {P : Program} {Q : Exit → Act → World → Prop} {N : Nat} {w0 : World} {ntm : Nat} {F : List Nat → World → Prop}
variable [Md]
/-- A slice that was written out becomes a row of one's own. -/
theorem At.lsRow1 {s : S} (t : Nat) (ts : List Nat) (i n e size : Nat) (cells : List SV) (xs : List Value) (hl : look s.fr t = some (.ls i 0 n n)) (hloc : s.loc[i]? = some (cells, e)) (hlen : s.loc.length = i + 1) (hN : N = w0.heap.size)
  (hsz : cells.length = n * size) (hmax : n ≤ maxLen) (hxs : ∀ ρ, SV.denL ρ cells = xs)
  (hsc : (scopedFr i (s.keep ts i).fr && scopedLoc i (s.keep ts i).loc) = true)
  (h : ∀ A : Option Addr, At P Q N w0 ntm (RowF w0 (fun _ => False) [] w0.heap.size e size A n n xs) ((s.keep ts i).bind t (.sl A n n))) : At P Q N w0 ntm noF s := by
 intro ρ a w hi _
 simp only [Bool.and_eq_true] at hsc
 have hk := hi.keep ts i hsc.1 hsc.2
 have hcell := hi.mem.cells i _ _ hloc
 have hρl : ρ.length = i + 1 := by rw [hi.mem.len, hlen]
 have hmi : nth ρ i ∈ ρ := nth_mem (by omega)
 have hgi := hi.mem.ge _ hmi
 have hni : nth ρ i ∉ ρ.take i := by
  intro hmem
  obtain ⟨j, hj, he⟩ := List.getElem_of_mem hmem
  have hj' : j < i := by simp at hj; omega
  have hnj : nth ρ j = nth ρ i := by
   rw [← he]
   simp only [nth, List.getD, List.getElem_take, List.getElem?_eq_getElem (show j < ρ.length by omega), Option.getD_some]
  have := nth_inj hi.mem.nodup (by omega) (by omega) hnj
  omega
 have hxl : xs.length = n * size := by rw [← hxs ρ, SV.denL_eq, List.length_map, hsz]
 have hrow : w.ownsRow w0.heap.size e size (.slice (some ⟨nth ρ i, 0, none⟩) n n) n xs :=
  ⟨hxl, .inr ⟨nth ρ i, n, (SV.denL ρ cells).toArray, rfl, hN ▸ hgi.1, hcell, Nat.le_refl _, hmax, by simp [SV.denL_eq, hsz], by
   rw [hxs ρ, List.toList_toArray, ← hxl, List.take_length]⟩⟩
 have hfr : FrameR w0 (fun _ => False) [] (ρ.take i) w := ⟨Chg.ofBelow (hN ▸ hi.mem.below), fun b hb => .inr (hN ▸ (hi.mem.ge b (List.mem_of_mem_take hb)).1), by simp⟩
 have hrowF : RowF w0 (fun _ => False) [] w0.heap.size e size (some ⟨nth ρ i, 0, none⟩) n n xs (ρ.take i) w := ⟨⟨⟨hrow, fun g hg hm => by
  simp only [Value.ownBlock, Option.some.injEq] at hg
  subst hg
  exact hni hm⟩, hi.mem.below.size⟩, hfr, fun g hg => by
  simp only [Value.ownBlock, Option.some.injEq] at hg
  subst hg
  exact .inr (hN ▸ hgi.1)⟩
 refine h (some ⟨nth ρ i, 0, none⟩) (ρ.take i) a w ⟨⟨hk.act.defers, hk.act.size, fun t' x hx => ?_⟩, hk.mem⟩ hrowF
 simp only [S.bind, look] at hx
 split at hx
 ·rename_i hb
  have := Nat.eq_of_beq_eq_true hb
  subst this
  simp only [Option.some.injEq] at hx
  subst hx
  exact hi.act.slot _ _ hl
 ·exact hk.act.slot t' x hx
/-! ### the bytes of a string -/
def strS : SV → Option ByteArray
 | .v (.string s) => some s
 | .so s => some s
 | _ => none
theorem strS_den {ρ : List Nat} {x : SV} {s : ByteArray} (h : strS x = some s) : x.den ρ = .string s := by
 unfold strS at h
 split at h
 ·injection h with h; subst h; rfl
 ·injection h with h; subst h; rfl
 ·cases h
def cvbQ (P : Program) (fr : Fr) (o : Oper) : Option ByteArray :=
 match o.op with
 | .convert src dst x => match P.underlying src, P.underlying dst, (evalS fr x).bind strS with
  | some .string, some (.slice e), some s => match P.underlying e with
   | some (.int .u8) => some s
   | _ => none
  | _, _, _ => none
 | _ => none
def bytesV (s : ByteArray) : List Value := s.data.toList.map fun b => Value.int .u8 (b.toNat : Int)
theorem run_cvbQ {ρ : List Nat} {fr : Fr} {act : Act} (ha : AInv ntm ρ fr act) {o : Oper} {s : ByteArray} (h : cvbQ P fr o = some s) (w : World) :
  ∃ c w', (execOp act.eval o).run P w = .ok (.value (.slice (some ⟨w.heap.size, 0, none⟩) s.size c)) w' ∧ Below w.heap.size w w' ∧ w.heap.size < w'.heap.size ∧ Src w' ⟨w.heap.size, 0, none⟩ (bytesV s) := by
 obtain ⟨dst, op, ty, pos, after, guard⟩ := o
 unfold cvbQ at h
 simp only at h
 split at h
 ·rename_i src dst' x
  split at h
  ·rename_i e s' hs hd hx
   split at h
   ·rename_i he
    injection h with h
    subst h
    obtain ⟨sx, hx1, hx2⟩ := Option.bind_eq_some_iff.1 hx
    have hr := run_bytes_of_string (P := P) w src dst' e s' hs hd he
    generalize ho : Obj.cells (bytesRow s' (grownCap w s'.size 0 e)) e ((bytesRow s' (grownCap w s'.size 0 e)).size, (bytesRow s' (grownCap w s'.size 0 e)).size + 1) = ob at hr
    refine ⟨grownCap w s'.size 0 e, w.drew.alloc ob, by simp [execOp, evalS_sound ha hx1, strS_den hx2, hr], ⟨rfl, rfl, rfl, by simp, fun k hk => heap_alloc_old w.drew _ hk⟩, by simp, fun j u hj => ?_⟩
    subst ho
    rw [add_ok, Nat.zero_add]
    have hnew := heap_alloc_new w.drew (.cells (bytesRow s' (grownCap w s'.size 0 e)) e ((bytesRow s' (grownCap w s'.size 0 e)).size, (bytesRow s' (grownCap w s'.size 0 e)).size + 1))
    have hsz : w.drew.heap.size = w.heap.size := rfl
    rw [hsz] at hnew
    simp only [World.cell?, hnew]
    have hj' := (List.getElem?_eq_some_iff.1 hj).1
    simp only [bytesV, List.length_map] at hj'
    show (bytesRow s' (grownCap w s'.size 0 e))[j]? = some u
    unfold bytesRow
    rw [Array.getElem?_append_left (by simpa using hj')]
    rw [← hj]
    simp [bytesV]
   ·cases h
  ·cases h
 ·cases h
def cvbI (P : Program) (ntm : Nat) (s : S) : Option ByteArray :=
 match s.head?, s.dstOk ntm, s.plain with
 | some o, true, true => cvbQ P s.fr o
 | _, _, _ => none
/-- The bytes of a string: a new row beside the row of one's own. -/
theorem At.cvbE {s : S} {ok : Nat → Prop} {ρ0 : List Nat} {base e size : Nat} {A : Option Addr} {n c : Nat} {xs : List Value} {L : List (Option Addr × List Value)} (x : ByteArray) (hq : cvbI P ntm s = some x)
  (h : ∀ (b : Addr) (c' : Nat), At P Q N w0 ntm (RowE w0 ok ρ0 base e size A n c xs ((some b, bytesV x) :: L)) (s.tail ntm (.sl (some b) x.size c'))) : At P Q N w0 ntm (RowE w0 ok ρ0 base e size A n c xs L) s := by
 unfold cvbI at hq
 split at hq
 ·rename_i o ho hd hp
  refine At.opx (X := Addr × Nat) o (fun y => .sl (some y.1) x.size y.2) (fun y => RowE w0 ok ρ0 base e size A n c xs ((some y.1, bytesV x) :: L)) ho hd hp ?_ (fun y => h y.1 y.2)
  intro ρ a w hi hf
  obtain ⟨c', w', h1, h2, h3, h4⟩ := run_cvbQ hi.act hq w
  have hkeep : Keep ρ w w' := Keep.of_below h2
  refine ⟨(⟨w.heap.size, 0, none⟩, c'), w', h1, hi.mem.step (Chg.ofBelow (ok := fun _ => False) h2) (fun g _ hg => hg.elim) rfl (fun i d t hi' => hi.mem.kept (Chg.ofBelow (ok := fun _ => False) h2) hi' fun hg => hg), ?_⟩
  have hf' := RowE.stable ρ w ρ w' (Grow.refl _ _) hkeep hf
  refine ⟨hf'.1, fun p hp' => ?_⟩
  rcases List.mem_cons.1 hp' with rfl | hp'
  ·refine ⟨w.heap.size, rfl, hf.1.2.1.1.size, h3, fun hm => ?_, fun hq' => ?_, h4⟩
   ·have := (hi.mem.ge _ hm).2
    omega
   ·have := (hf.1.1.1.1.lt _ hq').2
    omega
  ·exact hf'.2 p hp'
 ·cases hq
/-- In a region that draws its order: a byte of a string ahead of all else. -/
theorem At.sixFirst {s : S} (hQ : ∀ e a w, Q e a w → e = .normal) (j : Nat) (x : ByteArray) (i : Int) (b : UInt8) (hq : (anyAt s j).bind (sixQ P s.fr) = some (x, i)) (hp : (anyPut ntm s j (.io .u8 (b.toNat : Int))).isSome = true) (h0 : 0 ≤ i) (hb : x.data.toList[i.toNat]? = some b)
  (hk : At P Q N w0 ntm F (s.anyNext ntm j (.io .u8 (b.toNat : Int)))) : At P Q N w0 ntm F s := by
 obtain ⟨o, ho, hq'⟩ := Option.bind_eq_some_iff.1 hq
 exact At.first hQ j o (.io .u8 (b.toNat : Int)) ho hp (fun ρ a w hi => run_sixQ hi hq' h0 hb w) hk
/-! ### an interface against nil -/
def nilQ (P : Program) (fr : Fr) (o : Oper) : Option Bool :=
 match o.op with
 | .binOp .neq t x (.const .nilIface) _ => match P.underlying t, evalS fr x with
  | some (.interface _), some (.v .nilIface) => some false
  | some (.interface _), some (.v (.iface _ _)) => some true
  | _, _ => none
 | _ => none
theorem run_nilQ {ρ : List Nat} {fr : Fr} {act : Act} (ha : AInv ntm ρ fr act) {o : Oper} {b : Bool} (h : nilQ P fr o = some b) (w : World) :
  (execOp act.eval o).run P w = .ok (.value (.bool b)) w := by
 obtain ⟨dst, op, ty, pos, after, guard⟩ := o
 unfold nilQ at h
 simp only at h
 split at h
 ·rename_i t x tt
  split at h
  ·rename_i ms hu hx
   simp only [Option.some.injEq] at h
   subst h
   have hm : P.underlying t = some (.interface (P.methodsAt t)) := by unfold Program.methodsAt; rw [hu]
   have hr : ((do eqGuard .neq t x (.const .nilIface) .nilIface .nilIface; binOp .neq t .nilIface .nilIface) : Sem Value).run P w = .ok (.bool false) w := by
    rw [eqGuard_nil_constR]
    exact run_neq_nil_nil w t hm
   have hy : act.eval (.const .nilIface) = (SV.v .nilIface).den ρ := evalS_sound ha rfl
   unfold execOp
   simp only [evalS_sound ha hx, hy, SV.den, Sem.run_bind] at hr ⊢
   simp [hr]
  ·rename_i ms d v hu hx
   simp only [Option.some.injEq] at h
   subst h
   have hm : P.underlying t = some (.interface (P.methodsAt t)) := by unfold Program.methodsAt; rw [hu]
   have hr : ((do eqGuard .neq t x (.const .nilIface) (.iface d v) .nilIface; binOp .neq t (.iface d v) .nilIface) : Sem Value).run P w = .ok (.bool true) w := by
    have hg : eqGuard .neq t x (.const .nilIface) (.iface d v) .nilIface = pure () := rfl
    rw [hg]
    exact run_neq_held_nil w t d v hm
   have hy : act.eval (.const .nilIface) = (SV.v .nilIface).den ρ := evalS_sound ha rfl
   unfold execOp
   simp only [evalS_sound ha hx, hy, SV.den, Sem.run_bind] at hr ⊢
   simp [hr]
  ·cases h
 ·cases h
def nilI (P : Program) (ntm : Nat) (s : S) : Option Bool :=
 match s.head?, s.dstOk ntm with
 | some o, true => nilQ P s.fr o
 | _, _ => none
theorem At.nilne {s : S} (b : Bool) (hq : nilI P ntm s = some b) (hF : Stable F) (h : At P Q N w0 ntm F (s.tail ntm (.v (.bool b)))) : At P Q N w0 ntm F s := by
 unfold nilI at hq
 split at hq
 ·rename_i o ho hd
  exact At.op hF o (.v (.bool b)) ho hd (fun ρ act w hi _ => run_nilQ hi.act hq w) h
 ·cases hq
end
end Go.Sx
end
section
namespace Go.Proofs.YthfpekhpeiebjaaGreatDoor
open Go.RowKit Go.Sx
open Go.Lib
def mkB (l : List UInt8) : ByteArray := ⟨l.toArray⟩
theorem mkB_size (x : List UInt8) : (mkB x).size = x.length := by simp [mkB, ByteArray.size]
def bw (l : List UInt8) : List Value := l.map fun b => Value.int .u8 (b.toNat : Int)
theorem bw_app (xs ys : List UInt8) : bw (xs ++ ys) = bw xs ++ bw ys := List.map_append
theorem drop_at {α : Type} {l : List α} {j : Nat} {b : α} (h : l[j]? = some b) : l.drop j = b :: l.drop (j + 1) := by
 obtain ⟨hl, he⟩ := List.getElem?_eq_some_iff.1 h
 rw [List.drop_eq_getElem_cons hl, he]
theorem wrap63 {x : Int} (h0 : 0 ≤ x) (h1 : x < 9223372036854775808) : IntKind.i64.wrap x = x := wrap_id ⟨by omega, by omega⟩
theorem ent_src {w0 w : World} {A : Option Addr} {b : Addr} {n c : Nat} {ys : List Value} {ρ : List Nat} (h : EntV w0 A n c (some b, ys) ρ w) : Src w b ys := by
 obtain ⟨b', e, _, _, _, _, hs⟩ := h
 simp only [Option.some.injEq] at e
 subst e
 exact hs
theorem shr_all : ∀ z : Fin 256, (((z.val : Nat) : Int)).fdiv (2 ^ (min (4 : Int).toNat IntKind.u8.bits)) = ((z.val / 16 : Nat) : Int) := by decide +kernel
theorem and_all : ∀ z : Fin 256, IntKind.u8.wrap ((BitVec.ofInt IntKind.u8.bits ((z.val : Nat) : Int) &&& BitVec.ofInt IntKind.u8.bits 15).toNat : Int) = ((z.val % 16 : Nat) : Int) := by decide +kernel
theorem shr4b (y : UInt8) : ((y.toNat : Int)).fdiv (2 ^ (min (4 : Int).toNat IntKind.u8.bits)) = ((y.toNat / 16 : Nat) : Int) := shr_all ⟨y.toNat, y.toNat_lt⟩
theorem and15b (y : UInt8) : IntKind.u8.wrap ((BitVec.ofInt IntKind.u8.bits (y.toNat : Int) &&& BitVec.ofInt IntKind.u8.bits 15).toNat : Int) = ((y.toNat % 16 : Nat) : Int) := and_all ⟨y.toNat, y.toNat_lt⟩
theorem hex_all : ∀ z : Fin 16, (ByteArray.mk #[48, 49, 50, 51, 52, 53, 54, 55, 56, 57, 97, 98, 99, 100, 101, 102]).data.toList[z.val]? = some (hexB z.val) := by decide +kernel
theorem hex_at {n : Nat} (h : n < 16) : (ByteArray.mk #[48, 49, 50, 51, 52, 53, 54, 55, 56, 57, 97, 98, 99, 100, 101, 102]).data.toList[n]? = some (hexB n) := hex_all ⟨n, h⟩
theorem strOf_eq (bs : List Nat) : strOf bs = ⟨(bs.map UInt8.ofNat).toArray⟩ := by
 have h : ∀ (l : List Nat) (acc : ByteArray), (l.map fun b : Nat => ((b : Nat) : Int)).foldl (fun r n => r.push (UInt8.ofNat n.toNat)) acc = ⟨acc.data ++ (l.map UInt8.ofNat).toArray⟩ := by
  intro l
  induction l with
  | nil => intro acc; simp
  | cons b l ih =>
   intro acc
   simp only [List.map_cons, List.foldl_cons, Int.toNat_natCast]
   rw [ih]
   simp [ByteArray.push]
 unfold strOf
 rw [h]
 have he : ByteArray.empty.data = #[] := rfl
 rw [he]
 simp
theorem strOf_map (l : List UInt8) : strOf (l.map UInt8.toNat) = mkB l := by
 rw [strOf_eq, List.map_map]
 unfold mkB
 congr 2
 rw [show (UInt8.ofNat ∘ UInt8.toNat) = id from funext fun b => by simp]
 simp
theorem row_cw {base n c : Nat} {A : Option Addr} {l : List UInt8} {ρ : List Nat} {w : World} (h : Row base 5 1 A n c (bw l) ρ w) :
  (l.map UInt8.toNat).length = n ∧ (A = none → l.map UInt8.toNat = []) ∧ ∀ a, A = some a → ∀ (j b : Nat), (l.map UInt8.toNat)[j]? = some b → w.cell? (a.add j) = some (.int .u8 (b : Int)) := by
 have hl : l.length = n := by have := h.len; simp only [bw, List.length_map] at this; omega
 refine ⟨by rw [List.length_map]; exact hl, fun ha => ?_, fun a ha j b hj => ?_⟩
 ·subst ha
  rcases h.1.2 with ⟨h2, h3⟩ | ⟨g, cap, cur, hv, _⟩
  ·injection h2 with _ h4 _
   rw [List.eq_nil_of_length_eq_zero (by omega : l.length = 0)]
   rfl
  ·cases hv
 ·subst ha
  rw [List.getElem?_map, Option.map_eq_some_iff] at hj
  obtain ⟨y, hy, rfl⟩ := hj
  have hj' := (List.getElem?_eq_some_iff.1 hy).1
  obtain ⟨g, hg, hc⟩ := h.cell (j := j) (by omega)
  injection hg with hg
  subst hg
  rw [add_ok, Nat.zero_add, hc, bw, List.getElem?_map, hy]
  rfl
structure QSt where
 i : Nat
 A : Option Addr
 n : Nat
 c : Nat
 acc : List UInt8
def frQ (b : Addr) (c : Nat) (k : List UInt8) : QSt → Fr
 | ⟨i, A1, n1, c1, _⟩ => [(3, .sl A1 n1 c1), (8, .sl (some b) (mkB k).size c), (9, .io .i64 ((mkB k).size : Int)), (10, .io .i64 (i : Int))]
def locQ (_ : QSt) : Sx.Loc := []
def GQ (w0 : World) (b : Addr) (k R : List UInt8) (s : QSt) (ρ : List Nat) (w : World) : Prop :=
 RowE w0 (fun _ => False) [] w0.heap.size 5 1 s.A s.n s.c (bw s.acc) [(some b, bytesV (mkB k))] ρ w ∧ (s.i ≤ k.length ∧ s.acc ++ ((k.drop s.i).flatMap q1 ++ [34]) = R ∧ s.n = s.acc.length ∧ s.n ≤ 1 + 4 * s.i)
def muQ (k : List UInt8) (s : QSt) : Nat := k.length - s.i
end Go.Proofs.YthfpekhpeiebjaaGreatDoor
end
section
namespace Go.Proofs.YthfpekhpeiebjaaGreatDoor
open Go.RowKit Go.Sx
theorem mkB_app (x y : List UInt8) : mkB x ++ mkB y = mkB (x ++ y) := by
 apply ByteArray.ext
 rw [ByteArray.data_append]
 simp [mkB]
section
variable {Q : Exit → Act → World → Prop} {N : Nat} {w0 : World} {ntm : Nat} {F : List Nat → World → Prop}
end
theorem grown_under (w : World) (q : Nat) (os : Array Obj) : Below w.heap.size w (Sort.grow (w.drewN q) os) :=
 ⟨rfl, rfl, rfl, by simp [Sort.grow], fun i hi => by
  show ((w.drewN q).heap ++ os)[i]? = _
  rw [Array.getElem?_append_left (by show i < w.heap.size; omega)]
  rfl⟩
theorem fmt_any (n : Int) (h : in64 n) (w : World) (htab : Lib.TabIs Tryz.prog w "internal/strconv.uint64pow10" .u64 Lib.pow10Tab) : Calls Tryz.prog 59 #[.int .i64 n, .int .i64 10] w fun e w' => e = .returned (.string (mkB (Lib.itoa n))) ∧ Below w.heap.size w w' :=
 (Tryz.strconv_FormatInt_10 n h.1 h.2 w htab).mono fun e w' h => by
  obtain ⟨rfl, k, os, rfl⟩ := h
  exact ⟨rfl, grown_under w k os⟩
theorem tab_below {B : Nat} {w w' : World} {n : String} {k : IntKind} {zs : List Int} (h : Lib.TabIs Tryz.prog w n k zs) (hb : Below B w w') (hB : B = w.heap.size) : Lib.TabIs Tryz.prog w' n k zs := by
 subst hB
 unfold Lib.TabIs World.var? at h ⊢
 cases hg : Tryz.prog.globalNamed n with
 | none => rw [hg] at h; cases h
 | some g =>
  rw [hg] at h
  simp only [Option.bind_some] at h ⊢
  have hlt : g < w.heap.size := by
   rcases Nat.lt_or_ge g w.heap.size with h' | h'
   ·exact h'
   ·rw [Array.getElem?_eq_none h'] at h; cases h
  rw [hb.block g hlt]
  exact h
theorem itoa_short {n : Int} (h : in64 n) : (Lib.itoa n).length ≤ 21 := Lib.itoa_length_le n h.1 h.2
theorem quote_short {k : List UInt8} (h : k.length ≤ 256) : (quoteB k).length ≤ 1026 := by
 have go : ∀ l : List UInt8, (l.flatMap q1).length ≤ 4 * l.length := by
  intro l
  induction l with
  | nil => simp
  | cons c l ih =>
   have : (q1 c).length ≤ 4 := by unfold q1; split <;> simp
   rw [List.flatMap_cons, List.length_append, List.length_cons]
   omega
 have := go k
 simp only [quoteB, List.length_cons, List.length_append, List.length_nil]
 omega
end Go.Proofs.YthfpekhpeiebjaaGreatDoor
end
section
namespace Go.Proofs.YthfpekhpeiebjaaGreatDoor
open Go.RowKit Go.Sx
theorem emp_true {x : List UInt8} (h : ((mkB x).toList == (ByteArray.mk #[]).toList) = true) : x = [] := by
 rw [ByteArray.toList_eq, ByteArray.toList_eq, beq_iff_eq] at h
 exact h
theorem emp_false {x : List UInt8} (h : ((mkB x).toList == (ByteArray.mk #[]).toList) = false) : ∃ y l, x = y :: l := by
 cases x with
 | nil => rw [ByteArray.toList_eq, ByteArray.toList_eq] at h; cases h
 | cons y l => exact ⟨y, l, rfl⟩
theorem unq_short (b : List UInt8) (l : List UInt8) (h : l.length < 3) : unq b (92 :: l) = none := by
 rw [unq_cons, if_neg (by decide), if_pos rfl]
 match l, h with
 | [], _ => rfl
 | [_], _ => rfl
 | [_, _], _ => rfl
theorem three {l : List UInt8} (h : 3 ≤ l.length) : ∃ x y z r, l = x :: y :: z :: r := by
 match l, h with
 | x :: y :: z :: r, _ => exact ⟨x, y, z, r, rfl⟩
theorem keyK_ne {y : UInt8} {l : List UInt8} (h : y ≠ 34) : keyK (y :: l) = none := by
 unfold keyK
 split
 ·rename_i s e
  injection e with e _
  exact absurd e h
 ·rfl
section
variable {Q : Exit → Act → World → Prop} {N : Nat} {w0 : World} {ntm : Nat} {F : List Nat → World → Prop}
theorem sslW {s : S} (x : List UInt8) (k : Nat) (y : List UInt8) (hy : x.drop k = y) (hq : sslI Tryz.prog ntm s = some (mkB x, (k : Int), none)) (hk : k ≤ x.length) (hF : Stable F) (h : At Tryz.prog Q N w0 ntm F (s.tail ntm (.so (mkB y)))) : At Tryz.prog Q N w0 ntm F s := by
 refine At.ssl (mkB x) (k : Int) none hq (by omega) (by rw [Option.getD_none, mkB_size]; omega) (by rw [Option.getD_none]; omega) hF ?_
 rw [Option.getD_none, Int.toNat_natCast, Int.toNat_natCast, mkB_size]
 have e : (mkB x).extract k x.length = mkB y := by
  subst hy
  apply ByteArray.ext
  rw [ByteArray.data_extract]
  apply Array.ext'
  simp [mkB]
  rw [List.take_of_length_le (by rw [List.length_drop]; omega)]
 rw [e]
 exact h
end
structure USt where
 A : Option Addr
 n : Nat
 c : Nat
 acc : List UInt8
 l : List UInt8
def frU : USt → Fr
 | ⟨A, n, c, _, l⟩ => [(0, .so (mkB l)), (5, .sl A n c)]
def locU (_ : USt) : Sx.Loc := []
def muU (s : USt) : Nat := s.l.length
def GU (w0 : World) (s : List UInt8) (x : USt) (ρ : List Nat) (w : World) : Prop :=
 RowF w0 (fun _ => False) [] w0.heap.size 5 1 x.A x.n x.c (bw x.acc) ρ w ∧ (keyK s = unq x.acc x.l ∧ x.n + x.l.length ≤ 1048576)
def keyV (o : Option (List UInt8 × List UInt8)) : Value := match o with
 | some (k, r) => .tuple #[.string (mkB k), .string (mkB r), .bool true]
 | none => .tuple #[.string ⟨#[]⟩, .string ⟨#[]⟩, .bool false]
end Go.Proofs.YthfpekhpeiebjaaGreatDoor
end
section
namespace Go.Proofs.YthfpekhpeiebjaaGreatDoor
open Go.Lib
/-- The pieces between blanks. -/
def pcs : List UInt8 → List UInt8 → List (List UInt8)
 | cur, [] => [cur]
 | cur, b :: r => if b = 32 then cur :: pcs [] r else pcs (cur ++ [b]) r
theorem pcs_app : ∀ (p r cur : List UInt8), (∀ b ∈ p, b ≠ 32) → pcs cur (p ++ r) = pcs (cur ++ p) r
 | [], r, cur, _ => by simp
 | b :: p, r, cur, h => by
  rw [List.cons_append, pcs, if_neg (h b (by simp)), pcs_app p r (cur ++ [b]) (fun c hc => h c (by simp [hc])), List.append_assoc]
  rfl
theorem pcs_none (p : List UInt8) (h : ∀ b ∈ p, b ≠ 32) : pcs [] p = [p] := by
 have := pcs_app p [] [] h
 rw [List.append_nil, List.nil_append] at this
 rw [this]
 rfl
theorem pcs_hit (p r : List UInt8) (h : ∀ b ∈ p, b ≠ 32) : pcs [] (p ++ 32 :: r) = p :: pcs [] r := by
 rw [pcs_app p _ [] h, List.nil_append, pcs, if_pos rfl]
theorem idx_none : ∀ (l : List UInt8), Lib.index l [32] = -1 → ∀ b ∈ l, b ≠ 32
 | [], _, b, hb => by cases hb
 | c :: l, h, b, hb => by
  unfold Lib.index at h
  by_cases hc : (32 : UInt8) = c
  ·simp [hc] at h
  ·have hp : List.isPrefixOf [32] (c :: l) = false := by simp [List.isPrefixOf, hc]
   rw [if_neg (by simp [hp])] at h
   by_cases h1 : Lib.index l [32] = -1
   ·rcases List.mem_cons.1 hb with rfl | hb
    ·exact fun e => hc e.symm
    ·exact idx_none l h1 b hb
   ·have := index_ge l [32]
    rw [if_neg (by simp [h1])] at h
    omega
theorem idx_some : ∀ (l : List UInt8) (i : Nat), Lib.index l [32] = (i : Int) → ∃ p r, l = p ++ 32 :: r ∧ p.length = i ∧ ∀ b ∈ p, b ≠ 32
 | [], i, h => by
  simp only [Lib.index] at h
  exact absurd h (by simp)
 | c :: l, i, h => by
  unfold Lib.index at h
  by_cases hc : (32 : UInt8) = c
  ·subst hc
   have hp : List.isPrefixOf [32] ((32 : UInt8) :: l) = true := by simp [List.isPrefixOf]
   rw [if_pos hp] at h
   exact ⟨[], l, rfl, by simp; omega, by simp⟩
  ·have hp : List.isPrefixOf [32] (c :: l) = false := by simp [List.isPrefixOf, hc]
   rw [if_neg (by simp [hp])] at h
   by_cases h1 : Lib.index l [32] = -1
   ·rw [if_pos (by simp [h1])] at h
    omega
   ·have hg := index_ge l [32]
    rw [if_neg (by simp [h1])] at h
    obtain ⟨p, r, e, hl, hb⟩ := idx_some l (i - 1) (by omega)
    refine ⟨c :: p, r, by rw [e]; rfl, by simp; omega, fun b hbm => ?_⟩
    rcases List.mem_cons.1 hbm with rfl | hbm
    ·exact fun e => hc e.symm
    ·exact hb b hbm
theorem split_pcs : ∀ (m : Nat) (l : List UInt8), l.length ≤ m → splitK [32] 0 (Lib.count l [32]) l = pcs [] l
 | m, l, hm => by
  rcases Int.lt_or_le (Lib.index l [32]) 0 with h | h
  ·have h1 : Lib.index l [32] = -1 := by have := index_ge l [32]; omega
   rw [count_miss h1]
   exact (pcs_none l (idx_none l h1)).symm
  ·obtain ⟨i, hi⟩ : ∃ i : Nat, Lib.index l [32] = i := ⟨_, (Int.toNat_of_nonneg h).symm⟩
   obtain ⟨p, r, e, hl, hb⟩ := idx_some l i hi
   rw [count_hit (by simp) hi, Nat.add_comm, splitK, if_neg (by simp [hi]), hi, Int.toNat_natCast]
   subst hl
   have hd : l.drop (p.length + [(32 : UInt8)].length) = r := by
    rw [e, List.length_singleton, show p ++ 32 :: r = (p ++ [32]) ++ r by simp]
    exact List.drop_left' (by simp)
   have ht : l.take (p.length + 0) = p := by rw [e, Nat.add_zero, List.take_left]
   rw [hd, ht]
   match m with
   | 0 => rw [e] at hm; simp at hm
   | m + 1 =>
    rw [split_pcs m r (by rw [e] at hm; simp at hm; omega)]
    rw [e]
    exact (pcs_hit p r hb).symm
open Go.RowKit Go.Sx
theorem pcs_len : ∀ (l cur : List UInt8) (p : List UInt8), p ∈ pcs cur l → p.length ≤ cur.length + l.length
 | [], cur, p, h => by
  simp only [pcs, List.mem_singleton] at h
  subst h
  simp
 | b :: l, cur, p, h => by
  rw [pcs] at h
  split at h
  ·rcases List.mem_cons.1 h with rfl | h
   ·simp
   ·have := pcs_len l [] p h
    simp at this ⊢
    omega
  ·have := pcs_len l (cur ++ [b]) p h
   simp at this ⊢
   omega
theorem pcs_short {s : ByteArray} (hs : s.size ≤ 1048576) {p : List UInt8} (h : p ∈ pcs [] s.data.toList) : p.length ≤ 1048576 := by
 have := pcs_len _ _ p h
 have hsz : s.size = s.data.toList.length := by rw [Array.length_toList]; rfl
 simp only [List.length_nil] at this
 omega
theorem split_list (s : ByteArray) : Lib.splitB ⟨#[32]⟩ 0 (Lib.countB s ⟨#[32]⟩) s = (pcs [] s.data.toList).map mkB := by
 have h := Lib.splitB_data ⟨#[32]⟩ 0 (Lib.countB s ⟨#[32]⟩) s
 have h2 := split_pcs s.data.toList.length s.data.toList (Nat.le_refl _)
 rw [← h2, ← show Lib.splitK (ByteArray.mk #[32]).data.toList 0 (Lib.countB s ⟨#[32]⟩) s.data.toList = Lib.splitK [32] 0 (Lib.count s.data.toList [32]) s.data.toList from rfl, ← h, List.map_map]
 exact (List.map_id _).symm
theorem split_len (s : ByteArray) : Lib.countB s ⟨#[32]⟩ + 1 = (pcs [] s.data.toList).length := by
 rw [← Lib.splitB_all ⟨#[32]⟩ (by decide) 0 _ s rfl, split_list, List.length_map]
theorem split_row (s : ByteArray) (hs : s.size ≤ 1048576) (w : World) {m : Int} (hm : w.cell? ⟨1, 0, none⟩ = some (.int .i64 m)) {n : Nat} (hn : (pcs [] s.data.toList).length = n) :
  Calls Tryz.prog 52 #[.string s, .string ⟨#[32]⟩] w fun e w' => ∃ ρc, e = .returned ((SV.ls 0 0 n n).den ρc) ∧ WInv w.heap.size w ρc [((pcs [] s.data.toList).map fun p => SV.so (mkB p), 9)] w' := by
 refine (Tryz.strings_Split s ⟨#[32]⟩ m w (by omega) hm (by decide)).mono ?_
 rintro e w' ⟨rfl, rfl⟩
 rw [split_len, hn, split_list]
 refine ⟨[w.heap.size], by rfl, (Below.refl _ _).alloc (Nat.le_refl _) _, by rw [show (w.alloc _).heap = w.heap.push _ from rfl]; simp, rfl, by simp, fun b hb => ?_, fun i c t hi => ?_⟩
 ·simp at hb
  subst hb
  exact ⟨Nat.le_refl _, by rw [show (w.alloc _).heap = w.heap.push _ from rfl]; simp⟩
 ·cases i with
  | zero =>
   simp only [List.getElem?_cons_zero, Option.some.injEq, Prod.mk.injEq] at hi
   obtain ⟨rfl, rfl⟩ := hi
   rw [show (w.alloc _).heap = w.heap.push _ from rfl]
   simp only [nth, List.getD, List.getElem?_cons_zero, Option.getD_some, Array.getElem?_push_size, SV.denL_eq, List.map_map]
   rfl
  | succ i => simp at hi
theorem var_below {w0 w : World} {n : String} {cs : Array Value} (h : w0.var? Tryz.prog n = some cs) (hb : Below w0.heap.size w0 w) : w.var? Tryz.prog n = some cs := by
 unfold World.var? at h ⊢
 cases hg : Tryz.prog.globalNamed n with
 | none => rw [hg] at h; cases h
 | some g =>
  rw [hg] at h
  simp only [Option.bind_some] at h ⊢
  have hlt : g < w0.heap.size := by
   rcases Nat.lt_or_ge g w0.heap.size with h' | h'
   ·exact h'
   ·rw [Array.getElem?_eq_none h'] at h; cases h
  rw [hb.block g hlt]
  exact h
theorem cell_below {w0 w : World} {a : Addr} {v : Value} (h : w0.cell? a = some v) (hb : Below w0.heap.size w0 w) : w.cell? a = some v := by
 have hlt : a.block < w0.heap.size := by
  rcases Nat.lt_or_ge a.block w0.heap.size with h' | h'
  ·exact h'
  ·unfold World.cell? at h
   rw [Array.getElem?_eq_none h'] at h; cases h
 unfold World.cell? at h ⊢
 rw [hb.block _ hlt]
 exact h
end Go.Proofs.YthfpekhpeiebjaaGreatDoor
end
section
namespace Go.Proofs.YthfpekhpeiebjaaGreatDoor
open Go.RowKit Go.Sx
section
variable {Q : Exit → Act → World → Prop} {N : Nat} {w0 : World} {ntm : Nat} {F : List Nat → World → Prop}
end
theorem pint_cases (p : List UInt8) : (∃ n, Lib.parseIntB 64 p = .ok n) ∨ ∀ n, Lib.parseIntB 64 p ≠ .ok n := by
 cases h : Lib.parseIntB 64 p with
 | ok n => exact .inl ⟨n, rfl⟩
 | range => exact .inr fun n h => by cases h
 | _ => exact .inr fun n h => by cases h
theorem numK_no {p : List UInt8} (h : ∀ n, Lib.parseIntB 64 p ≠ .ok n) : numK p = none := by
 unfold numK
 split
 ·rename_i n hn
  exact absurd hn (h n)
 ·rfl
theorem numK_ne {p : List UInt8} {n : Int} (h : Lib.parseIntB 64 p = .ok n) (hb : (!(mkB (Lib.itoa n)).toList == (mkB p).toList) = true) : numK p = none := by
 rw [ByteArray.toList_eq, ByteArray.toList_eq] at hb
 unfold numK
 rw [h]
 simp only
 rw [if_neg fun e => by rw [e] at hb; simp at hb]
theorem numK_eq {p : List UInt8} {n : Int} (h : Lib.parseIntB 64 p = .ok n) (hb : (!(mkB (Lib.itoa n)).toList == (mkB p).toList) = false) : numK p = some n := by
 rw [ByteArray.toList_eq, ByteArray.toList_eq] at hb
 unfold numK
 rw [h]
 simp only
 rw [if_pos (by simpa [mkB] using hb)]
theorem mapM_none {l : List (List UInt8)} {p : List UInt8} (hp : p ∈ l) (h : numK p = none) : l.mapM numK = none := by
 induction l with
 | nil => cases hp
 | cons q l ih =>
  rw [List.mapM_cons]
  rcases List.mem_cons.1 hp with rfl | hp
  ·rw [h]; rfl
  ·rw [ih hp]
   cases numK q <;> rfl
theorem pint_ok {p : List UInt8} (hp : p.length ≤ 1048576) {n : Int} (h : Lib.parseIntB 64 p = .ok n) (w : World) :
  Calls Tryz.prog 57 #[.string (mkB p), .int .i64 10, .int .i64 64] w fun e w' => e = .returned (.tuple #[.int .i64 n, .nilIface]) ∧ Below w.heap.size w w' :=
 (Tryz.strconv_ParseInt_10_at64_ok (mkB p) (by rw [mkB_size]; omega) n h w).mono fun e w' h => ⟨h.1, by
  rcases h.2 with rfl | ⟨t, rfl⟩
  ·exact Below.refl _ _
  ·exact ⟨rfl, rfl, rfl, by rw [Lib.bytesWorld_size]; omega, fun j hj => Lib.bytesWorld_at_old w 5 t j hj⟩⟩
theorem pint_bad {p : List UInt8} (hp : p.length ≤ 1048576) (h : ∀ n, Lib.parseIntB 64 p ≠ .ok n) (w : World) {tp1 tp2 : TypeId} {q1 q2 : Value} (h1 : w.var? Tryz.prog "strconv.ErrSyntax" = some #[.iface tp1 q1]) (h2 : w.var? Tryz.prog "strconv.ErrRange" = some #[.iface tp2 q2]) :
  Calls Tryz.prog 57 #[.string (mkB p), .int .i64 10, .int .i64 64] w fun e w' => ∃ x N, e = .returned (.tuple #[.int .i64 x, .iface 146 (.pointer (some ⟨N, 0, none⟩))]) ∧ Below w.heap.size w w' := by
 cases hr : Lib.parseIntB 64 p with
 | ok n => exact absurd hr (h n)
 | range => exact (Tryz.strconv_ParseInt_10_at64_range_var (mkB p) (by rw [mkB_size]; omega) hr tp2 q2 w h2).mono fun e w' ⟨N, he, _, _, hb⟩ => ⟨_, N, he, hb⟩
 | _ => exact (Tryz.strconv_ParseInt_10_at64_syntax_var (mkB p) (by rw [mkB_size]; omega) (hr.trans rfl) tp1 q1 w h1).mono fun e w' ⟨N, he, _, _, hb⟩ => ⟨_, N, he, hb⟩
structure Pn where
 key : List UInt8
 st : Int
 en : Int
 kd : Int
 nt : Int
 ct : Int
 sm : Int
 mn : Int
 mx : Int
def Pn.val (p : Pn) : Value := .agg #[.string (mkB p.key), .int .i64 p.st, .int .i64 p.en, .int .i64 p.kd, .int .i64 p.nt, .int .i64 p.ct, .int .i64 p.sm, .int .i64 p.mn, .int .i64 p.mx]
theorem str_beq (x y : List UInt8) : ((mkB x).toList == (mkB y).toList) = decide (x = y) := by
 rw [ByteArray.toList_eq, ByteArray.toList_eq, Bool.eq_iff_iff, beq_iff_eq, decide_eq_true_eq]
 exact Iff.rfl
end Go.Proofs.YthfpekhpeiebjaaGreatDoor
end
section
namespace Go.Proofs.YthfpekhpeiebjaaGreatDoor
open Go.RowKit Go.Sx
/-- A text cut at its first line's end. -/
def cutN : List UInt8 → List UInt8 × List UInt8 × Bool
 | [] => ([], [], false)
 | c :: r => if c = 10 then ([], r, true) else (c :: (cutN r).1, (cutN r).2.1, (cutN r).2.2)
theorem cut_cutN : ∀ t : List UInt8, Lib.cut t [10] = cutN t
 | [] => by simp [Lib.cut, Lib.index, cutN]
 | c :: r => by
  have ih := cut_cutN r
  have hg := Lib.index_ge r [10]
  unfold cutN
  by_cases hc : c = 10
  ·subst hc
   have hi : Lib.index (10 :: r) [10] = 0 := by unfold Lib.index; rw [if_pos (by simp [List.isPrefixOf])]
   simp [Lib.cut, hi]
  ·have hp : List.isPrefixOf [10] (c :: r) = false := by simp [List.isPrefixOf, Ne.symm hc]
   rw [if_neg hc, ← ih]
   by_cases h1 : Lib.index r [10] = -1
   ·have hi : Lib.index (c :: r) [10] = -1 := by unfold Lib.index; rw [if_neg (by simp [hp]), if_pos (by simp [h1])]
    simp [Lib.cut, hi, h1]
   ·have hi : Lib.index (c :: r) [10] = Lib.index r [10] + 1 := by
     conv => lhs; unfold Lib.index
     rw [if_neg (by simp [hp]), if_neg (by simp [h1])]
    obtain ⟨i, hi2⟩ : ∃ i : Nat, Lib.index r [10] = i := ⟨_, (Int.toNat_of_nonneg (by omega)).symm⟩
    have e1 : ((i : Int) + 1).toNat = i + 1 := by omega
    simp only [Lib.cut, hi, hi2]
    rw [if_pos (by omega), if_pos (by omega), e1]
    simp
theorem cutN_len : ∀ t : List UInt8, (cutN t).1.length ≤ t.length ∧ (cutN t).2.1.length ≤ t.length ∧ ((cutN t).2.2 = true → (cutN t).2.1.length < t.length)
 | [] => by simp [cutN]
 | c :: r => by
  have ih := cutN_len r
  unfold cutN
  by_cases hc : c = 10
  ·rw [if_pos hc]
   simp
  ·rw [if_neg hc]
   simp only [List.length_cons]
   refine ⟨by omega, by omega, fun h => ?_⟩
   have := ih.2.2 h
   omega
theorem cut_any {t ln rs : List UInt8} {en : Bool} (h : cutN t = (ln, rs, en)) (hs : t.length ≤ 1048576) (w : World) {m : Int} (hm : w.cell? ⟨1, 0, none⟩ = some (.int .i64 m)) :
  Calls Tryz.prog 50 #[.string (mkB t), .string ⟨#[10]⟩] w fun e w' => e = .returned (.tuple #[.string (mkB ln), .string (mkB rs), .bool en]) ∧ Below w.heap.size w w' :=
 (Tryz.strings_Cut (mkB t) ⟨#[10]⟩ m w (by rw [mkB_size]; omega) hm).mono fun e w' hh => by
  obtain ⟨rfl, n, rfl⟩ := hh
  have e1 : Lib.cut (mkB t).data.toList (ByteArray.mk #[10]).data.toList = (ln, rs, en) := (cut_cutN t).trans h
  rw [e1]
  exact ⟨rfl, rfl, rfl, rfl, Nat.le_refl _, fun _ _ => rfl⟩
def Pn.cells (p : Pn) : List Value := [.string (mkB p.key), .int .i64 p.st, .int .i64 p.en, .int .i64 p.kd, .int .i64 p.nt, .int .i64 p.ct, .int .i64 p.sm, .int .i64 p.mn, .int .i64 p.mx]
def pv (ps : List Pn) : List Value := ps.flatMap Pn.cells
structure RSt where
 A : Option Addr
 n : Nat
 c : Nat
 ps : List Pn
 l : List UInt8
end Go.Proofs.YthfpekhpeiebjaaGreatDoor
end
section
namespace Go.Proofs.YthfpekhpeiebjaaGreatDoor
open Go.RowKit Go.Sx
theorem div16_all : ∀ z : Fin 256, IntKind.u8.wrap ((((z.val : Nat) : Int)).tdiv 16) = ((z.val / 16 : Nat) : Int) := by decide +kernel
theorem div16 (y : UInt8) : IntKind.u8.wrap ((y.toNat : Int).tdiv 16) = ((y.toNat / 16 : Nat) : Int) := div16_all ⟨y.toNat, y.toNat_lt⟩
theorem mod16_all : ∀ z : Fin 256, (((z.val : Nat) : Int)).tmod 16 = ((z.val % 16 : Nat) : Int) := by decide +kernel
theorem mod16 (y : UInt8) : (y.toNat : Int).tmod 16 = ((y.toNat % 16 : Nat) : Int) := mod16_all ⟨y.toNat, y.toNat_lt⟩
def frQR (k : List UInt8) : QSt → Fr
 | ⟨i, A1, n1, c1, _⟩ => [(0, .so (mkB k)), (3, .sl A1 n1 c1), (4, .io .i64 (i : Int))]
def GQR (w0 : World) (k R : List UInt8) (s : QSt) (ρ : List Nat) (w : World) : Prop :=
 RowF w0 (fun _ => False) [] w0.heap.size 5 1 s.A s.n s.c (bw s.acc) ρ w ∧ (s.i ≤ k.length ∧ s.acc ++ ((k.drop s.i).flatMap q1 ++ [34]) = R ∧ s.n = s.acc.length ∧ s.n ≤ 1 + 4 * s.i)
theorem hexI_all : ∀ z : Fin 16, (if ((z.val : Nat) : Int) < 10 then IntKind.u8.wrap (48 + ((z.val : Nat) : Int)) else IntKind.u8.wrap (IntKind.u8.wrap (97 + ((z.val : Nat) : Int)) - 10)) = ((hexB z.val).toNat : Int) := by decide +kernel
noncomputable def B43 : Code := (Tryz.f43.body).getD .skip
set_option maxHeartbeats 4000000 in
set_option maxRecDepth 100000 in
theorem hex_any {n : Nat} (h : n < 16) (w : World) : Calls Tryz.prog 43 #[.int .u8 (n : Int)] w fun e w' => e = .returned (.int .u8 ((hexB n).toNat : Int)) ∧ Below w.heap.size w w' := by
 have hx := hexI_all ⟨n, h⟩
 simp only at hx
 refine enter (fn := Tryz.f43) (c := B43) [.io .u8 (n : Int)] Tryz.func43 rfl rfl ?_
 refine At.to (noF_stable) (noF_fewer) 20 300 [0, 4] 0 ⟨.code (sub B43 [1, 0, 1]), [.seq (sub B43 [1, 1])], [(0, .io IntKind.u8 (↑n : Int)), (4, .bo (decide ((↑n : Int) < 10)))], []⟩ (by kernel_rfl) (by kernel_rfl) ?_
 rcases Bool.eq_false_or_eq_true (decide ((↑n : Int) < 10)) with b0 | b0
 ·refine At.res 4 (decide ((↑n : Int) < 10)) true (by kernel_rfl) b0 ?_
  refine At.to (noF_stable) (noF_fewer) 20 300 [2] 0 ⟨.exit .ret, [], [(2, .io IntKind.u8 (IntKind.u8.wrap (48 + (↑n : Int))))], []⟩ (by kernel_rfl) (by kernel_rfl) ?_
  refine At.ret (by kernel_rfl) (.io IntKind.u8 (IntKind.u8.wrap (48 + (↑n : Int)))) (by kernel_rfl) ?_
  rw [if_pos (of_decide_eq_true b0)] at hx
  intro ρ w9 hm hf
  exact ⟨by rw [← hx]; rfl, hm.below⟩
 ·refine At.res 4 (decide ((↑n : Int) < 10)) false (by kernel_rfl) b0 ?_
  refine At.to (noF_stable) (noF_fewer) 20 300 [2] 0 ⟨.exit .ret, [], [(2, .io IntKind.u8 (IntKind.u8.wrap (IntKind.u8.wrap (97 + (↑n : Int)) - 10)))], []⟩ (by kernel_rfl) (by kernel_rfl) ?_
  refine At.ret (by kernel_rfl) (.io IntKind.u8 (IntKind.u8.wrap (IntKind.u8.wrap (97 + (↑n : Int)) - 10))) (by kernel_rfl) ?_
  rw [if_neg (of_decide_eq_false b0)] at hx
  intro ρ w9 hm hf
  exact ⟨by rw [← hx]; rfl, hm.below⟩
noncomputable def B20 : Code := (Tryz.f20.body).getD .skip
set_option maxHeartbeats 20000000 in
set_option maxRecDepth 100000 in
theorem rquote_any (k : List UInt8) (hk : k.length ≤ 1048576) (w : World) :
  Calls Tryz.prog 20 #[.string (mkB k)] w fun e w' => e = .returned (.string (mkB (quoteB k))) ∧ Below w.heap.size w w' := by
 refine enter (fn := Tryz.f20) (c := B20) [.so (mkB k)] Tryz.func20 rfl rfl ?_
 refine At.to (noF_stable) (noF_fewer) 0 300 [0, 3, 4] 1 ⟨.code (sub B20 [1, 1, 0, 1, 4]), [.block 0, .seq (sub B20 pAD4)], [(0, .so (mkB k)), (3, .ls 0 0 1 1), (4, .v (.int .i64 0))], [([.v (.int IntKind.u8 34)], 5)]⟩ (by kernel_rfl) (by kernel_rfl) ?_
 refine At.lsRow1 3 [0, 4] 0 1 5 1 [.v (.int .u8 34)] [.int .u8 34] rfl rfl rfl rfl rfl (by decide) (fun _ => rfl) (by kernel_rfl) ?_
 intro A
 generalize hR : quoteB k = R
 refine At.canon _ rfl ?_
 refine At.loop (σ := QSt) (sub B20 [1, 1, 0, 1, 4, 4]) (frQR k) locQ (GQR w k R) (muQ k) ⟨0, A, 1, 1, [34]⟩ (by kernel_rfl) (by unfold subFr; kernel_rfl) (by kernel_rfl) (fun _ _ _ _ h => ⟨h, Nat.zero_le _, hR, rfl, (by decide : (1 : Nat) ≤ 1 + 4 * 0)⟩) ?_
 clear hR
 rintro ⟨i, A1, n1, c1, acc⟩
 refine At.pure fun ⟨h1, h2, h3, h4⟩ => ?_
 simp only at h1 h2 h3 h4
 refine At.toJ (RowF.stable) RowF.fewer 0 300 [0, 3, 4, 10] 0 ⟨.code (sub B20 [1, 1, 0, 1, 4, 4, 0, 1]), [.seq (sub B20 [1, 1, 0, 1, 4, 4, 1]), .next (Sx.Next w.heap.size w Tryz.f20.ntmps (frQR k) locQ (GQR w k R) (muQ k) (QSt.mk i A1 n1 c1 acc)), .block 0, .seq (sub B20 pAD4)], [(0, .so (mkB k)), (3, .sl A1 n1 c1), (4, .io .i64 (↑i : Int)), (10, .bo (decide ((↑i : Int) < (↑(mkB k).size : Int))))], []⟩ (by kernel_rfl) (by kernel_rfl) ?_
 rcases Bool.eq_false_or_eq_true (decide ((↑i : Int) < (↑(mkB k).size : Int))) with b0 | b0
 ·refine At.res 10 (decide ((↑i : Int) < (↑(mkB k).size : Int))) true (by kernel_rfl) b0 ?_
  refine At.toJ (RowF.stable) RowF.fewer 0 300 [0, 3, 4, 13, 14] 0 ⟨pops B20 [1, 1, 0, 1, 4, 4, 1, 0, 4, 0] 2, [.seq (sub B20 [1, 1, 0, 1, 4, 4, 1, 0, 4, 1]), .block 1, .seq (sub B20 pAD3), .next (Sx.Next w.heap.size w Tryz.f20.ntmps (frQR k) locQ (GQR w k R) (muQ k) (QSt.mk i A1 n1 c1 acc)), .block 0, .seq (sub B20 pAD4)], [(0, .so (mkB k)), (3, .sl A1 n1 c1), (4, .io .i64 (↑i : Int)), (13, .so (mkB k)), (14, .io .i64 (↑i : Int))], []⟩ (by kernel_rfl) (by kernel_rfl) ?_
  have hi : i < k.length := by have := of_decide_eq_true b0; rw [mkB_size] at this; omega
  clear b0
  obtain ⟨y, hz⟩ : ∃ y, k[i]? = some y := ⟨_, List.getElem?_eq_getElem hi⟩
  have hy := y.toNat_lt
  rw [drop_at hz, List.flatMap_cons] at h2
  refine At.six (mkB k) (i : Int) y (by kernel_rfl) (by omega) (by rw [Int.toNat_natCast]; exact hz) RowF.stable ?_
  refine At.toJ (RowF.stable) RowF.fewer 0 300 [0, 3, 4, 5, 18] 0 ⟨pops B20 pAD1 3, [.seq (sub B20 pAD2), .block 1, .seq (sub B20 pAD3), .next (Sx.Next w.heap.size w Tryz.f20.ntmps (frQR k) locQ (GQR w k R) (muQ k) (QSt.mk i A1 n1 c1 acc)), .block 0, .seq (sub B20 pAD4)], [(0, .so (mkB k)), (3, .sl A1 n1 c1), (4, .io .i64 (↑i : Int)), (5, .io IntKind.u8 (↑y.toNat : Int)), (18, .bo (decide ((↑y.toNat : Int) ≥ 32)))], []⟩ (by kernel_rfl) (by kernel_rfl) ?_
  rcases Bool.eq_false_or_eq_true (decide ((↑y.toNat : Int) ≥ 32)) with b0 | b0
  ·refine At.res 18 (decide ((↑y.toNat : Int) ≥ 32)) true (by kernel_rfl) b0 ?_
   refine At.toJ (RowF.stable) RowF.fewer 0 300 [0, 3, 4, 5, 22] 0 ⟨pops B20 pAD1 7, [.seq (sub B20 pAD2), .block 1, .seq (sub B20 pAD3), .next (Sx.Next w.heap.size w Tryz.f20.ntmps (frQR k) locQ (GQR w k R) (muQ k) (QSt.mk i A1 n1 c1 acc)), .block 0, .seq (sub B20 pAD4)], [(0, .so (mkB k)), (3, .sl A1 n1 c1), (4, .io .i64 (↑i : Int)), (5, .io IntKind.u8 (↑y.toNat : Int)), (22, .bo (decide ((↑y.toNat : Int) ≤ 126)))], []⟩ (by kernel_rfl) (by kernel_rfl) ?_
   rcases Bool.eq_false_or_eq_true (decide ((↑y.toNat : Int) ≤ 126)) with b1 | b1
   ·refine At.res 22 (decide ((↑y.toNat : Int) ≤ 126)) true (by kernel_rfl) b1 ?_
    refine At.toJ (RowF.stable) RowF.fewer 0 300 [0, 3, 4, 5, 26] 0 ⟨pops B20 pAD1 11, [.seq (sub B20 pAD2), .block 1, .seq (sub B20 pAD3), .next (Sx.Next w.heap.size w Tryz.f20.ntmps (frQR k) locQ (GQR w k R) (muQ k) (QSt.mk i A1 n1 c1 acc)), .block 0, .seq (sub B20 pAD4)], [(0, .so (mkB k)), (3, .sl A1 n1 c1), (4, .io .i64 (↑i : Int)), (5, .io IntKind.u8 (↑y.toNat : Int)), (26, .bo ((↑y.toNat : Int) != 34))], []⟩ (by kernel_rfl) (by kernel_rfl) ?_
    rcases Bool.eq_false_or_eq_true ((↑y.toNat : Int) != 34) with b2 | b2
    ·refine At.res 26 ((↑y.toNat : Int) != 34) true (by kernel_rfl) b2 ?_
     refine At.toJ (RowF.stable) RowF.fewer 0 300 [0, 3, 4, 5, 29] 0 ⟨.code (sub B20 pAD2), [.block 1, .seq (sub B20 pAD3), .next (Sx.Next w.heap.size w Tryz.f20.ntmps (frQR k) locQ (GQR w k R) (muQ k) (QSt.mk i A1 n1 c1 acc)), .block 0, .seq (sub B20 pAD4)], [(0, .so (mkB k)), (3, .sl A1 n1 c1), (4, .io .i64 (↑i : Int)), (5, .io IntKind.u8 (↑y.toNat : Int)), (29, .bo ((↑y.toNat : Int) != 92))], []⟩ (by kernel_rfl) (by kernel_rfl) ?_
     rcases Bool.eq_false_or_eq_true ((↑y.toNat : Int) != 92) with b3 | b3
     ·refine At.res 29 ((↑y.toNat : Int) != 92) true (by kernel_rfl) b3 ?_
      refine At.toJ (RowF.stable) RowF.fewer 0 300 [0, 4, 30, 32] 1 ⟨pops B20 [1, 1, 0, 1, 4, 4, 1, 0, 4, 1, 1, 2] 3, [.block 1, .seq (sub B20 pAD3), .next (Sx.Next w.heap.size w Tryz.f20.ntmps (frQR k) locQ (GQR w k R) (muQ k) (QSt.mk i A1 n1 c1 acc)), .block 0, .seq (sub B20 pAD4)], [(0, .so (mkB k)), (4, .io .i64 (↑i : Int)), (30, .sl A1 n1 c1), (32, .ls 0 0 1 1)], [([.io IntKind.u8 (↑y.toNat : Int)], 5)]⟩ (by kernel_rfl) (by kernel_rfl) ?_
      refine At.app (55) (5) (1) (1) (A1) (n1) (c1) (1) ([.io IntKind.u8 (↑y.toNat : Int)]) _ _ _ _ ([.int IntKind.u8 (↑y.toNat : Int)]) (by kernel_rfl) (fun ρ => by kernel_rfl) (by first | omega | (simp only [Go.maxLen]; omega)) (by first | omega | (simp only [Go.maxLen]; omega)) (by first | omega | (simp only [Go.maxLen]; omega)) fun A4 c4 => ?_
      refine At.toJ (RowF.stable) RowF.fewer 0 300 [0, 3, 4] 0 ⟨.exit .normal, [.next (Sx.Next w.heap.size w Tryz.f20.ntmps (frQR k) locQ (GQR w k R) (muQ k) (QSt.mk i A1 n1 c1 acc)), .block 0, .seq (sub B20 pAD4)], [(0, .so (mkB k)), (3, .sl A4 (n1 + 1) c4), (4, .io .i64 (IntKind.i64.wrap ((↑i : Int) + 1)))], []⟩ (by kernel_rfl) (by kernel_rfl) ?_
      have hpl : plainC y = true := by
       simp only [plainC, Bool.and_eq_true, decide_eq_true_eq]
       have h32 := of_decide_eq_true b0
       have h126 := of_decide_eq_true b1
       simp at b2 b3
       refine ⟨by omega, by omega, by omega, by omega⟩
      have hq1 : q1 y = [y] := by unfold q1; rw [hpl]; rfl
      have hw3 : IntKind.i64.wrap ((i : Int) + 1) = ((i + 1 : Nat) : Int) := by
       rw [wrap63 (by omega) (by omega)]
       omega
      rw [hw3]
      refine At.next (σ := QSt) ⟨i + 1, A4, n1 + 1, c4, acc ++ [y]⟩ rfl rfl (by unfold subFr; kernel_rfl) (by kernel_rfl) ?_ ?_
      ·intro ρ a' w' hi' hf
       exact ⟨by rw [bw_app]; exact hf, by simp only; omega, by rw [← h2, hq1]; simp, by simp only [List.length_append, List.length_singleton]; omega, by simp only; omega⟩
      ·simp only [muQ]
       omega
     ·refine At.res 29 ((↑y.toNat : Int) != 92) false (by kernel_rfl) b3 ?_
      refine At.toJ (RowF.stable) RowF.fewer 0 300 [0, 4, 5, 34, 36] 0 ⟨pops B20 pAD0 3, [.block 1, .seq (sub B20 pAD3), .next (Sx.Next w.heap.size w Tryz.f20.ntmps (frQR k) locQ (GQR w k R) (muQ k) (QSt.mk i A1 n1 c1 acc)), .block 0, .seq (sub B20 pAD4)], [(0, .so (mkB k)), (4, .io .i64 (↑i : Int)), (5, .io IntKind.u8 (↑y.toNat : Int)), (34, .sl A1 n1 c1), (36, .io IntKind.u8 (IntKind.u8.wrap ((↑y.toNat : Int).tdiv 16)))], []⟩ (by kernel_rfl) (by kernel_rfl) ?_
      have hpl : plainC y = false := by
       simp only [plainC]
       first | (have := of_decide_eq_false b0; rw [decide_eq_false (p := 32 ≤ y.toNat) (by omega)]; rfl) | (have := of_decide_eq_false b1; rw [decide_eq_false (p := y.toNat ≤ 126) (by omega), Bool.false_and, Bool.and_false]) | (rw [decide_eq_false (p := y.toNat ≠ 34) (by simp at b2 ⊢; omega), Bool.false_and, Bool.and_false, Bool.and_false]) | (rw [decide_eq_false (p := y.toNat ≠ 92) (by simp at b3 ⊢; omega), Bool.and_false, Bool.and_false, Bool.and_false])
      have hq1 : q1 y = [92, 120, hexB (y.toNat / 16), hexB (y.toNat % 16)] := by unfold q1; rw [hpl]; rfl
      rw [div16 y]
      refine At.call RowF.stable 43 [.io .u8 ((y.toNat / 16 : Nat) : Int)] (.io .u8 ((hexB (y.toNat / 16)).toNat : Int)) (by kernel_rfl) (by kernel_rfl) (by kernel_rfl) (fun _ _ w1 _ _ => hex_any (by omega) w1) ?_
      refine At.toJ (RowF.stable) RowF.fewer 0 300 [0, 4, 34, 37, 39] 0 ⟨pops B20 pAD0 6, [.block 1, .seq (sub B20 pAD3), .next (Sx.Next w.heap.size w Tryz.f20.ntmps (frQR k) locQ (GQR w k R) (muQ k) (QSt.mk i A1 n1 c1 acc)), .block 0, .seq (sub B20 pAD4)], [(0, .so (mkB k)), (4, .io .i64 (↑i : Int)), (34, .sl A1 n1 c1), (37, .io IntKind.u8 (↑(hexB (y.toNat / 16)).toNat : Int)), (39, .io IntKind.u8 ((↑y.toNat : Int).tmod 16))], []⟩ (by kernel_rfl) (by kernel_rfl) ?_
      rw [mod16 y]
      refine At.call RowF.stable 43 [.io .u8 ((y.toNat % 16 : Nat) : Int)] (.io .u8 ((hexB (y.toNat % 16)).toNat : Int)) (by kernel_rfl) (by kernel_rfl) (by kernel_rfl) (fun _ _ w1 _ _ => hex_any (by omega) w1) ?_
      refine At.toJ (RowF.stable) RowF.fewer 0 300 [0, 4, 34, 41] 1 ⟨pops B20 pAD0 8, [.block 1, .seq (sub B20 pAD3), .next (Sx.Next w.heap.size w Tryz.f20.ntmps (frQR k) locQ (GQR w k R) (muQ k) (QSt.mk i A1 n1 c1 acc)), .block 0, .seq (sub B20 pAD4)], [(0, .so (mkB k)), (4, .io .i64 (↑i : Int)), (34, .sl A1 n1 c1), (41, .ls 0 0 4 4)], [([.v (.int IntKind.u8 92), .v (.int IntKind.u8 120), .io IntKind.u8 (↑(hexB (y.toNat / 16)).toNat : Int), .io IntKind.u8 (↑(hexB (y.toNat % 16)).toNat : Int)], 5)]⟩ (by kernel_rfl) (by kernel_rfl) ?_
      refine At.app (55) (5) (1) (1) (A1) (n1) (c1) (4) ([.v (.int IntKind.u8 92), .v (.int IntKind.u8 120), .io IntKind.u8 (↑(hexB (y.toNat / 16)).toNat : Int), .io IntKind.u8 (↑(hexB (y.toNat % 16)).toNat : Int)]) _ _ _ _ ([.int IntKind.u8 92, .int IntKind.u8 120, .int IntKind.u8 (↑(hexB (y.toNat / 16)).toNat : Int), .int IntKind.u8 (↑(hexB (y.toNat % 16)).toNat : Int)]) (by kernel_rfl) (fun ρ => by kernel_rfl) (by first | omega | (simp only [Go.maxLen]; omega)) (by first | omega | (simp only [Go.maxLen]; omega)) (by first | omega | (simp only [Go.maxLen]; omega)) fun A0 c0 => ?_
      refine At.toJ (RowF.stable) RowF.fewer 0 300 [0, 3, 4] 0 ⟨.exit .normal, [.next (Sx.Next w.heap.size w Tryz.f20.ntmps (frQR k) locQ (GQR w k R) (muQ k) (QSt.mk i A1 n1 c1 acc)), .block 0, .seq (sub B20 pAD4)], [(0, .so (mkB k)), (3, .sl A0 (n1 + 4) c0), (4, .io .i64 (IntKind.i64.wrap ((↑i : Int) + 1)))], []⟩ (by kernel_rfl) (by kernel_rfl) ?_
      have hw3 : IntKind.i64.wrap ((i : Int) + 1) = ((i + 1 : Nat) : Int) := by
       rw [wrap63 (by omega) (by omega)]
       omega
      rw [hw3]
      refine At.next (σ := QSt) ⟨i + 1, A0, n1 + 4, c0, acc ++ q1 y⟩ rfl rfl (by unfold subFr; kernel_rfl) (by kernel_rfl) ?_ ?_
      ·intro ρ a' w' hi' hf
       exact ⟨by rw [hq1, bw_app]; exact hf, by simp only; omega, by rw [← h2]; simp, by rw [hq1]; simp only [List.length_append, List.length_cons, List.length_nil]; omega, by simp only; omega⟩
      ·simp only [muQ]
       omega
    ·refine At.res 26 ((↑y.toNat : Int) != 34) false (by kernel_rfl) b2 ?_
     refine At.toJ (RowF.stable) RowF.fewer 0 300 [0, 4, 5, 34, 36] 0 ⟨pops B20 pAD0 3, [.block 1, .seq (sub B20 pAD3), .next (Sx.Next w.heap.size w Tryz.f20.ntmps (frQR k) locQ (GQR w k R) (muQ k) (QSt.mk i A1 n1 c1 acc)), .block 0, .seq (sub B20 pAD4)], [(0, .so (mkB k)), (4, .io .i64 (↑i : Int)), (5, .io IntKind.u8 (↑y.toNat : Int)), (34, .sl A1 n1 c1), (36, .io IntKind.u8 (IntKind.u8.wrap ((↑y.toNat : Int).tdiv 16)))], []⟩ (by kernel_rfl) (by kernel_rfl) ?_
     have hpl : plainC y = false := by
      simp only [plainC]
      first | (have := of_decide_eq_false b0; rw [decide_eq_false (p := 32 ≤ y.toNat) (by omega)]; rfl) | (have := of_decide_eq_false b1; rw [decide_eq_false (p := y.toNat ≤ 126) (by omega), Bool.false_and, Bool.and_false]) | (rw [decide_eq_false (p := y.toNat ≠ 34) (by simp at b2 ⊢; omega), Bool.false_and, Bool.and_false, Bool.and_false]) | (rw [decide_eq_false (p := y.toNat ≠ 92) (by simp at b3 ⊢; omega), Bool.and_false, Bool.and_false, Bool.and_false])
     have hq1 : q1 y = [92, 120, hexB (y.toNat / 16), hexB (y.toNat % 16)] := by unfold q1; rw [hpl]; rfl
     rw [div16 y]
     refine At.call RowF.stable 43 [.io .u8 ((y.toNat / 16 : Nat) : Int)] (.io .u8 ((hexB (y.toNat / 16)).toNat : Int)) (by kernel_rfl) (by kernel_rfl) (by kernel_rfl) (fun _ _ w1 _ _ => hex_any (by omega) w1) ?_
     refine At.toJ (RowF.stable) RowF.fewer 0 300 [0, 4, 34, 37, 39] 0 ⟨pops B20 pAD0 6, [.block 1, .seq (sub B20 pAD3), .next (Sx.Next w.heap.size w Tryz.f20.ntmps (frQR k) locQ (GQR w k R) (muQ k) (QSt.mk i A1 n1 c1 acc)), .block 0, .seq (sub B20 pAD4)], [(0, .so (mkB k)), (4, .io .i64 (↑i : Int)), (34, .sl A1 n1 c1), (37, .io IntKind.u8 (↑(hexB (y.toNat / 16)).toNat : Int)), (39, .io IntKind.u8 ((↑y.toNat : Int).tmod 16))], []⟩ (by kernel_rfl) (by kernel_rfl) ?_
     rw [mod16 y]
     refine At.call RowF.stable 43 [.io .u8 ((y.toNat % 16 : Nat) : Int)] (.io .u8 ((hexB (y.toNat % 16)).toNat : Int)) (by kernel_rfl) (by kernel_rfl) (by kernel_rfl) (fun _ _ w1 _ _ => hex_any (by omega) w1) ?_
     refine At.toJ (RowF.stable) RowF.fewer 0 300 [0, 4, 34, 41] 1 ⟨pops B20 pAD0 8, [.block 1, .seq (sub B20 pAD3), .next (Sx.Next w.heap.size w Tryz.f20.ntmps (frQR k) locQ (GQR w k R) (muQ k) (QSt.mk i A1 n1 c1 acc)), .block 0, .seq (sub B20 pAD4)], [(0, .so (mkB k)), (4, .io .i64 (↑i : Int)), (34, .sl A1 n1 c1), (41, .ls 0 0 4 4)], [([.v (.int IntKind.u8 92), .v (.int IntKind.u8 120), .io IntKind.u8 (↑(hexB (y.toNat / 16)).toNat : Int), .io IntKind.u8 (↑(hexB (y.toNat % 16)).toNat : Int)], 5)]⟩ (by kernel_rfl) (by kernel_rfl) ?_
     refine At.app (55) (5) (1) (1) (A1) (n1) (c1) (4) ([.v (.int IntKind.u8 92), .v (.int IntKind.u8 120), .io IntKind.u8 (↑(hexB (y.toNat / 16)).toNat : Int), .io IntKind.u8 (↑(hexB (y.toNat % 16)).toNat : Int)]) _ _ _ _ ([.int IntKind.u8 92, .int IntKind.u8 120, .int IntKind.u8 (↑(hexB (y.toNat / 16)).toNat : Int), .int IntKind.u8 (↑(hexB (y.toNat % 16)).toNat : Int)]) (by kernel_rfl) (fun ρ => by kernel_rfl) (by first | omega | (simp only [Go.maxLen]; omega)) (by first | omega | (simp only [Go.maxLen]; omega)) (by first | omega | (simp only [Go.maxLen]; omega)) fun A0 c0 => ?_
     refine At.toJ (RowF.stable) RowF.fewer 0 300 [0, 3, 4] 0 ⟨.exit .normal, [.next (Sx.Next w.heap.size w Tryz.f20.ntmps (frQR k) locQ (GQR w k R) (muQ k) (QSt.mk i A1 n1 c1 acc)), .block 0, .seq (sub B20 pAD4)], [(0, .so (mkB k)), (3, .sl A0 (n1 + 4) c0), (4, .io .i64 (IntKind.i64.wrap ((↑i : Int) + 1)))], []⟩ (by kernel_rfl) (by kernel_rfl) ?_
     have hw3 : IntKind.i64.wrap ((i : Int) + 1) = ((i + 1 : Nat) : Int) := by
      rw [wrap63 (by omega) (by omega)]
      omega
     rw [hw3]
     refine At.next (σ := QSt) ⟨i + 1, A0, n1 + 4, c0, acc ++ q1 y⟩ rfl rfl (by unfold subFr; kernel_rfl) (by kernel_rfl) ?_ ?_
     ·intro ρ a' w' hi' hf
      exact ⟨by rw [hq1, bw_app]; exact hf, by simp only; omega, by rw [← h2]; simp, by rw [hq1]; simp only [List.length_append, List.length_cons, List.length_nil]; omega, by simp only; omega⟩
     ·simp only [muQ]
      omega
   ·refine At.res 22 (decide ((↑y.toNat : Int) ≤ 126)) false (by kernel_rfl) b1 ?_
    refine At.toJ (RowF.stable) RowF.fewer 0 300 [0, 4, 5, 34, 36] 0 ⟨pops B20 pAD0 3, [.block 1, .seq (sub B20 pAD3), .next (Sx.Next w.heap.size w Tryz.f20.ntmps (frQR k) locQ (GQR w k R) (muQ k) (QSt.mk i A1 n1 c1 acc)), .block 0, .seq (sub B20 pAD4)], [(0, .so (mkB k)), (4, .io .i64 (↑i : Int)), (5, .io IntKind.u8 (↑y.toNat : Int)), (34, .sl A1 n1 c1), (36, .io IntKind.u8 (IntKind.u8.wrap ((↑y.toNat : Int).tdiv 16)))], []⟩ (by kernel_rfl) (by kernel_rfl) ?_
    have hpl : plainC y = false := by
     simp only [plainC]
     first | (have := of_decide_eq_false b0; rw [decide_eq_false (p := 32 ≤ y.toNat) (by omega)]; rfl) | (have := of_decide_eq_false b1; rw [decide_eq_false (p := y.toNat ≤ 126) (by omega), Bool.false_and, Bool.and_false]) | (rw [decide_eq_false (p := y.toNat ≠ 34) (by simp at b2 ⊢; omega), Bool.false_and, Bool.and_false, Bool.and_false]) | (rw [decide_eq_false (p := y.toNat ≠ 92) (by simp at b3 ⊢; omega), Bool.and_false, Bool.and_false, Bool.and_false])
    have hq1 : q1 y = [92, 120, hexB (y.toNat / 16), hexB (y.toNat % 16)] := by unfold q1; rw [hpl]; rfl
    rw [div16 y]
    refine At.call RowF.stable 43 [.io .u8 ((y.toNat / 16 : Nat) : Int)] (.io .u8 ((hexB (y.toNat / 16)).toNat : Int)) (by kernel_rfl) (by kernel_rfl) (by kernel_rfl) (fun _ _ w1 _ _ => hex_any (by omega) w1) ?_
    refine At.toJ (RowF.stable) RowF.fewer 0 300 [0, 4, 34, 37, 39] 0 ⟨pops B20 pAD0 6, [.block 1, .seq (sub B20 pAD3), .next (Sx.Next w.heap.size w Tryz.f20.ntmps (frQR k) locQ (GQR w k R) (muQ k) (QSt.mk i A1 n1 c1 acc)), .block 0, .seq (sub B20 pAD4)], [(0, .so (mkB k)), (4, .io .i64 (↑i : Int)), (34, .sl A1 n1 c1), (37, .io IntKind.u8 (↑(hexB (y.toNat / 16)).toNat : Int)), (39, .io IntKind.u8 ((↑y.toNat : Int).tmod 16))], []⟩ (by kernel_rfl) (by kernel_rfl) ?_
    rw [mod16 y]
    refine At.call RowF.stable 43 [.io .u8 ((y.toNat % 16 : Nat) : Int)] (.io .u8 ((hexB (y.toNat % 16)).toNat : Int)) (by kernel_rfl) (by kernel_rfl) (by kernel_rfl) (fun _ _ w1 _ _ => hex_any (by omega) w1) ?_
    refine At.toJ (RowF.stable) RowF.fewer 0 300 [0, 4, 34, 41] 1 ⟨pops B20 pAD0 8, [.block 1, .seq (sub B20 pAD3), .next (Sx.Next w.heap.size w Tryz.f20.ntmps (frQR k) locQ (GQR w k R) (muQ k) (QSt.mk i A1 n1 c1 acc)), .block 0, .seq (sub B20 pAD4)], [(0, .so (mkB k)), (4, .io .i64 (↑i : Int)), (34, .sl A1 n1 c1), (41, .ls 0 0 4 4)], [([.v (.int IntKind.u8 92), .v (.int IntKind.u8 120), .io IntKind.u8 (↑(hexB (y.toNat / 16)).toNat : Int), .io IntKind.u8 (↑(hexB (y.toNat % 16)).toNat : Int)], 5)]⟩ (by kernel_rfl) (by kernel_rfl) ?_
    refine At.app (55) (5) (1) (1) (A1) (n1) (c1) (4) ([.v (.int IntKind.u8 92), .v (.int IntKind.u8 120), .io IntKind.u8 (↑(hexB (y.toNat / 16)).toNat : Int), .io IntKind.u8 (↑(hexB (y.toNat % 16)).toNat : Int)]) _ _ _ _ ([.int IntKind.u8 92, .int IntKind.u8 120, .int IntKind.u8 (↑(hexB (y.toNat / 16)).toNat : Int), .int IntKind.u8 (↑(hexB (y.toNat % 16)).toNat : Int)]) (by kernel_rfl) (fun ρ => by kernel_rfl) (by first | omega | (simp only [Go.maxLen]; omega)) (by first | omega | (simp only [Go.maxLen]; omega)) (by first | omega | (simp only [Go.maxLen]; omega)) fun A0 c0 => ?_
    refine At.toJ (RowF.stable) RowF.fewer 0 300 [0, 3, 4] 0 ⟨.exit .normal, [.next (Sx.Next w.heap.size w Tryz.f20.ntmps (frQR k) locQ (GQR w k R) (muQ k) (QSt.mk i A1 n1 c1 acc)), .block 0, .seq (sub B20 pAD4)], [(0, .so (mkB k)), (3, .sl A0 (n1 + 4) c0), (4, .io .i64 (IntKind.i64.wrap ((↑i : Int) + 1)))], []⟩ (by kernel_rfl) (by kernel_rfl) ?_
    have hw3 : IntKind.i64.wrap ((i : Int) + 1) = ((i + 1 : Nat) : Int) := by
     rw [wrap63 (by omega) (by omega)]
     omega
    rw [hw3]
    refine At.next (σ := QSt) ⟨i + 1, A0, n1 + 4, c0, acc ++ q1 y⟩ rfl rfl (by unfold subFr; kernel_rfl) (by kernel_rfl) ?_ ?_
    ·intro ρ a' w' hi' hf
     exact ⟨by rw [hq1, bw_app]; exact hf, by simp only; omega, by rw [← h2]; simp, by rw [hq1]; simp only [List.length_append, List.length_cons, List.length_nil]; omega, by simp only; omega⟩
    ·simp only [muQ]
     omega
  ·refine At.res 18 (decide ((↑y.toNat : Int) ≥ 32)) false (by kernel_rfl) b0 ?_
   refine At.toJ (RowF.stable) RowF.fewer 0 300 [0, 4, 5, 34, 36] 0 ⟨pops B20 pAD0 3, [.block 1, .seq (sub B20 pAD3), .next (Sx.Next w.heap.size w Tryz.f20.ntmps (frQR k) locQ (GQR w k R) (muQ k) (QSt.mk i A1 n1 c1 acc)), .block 0, .seq (sub B20 pAD4)], [(0, .so (mkB k)), (4, .io .i64 (↑i : Int)), (5, .io IntKind.u8 (↑y.toNat : Int)), (34, .sl A1 n1 c1), (36, .io IntKind.u8 (IntKind.u8.wrap ((↑y.toNat : Int).tdiv 16)))], []⟩ (by kernel_rfl) (by kernel_rfl) ?_
   have hpl : plainC y = false := by
    simp only [plainC]
    first | (have := of_decide_eq_false b0; rw [decide_eq_false (p := 32 ≤ y.toNat) (by omega)]; rfl) | (have := of_decide_eq_false b1; rw [decide_eq_false (p := y.toNat ≤ 126) (by omega), Bool.false_and, Bool.and_false]) | (rw [decide_eq_false (p := y.toNat ≠ 34) (by simp at b2 ⊢; omega), Bool.false_and, Bool.and_false, Bool.and_false]) | (rw [decide_eq_false (p := y.toNat ≠ 92) (by simp at b3 ⊢; omega), Bool.and_false, Bool.and_false, Bool.and_false])
   have hq1 : q1 y = [92, 120, hexB (y.toNat / 16), hexB (y.toNat % 16)] := by unfold q1; rw [hpl]; rfl
   rw [div16 y]
   refine At.call RowF.stable 43 [.io .u8 ((y.toNat / 16 : Nat) : Int)] (.io .u8 ((hexB (y.toNat / 16)).toNat : Int)) (by kernel_rfl) (by kernel_rfl) (by kernel_rfl) (fun _ _ w1 _ _ => hex_any (by omega) w1) ?_
   refine At.toJ (RowF.stable) RowF.fewer 0 300 [0, 4, 34, 37, 39] 0 ⟨pops B20 pAD0 6, [.block 1, .seq (sub B20 pAD3), .next (Sx.Next w.heap.size w Tryz.f20.ntmps (frQR k) locQ (GQR w k R) (muQ k) (QSt.mk i A1 n1 c1 acc)), .block 0, .seq (sub B20 pAD4)], [(0, .so (mkB k)), (4, .io .i64 (↑i : Int)), (34, .sl A1 n1 c1), (37, .io IntKind.u8 (↑(hexB (y.toNat / 16)).toNat : Int)), (39, .io IntKind.u8 ((↑y.toNat : Int).tmod 16))], []⟩ (by kernel_rfl) (by kernel_rfl) ?_
   rw [mod16 y]
   refine At.call RowF.stable 43 [.io .u8 ((y.toNat % 16 : Nat) : Int)] (.io .u8 ((hexB (y.toNat % 16)).toNat : Int)) (by kernel_rfl) (by kernel_rfl) (by kernel_rfl) (fun _ _ w1 _ _ => hex_any (by omega) w1) ?_
   refine At.toJ (RowF.stable) RowF.fewer 0 300 [0, 4, 34, 41] 1 ⟨pops B20 pAD0 8, [.block 1, .seq (sub B20 pAD3), .next (Sx.Next w.heap.size w Tryz.f20.ntmps (frQR k) locQ (GQR w k R) (muQ k) (QSt.mk i A1 n1 c1 acc)), .block 0, .seq (sub B20 pAD4)], [(0, .so (mkB k)), (4, .io .i64 (↑i : Int)), (34, .sl A1 n1 c1), (41, .ls 0 0 4 4)], [([.v (.int IntKind.u8 92), .v (.int IntKind.u8 120), .io IntKind.u8 (↑(hexB (y.toNat / 16)).toNat : Int), .io IntKind.u8 (↑(hexB (y.toNat % 16)).toNat : Int)], 5)]⟩ (by kernel_rfl) (by kernel_rfl) ?_
   refine At.app (55) (5) (1) (1) (A1) (n1) (c1) (4) ([.v (.int IntKind.u8 92), .v (.int IntKind.u8 120), .io IntKind.u8 (↑(hexB (y.toNat / 16)).toNat : Int), .io IntKind.u8 (↑(hexB (y.toNat % 16)).toNat : Int)]) _ _ _ _ ([.int IntKind.u8 92, .int IntKind.u8 120, .int IntKind.u8 (↑(hexB (y.toNat / 16)).toNat : Int), .int IntKind.u8 (↑(hexB (y.toNat % 16)).toNat : Int)]) (by kernel_rfl) (fun ρ => by kernel_rfl) (by first | omega | (simp only [Go.maxLen]; omega)) (by first | omega | (simp only [Go.maxLen]; omega)) (by first | omega | (simp only [Go.maxLen]; omega)) fun A0 c0 => ?_
   refine At.toJ (RowF.stable) RowF.fewer 0 300 [0, 3, 4] 0 ⟨.exit .normal, [.next (Sx.Next w.heap.size w Tryz.f20.ntmps (frQR k) locQ (GQR w k R) (muQ k) (QSt.mk i A1 n1 c1 acc)), .block 0, .seq (sub B20 pAD4)], [(0, .so (mkB k)), (3, .sl A0 (n1 + 4) c0), (4, .io .i64 (IntKind.i64.wrap ((↑i : Int) + 1)))], []⟩ (by kernel_rfl) (by kernel_rfl) ?_
   have hw3 : IntKind.i64.wrap ((i : Int) + 1) = ((i + 1 : Nat) : Int) := by
    rw [wrap63 (by omega) (by omega)]
    omega
   rw [hw3]
   refine At.next (σ := QSt) ⟨i + 1, A0, n1 + 4, c0, acc ++ q1 y⟩ rfl rfl (by unfold subFr; kernel_rfl) (by kernel_rfl) ?_ ?_
   ·intro ρ a' w' hi' hf
    exact ⟨by rw [hq1, bw_app]; exact hf, by simp only; omega, by rw [← h2]; simp, by rw [hq1]; simp only [List.length_append, List.length_cons, List.length_nil]; omega, by simp only; omega⟩
   ·simp only [muQ]
    omega
 ·refine At.res 10 (decide ((↑i : Int) < (↑(mkB k).size : Int))) false (by kernel_rfl) b0 ?_
  refine At.toJ (RowF.stable) RowF.fewer 0 300 [43, 44] 1 ⟨pops B20 [1, 1, 1, 0] 2, [.seq (sub B20 [1, 1, 1, 1])], [(43, .sl A1 n1 c1), (44, .ls 0 0 1 1)], [([.v (.int IntKind.u8 34)], 5)]⟩ (by kernel_rfl) (by kernel_rfl) ?_
  refine At.app (55) (5) (1) (1) (A1) (n1) (c1) (1) ([.v (.int IntKind.u8 34)]) _ _ _ _ ([.int IntKind.u8 34]) (by kernel_rfl) (fun ρ => by kernel_rfl) (by first | omega | (simp only [Go.maxLen]; omega)) (by first | omega | (simp only [Go.maxLen]; omega)) (by first | omega | (simp only [Go.maxLen]; omega)) fun A1 c1 => ?_
  refine At.toJ (RowF.stable) RowF.fewer 0 300 [45] 0 ⟨pops B20 [1, 1, 1, 0] 3, [.seq (sub B20 [1, 1, 1, 1])], [(45, .sl A1 (n1 + 1) c1)], []⟩ (by kernel_rfl) (by kernel_rfl) ?_
  have hi : ¬ (i : Int) < ((mkB k).size : Int) := of_decide_eq_false b0
  rw [mkB_size] at hi
  have hd : k.drop i = [] := List.drop_eq_nil_of_le (by omega)
  rw [hd, List.flatMap_nil, List.nil_append] at h2
  refine At.mono (F' := RowF w (fun _ => False) [] w.heap.size 5 1 A1 (n1 + 1) c1 (bw (acc ++ [34]))) (fun ρ w1 h => by rw [bw_app]; exact h) ?_
  refine At.cvy A1 (n1 + 1) c1 ((acc ++ [34]).map UInt8.toNat) (.so (mkB (acc ++ [34]))) (by kernel_rfl) RowF.stable (fun ρ => by rw [strOf_map]; rfl) (fun ρ w1 hm hf => row_cw hf.1.1) ?_
  refine At.toJ (RowF.stable) RowF.fewer 0 300 [2] 0 ⟨.exit .ret, [], [(2, .so (mkB (acc ++ [34])))], []⟩ (by kernel_rfl) (by kernel_rfl) ?_
  refine At.ret (by kernel_rfl) (.so (mkB (acc ++ [34]))) (by kernel_rfl) ?_
  intro ρ w9 hm hf
  exact ⟨by rw [← h2]; rfl, hm.below⟩
end Go.Proofs.YthfpekhpeiebjaaGreatDoor
end
section
namespace Go.Proofs.YthfpekhpeiebjaaGreatDoor
open Go.RowKit Go.Sx
end Go.Proofs.YthfpekhpeiebjaaGreatDoor
end
section
namespace Go.Proofs.YthfpekhpeiebjaaGreatDoor
open Go.RowKit Go.Sx
structure NSt where
 i : Nat
 n : Nat
end Go.Proofs.YthfpekhpeiebjaaGreatDoor
end
section
namespace Go.Proofs.YthfpekhpeiebjaaGreatDoor
open Go.RowKit Go.Sx
section
variable {P : Program} {Q : Exit → Act → World → Prop} {N : Nat} {w0 : World} {ntm : Nat} {F : List Nat → World → Prop}
end
structure KSt where
 A : Option Addr
 n : Nat
 c : Nat
 acc : List UInt8
 i : Nat
end Go.Proofs.YthfpekhpeiebjaaGreatDoor
end
