/- Joined texts: KA, KB, KC, NB, KD, KE, RA, RB, RC, RD. -/
import Derived.Test.YthfpekhpeiebjaaGreatDoorRows
import Derived.Test.YthfpekhpeiebjaaGreatDoorRAA
import Derived.Test.YthfpekhpeiebjaaGreatDoorRAC
import Derived.Lib.ItoaLen
import Derived.Lib.ParseIntBCases
import Derived.Lib.SplitLaws
set_option linter.unusedSimpArgs false
set_option linter.unusedVariables false
section
namespace Go.Proofs.YthfpekhpeiebjaaGreatDoor
open Go.RowKit Go.Sx
open Go.Lib
def mkB (l : List UInt8) : ByteArray := ⟨l.toArray⟩
theorem mkB_size (x : List UInt8) : (mkB x).size = x.length := by simp [mkB, ByteArray.size]
def bw (l : List UInt8) : List Value := l.map fun b => Value.int .u8 (b.toNat : Int)
theorem bw_app (xs ys : List UInt8) : bw (xs ++ ys) = bw xs ++ bw ys := List.map_append
theorem drop_at {α : Type} {l : List α} {j : Nat} {b : α} (h : l[j]? = some b) : l.drop j = b :: l.drop (j + 1) := by
 obtain ⟨hl, he⟩ := List.getElem?_eq_some_iff.1 h
 rw [List.drop_eq_getElem_cons hl, he]
theorem wrap63 {x : Int} (h0 : 0 ≤ x) (h1 : x < 9223372036854775808) : IntKind.i64.wrap x = x := wrap_id ⟨by omega, by omega⟩
theorem ent_src {w0 w : World} {A : Option Addr} {b : Addr} {n c : Nat} {ys : List Value} {ρ : List Nat} (h : EntV w0 A n c (some b, ys) ρ w) : Src w b ys := by
 obtain ⟨b', e, _, _, _, _, hs⟩ := h
 simp only [Option.some.injEq] at e
 subst e
 exact hs
theorem shr_all : ∀ z : Fin 256, (((z.val : Nat) : Int)).fdiv (2 ^ (min (4 : Int).toNat IntKind.u8.bits)) = ((z.val / 16 : Nat) : Int) := by decide +kernel
theorem and_all : ∀ z : Fin 256, IntKind.u8.wrap ((BitVec.ofInt IntKind.u8.bits ((z.val : Nat) : Int) &&& BitVec.ofInt IntKind.u8.bits 15).toNat : Int) = ((z.val % 16 : Nat) : Int) := by decide +kernel
theorem shr4b (y : UInt8) : ((y.toNat : Int)).fdiv (2 ^ (min (4 : Int).toNat IntKind.u8.bits)) = ((y.toNat / 16 : Nat) : Int) := shr_all ⟨y.toNat, y.toNat_lt⟩
theorem and15b (y : UInt8) : IntKind.u8.wrap ((BitVec.ofInt IntKind.u8.bits (y.toNat : Int) &&& BitVec.ofInt IntKind.u8.bits 15).toNat : Int) = ((y.toNat % 16 : Nat) : Int) := and_all ⟨y.toNat, y.toNat_lt⟩
theorem hex_all : ∀ z : Fin 16, (ByteArray.mk #[48, 49, 50, 51, 52, 53, 54, 55, 56, 57, 97, 98, 99, 100, 101, 102]).data.toList[z.val]? = some (hexB z.val) := by decide +kernel
theorem hex_at {n : Nat} (h : n < 16) : (ByteArray.mk #[48, 49, 50, 51, 52, 53, 54, 55, 56, 57, 97, 98, 99, 100, 101, 102]).data.toList[n]? = some (hexB n) := hex_all ⟨n, h⟩
theorem strOf_eq (bs : List Nat) : strOf bs = ⟨(bs.map UInt8.ofNat).toArray⟩ := by
 have h : ∀ (l : List Nat) (acc : ByteArray), (l.map fun b : Nat => ((b : Nat) : Int)).foldl (fun r n => r.push (UInt8.ofNat n.toNat)) acc = ⟨acc.data ++ (l.map UInt8.ofNat).toArray⟩ := by
  intro l
  induction l with
  | nil => intro acc; simp
  | cons b l ih =>
   intro acc
   simp only [List.map_cons, List.foldl_cons, Int.toNat_natCast]
   rw [ih]
   simp [ByteArray.push]
 unfold strOf
 rw [h]
 have he : ByteArray.empty.data = #[] := rfl
 rw [he]
 simp
theorem strOf_map (l : List UInt8) : strOf (l.map UInt8.toNat) = mkB l := by
 rw [strOf_eq, List.map_map]
 unfold mkB
 congr 2
 rw [show (UInt8.ofNat ∘ UInt8.toNat) = id from funext fun b => by simp]
 simp
theorem row_cw {base n c : Nat} {A : Option Addr} {l : List UInt8} {ρ : List Nat} {w : World} (h : Row base 5 1 A n c (bw l) ρ w) :
  (l.map UInt8.toNat).length = n ∧ (A = none → l.map UInt8.toNat = []) ∧ ∀ a, A = some a → ∀ (j b : Nat), (l.map UInt8.toNat)[j]? = some b → w.cell? (a.add j) = some (.int .u8 (b : Int)) := by
 have hl : l.length = n := by have := h.len; simp only [bw, List.length_map] at this; omega
 refine ⟨by rw [List.length_map]; exact hl, fun ha => ?_, fun a ha j b hj => ?_⟩
 ·subst ha
  rcases h.1.2 with ⟨h2, h3⟩ | ⟨g, cap, cur, hv, _⟩
  ·injection h2 with _ h4 _
   rw [List.eq_nil_of_length_eq_zero (by omega : l.length = 0)]
   rfl
  ·cases hv
 ·subst ha
  rw [List.getElem?_map, Option.map_eq_some_iff] at hj
  obtain ⟨y, hy, rfl⟩ := hj
  have hj' := (List.getElem?_eq_some_iff.1 hy).1
  obtain ⟨g, hg, hc⟩ := h.cell (j := j) (by omega)
  injection hg with hg
  subst hg
  rw [add_ok, Nat.zero_add, hc, bw, List.getElem?_map, hy]
  rfl
structure QSt where
 i : Nat
 A : Option Addr
 n : Nat
 c : Nat
 acc : List UInt8
def frQ (b : Addr) (c : Nat) (k : List UInt8) : QSt → Fr
 | ⟨i, A1, n1, c1, _⟩ => [(3, .sl A1 n1 c1), (8, .sl (some b) (mkB k).size c), (9, .io .i64 ((mkB k).size : Int)), (10, .io .i64 (i : Int))]
def locQ (_ : QSt) : Sx.Loc := []
def GQ (w0 : World) (b : Addr) (k R : List UInt8) (s : QSt) (ρ : List Nat) (w : World) : Prop :=
 RowE w0 (fun _ => False) [] w0.heap.size 5 1 s.A s.n s.c (bw s.acc) [(some b, bytesV (mkB k))] ρ w ∧ (s.i ≤ k.length ∧ s.acc ++ ((k.drop s.i).flatMap q1 ++ [34]) = R ∧ s.n = s.acc.length ∧ s.n ≤ 1 + 4 * s.i)
def muQ (k : List UInt8) (s : QSt) : Nat := k.length - s.i
end Go.Proofs.YthfpekhpeiebjaaGreatDoor
end
section
namespace Go.Proofs.YthfpekhpeiebjaaGreatDoor
open Go.RowKit Go.Sx
theorem mkB_app (x y : List UInt8) : mkB x ++ mkB y = mkB (x ++ y) := by
 apply ByteArray.ext
 rw [ByteArray.data_append]
 simp [mkB]
section
variable {Q : Exit → Act → World → Prop} {N : Nat} {w0 : World} {ntm : Nat} {F : List Nat → World → Prop}
end
theorem grown_under (w : World) (q : Nat) (os : Array Obj) : Below w.heap.size w (Sort.grow (w.drewN q) os) :=
 ⟨rfl, rfl, rfl, by simp [Sort.grow], fun i hi => by
  show ((w.drewN q).heap ++ os)[i]? = _
  rw [Array.getElem?_append_left (by show i < w.heap.size; omega)]
  rfl⟩
theorem fmt_any (n : Int) (h : in64 n) (w : World) (htab : Lib.TabIs Tryz.prog w "internal/strconv.uint64pow10" .u64 Lib.pow10Tab) : Calls Tryz.prog 59 #[.int .i64 n, .int .i64 10] w fun e w' => e = .returned (.string (mkB (Lib.itoa n))) ∧ Below w.heap.size w w' :=
 (Tryz.strconv_FormatInt_10 n h.1 h.2 w htab).mono fun e w' h => by
  obtain ⟨rfl, k, os, rfl⟩ := h
  exact ⟨rfl, grown_under w k os⟩
theorem tab_below {B : Nat} {w w' : World} {n : String} {k : IntKind} {zs : List Int} (h : Lib.TabIs Tryz.prog w n k zs) (hb : Below B w w') (hB : B = w.heap.size) : Lib.TabIs Tryz.prog w' n k zs := by
 subst hB
 unfold Lib.TabIs World.var? at h ⊢
 cases hg : Tryz.prog.globalNamed n with
 | none => rw [hg] at h; cases h
 | some g =>
  rw [hg] at h
  simp only [Option.bind_some] at h ⊢
  have hlt : g < w.heap.size := by
   rcases Nat.lt_or_ge g w.heap.size with h' | h'
   ·exact h'
   ·rw [Array.getElem?_eq_none h'] at h; cases h
  rw [hb.block g hlt]
  exact h
theorem itoa_short {n : Int} (h : in64 n) : (Lib.itoa n).length ≤ 21 := Lib.itoa_length_le n h.1 h.2
theorem quote_short {k : List UInt8} (h : k.length ≤ 256) : (quoteB k).length ≤ 1026 := by
 have go : ∀ l : List UInt8, (l.flatMap q1).length ≤ 4 * l.length := by
  intro l
  induction l with
  | nil => simp
  | cons c l ih =>
   have : (q1 c).length ≤ 4 := by unfold q1; split <;> simp
   rw [List.flatMap_cons, List.length_append, List.length_cons]
   omega
 have := go k
 simp only [quoteB, List.length_cons, List.length_append, List.length_nil]
 omega
end Go.Proofs.YthfpekhpeiebjaaGreatDoor
end
section
namespace Go.Proofs.YthfpekhpeiebjaaGreatDoor
open Go.RowKit Go.Sx
theorem emp_true {x : List UInt8} (h : ((mkB x).toList == (ByteArray.mk #[]).toList) = true) : x = [] := by
 rw [ByteArray.toList_eq, ByteArray.toList_eq, beq_iff_eq] at h
 exact h
theorem emp_false {x : List UInt8} (h : ((mkB x).toList == (ByteArray.mk #[]).toList) = false) : ∃ y l, x = y :: l := by
 cases x with
 | nil => rw [ByteArray.toList_eq, ByteArray.toList_eq] at h; cases h
 | cons y l => exact ⟨y, l, rfl⟩
theorem unq_short (b : List UInt8) (l : List UInt8) (h : l.length < 3) : unq b (92 :: l) = none := by
 rw [unq_cons, if_neg (by decide), if_pos rfl]
 match l, h with
 | [], _ => rfl
 | [_], _ => rfl
 | [_, _], _ => rfl
theorem three {l : List UInt8} (h : 3 ≤ l.length) : ∃ x y z r, l = x :: y :: z :: r := by
 match l, h with
 | x :: y :: z :: r, _ => exact ⟨x, y, z, r, rfl⟩
theorem keyK_ne {y : UInt8} {l : List UInt8} (h : y ≠ 34) : keyK (y :: l) = none := by
 unfold keyK
 split
 ·rename_i s e
  injection e with e _
  exact absurd e h
 ·rfl
section
variable {Q : Exit → Act → World → Prop} {N : Nat} {w0 : World} {ntm : Nat} {F : List Nat → World → Prop}
theorem sslW {s : S} (x : List UInt8) (k : Nat) (y : List UInt8) (hy : x.drop k = y) (hq : sslI Tryz.prog ntm s = some (mkB x, (k : Int), none)) (hk : k ≤ x.length) (hF : Stable F) (h : At Tryz.prog Q N w0 ntm F (s.tail ntm (.so (mkB y)))) : At Tryz.prog Q N w0 ntm F s := by
 refine At.ssl (mkB x) (k : Int) none hq (by omega) (by rw [Option.getD_none, mkB_size]; omega) (by rw [Option.getD_none]; omega) hF ?_
 rw [Option.getD_none, Int.toNat_natCast, Int.toNat_natCast, mkB_size]
 have e : (mkB x).extract k x.length = mkB y := by
  subst hy
  apply ByteArray.ext
  rw [ByteArray.data_extract]
  apply Array.ext'
  simp [mkB]
  rw [List.take_of_length_le (by rw [List.length_drop]; omega)]
 rw [e]
 exact h
end
structure USt where
 A : Option Addr
 n : Nat
 c : Nat
 acc : List UInt8
 l : List UInt8
def frU : USt → Fr
 | ⟨A, n, c, _, l⟩ => [(0, .so (mkB l)), (5, .sl A n c)]
def locU (_ : USt) : Sx.Loc := []
def muU (s : USt) : Nat := s.l.length
def GU (w0 : World) (s : List UInt8) (x : USt) (ρ : List Nat) (w : World) : Prop :=
 RowF w0 (fun _ => False) [] w0.heap.size 5 1 x.A x.n x.c (bw x.acc) ρ w ∧ (keyK s = unq x.acc x.l ∧ x.n + x.l.length ≤ 1048576)
def keyV (o : Option (List UInt8 × List UInt8)) : Value := match o with
 | some (k, r) => .tuple #[.string (mkB k), .string (mkB r), .bool true]
 | none => .tuple #[.string ⟨#[]⟩, .string ⟨#[]⟩, .bool false]
end Go.Proofs.YthfpekhpeiebjaaGreatDoor
end
section
namespace Go.Proofs.YthfpekhpeiebjaaGreatDoor
open Go.Lib
/-- The pieces between blanks. -/
def pcs : List UInt8 → List UInt8 → List (List UInt8)
 | cur, [] => [cur]
 | cur, b :: r => if b = 32 then cur :: pcs [] r else pcs (cur ++ [b]) r
theorem pcs_app : ∀ (p r cur : List UInt8), (∀ b ∈ p, b ≠ 32) → pcs cur (p ++ r) = pcs (cur ++ p) r
 | [], r, cur, _ => by simp
 | b :: p, r, cur, h => by
  rw [List.cons_append, pcs, if_neg (h b (by simp)), pcs_app p r (cur ++ [b]) (fun c hc => h c (by simp [hc])), List.append_assoc]
  rfl
theorem pcs_none (p : List UInt8) (h : ∀ b ∈ p, b ≠ 32) : pcs [] p = [p] := by
 have := pcs_app p [] [] h
 rw [List.append_nil, List.nil_append] at this
 rw [this]
 rfl
theorem pcs_hit (p r : List UInt8) (h : ∀ b ∈ p, b ≠ 32) : pcs [] (p ++ 32 :: r) = p :: pcs [] r := by
 rw [pcs_app p _ [] h, List.nil_append, pcs, if_pos rfl]
theorem idx_none : ∀ (l : List UInt8), Lib.index l [32] = -1 → ∀ b ∈ l, b ≠ 32
 | [], _, b, hb => by cases hb
 | c :: l, h, b, hb => by
  unfold Lib.index at h
  by_cases hc : (32 : UInt8) = c
  ·simp [hc] at h
  ·have hp : List.isPrefixOf [32] (c :: l) = false := by simp [List.isPrefixOf, hc]
   rw [if_neg (by simp [hp])] at h
   by_cases h1 : Lib.index l [32] = -1
   ·rcases List.mem_cons.1 hb with rfl | hb
    ·exact fun e => hc e.symm
    ·exact idx_none l h1 b hb
   ·have := index_ge l [32]
    rw [if_neg (by simp [h1])] at h
    omega
theorem idx_some : ∀ (l : List UInt8) (i : Nat), Lib.index l [32] = (i : Int) → ∃ p r, l = p ++ 32 :: r ∧ p.length = i ∧ ∀ b ∈ p, b ≠ 32
 | [], i, h => by
  simp only [Lib.index] at h
  exact absurd h (by simp)
 | c :: l, i, h => by
  unfold Lib.index at h
  by_cases hc : (32 : UInt8) = c
  ·subst hc
   have hp : List.isPrefixOf [32] ((32 : UInt8) :: l) = true := by simp [List.isPrefixOf]
   rw [if_pos hp] at h
   exact ⟨[], l, rfl, by simp; omega, by simp⟩
  ·have hp : List.isPrefixOf [32] (c :: l) = false := by simp [List.isPrefixOf, hc]
   rw [if_neg (by simp [hp])] at h
   by_cases h1 : Lib.index l [32] = -1
   ·rw [if_pos (by simp [h1])] at h
    omega
   ·have hg := index_ge l [32]
    rw [if_neg (by simp [h1])] at h
    obtain ⟨p, r, e, hl, hb⟩ := idx_some l (i - 1) (by omega)
    refine ⟨c :: p, r, by rw [e]; rfl, by simp; omega, fun b hbm => ?_⟩
    rcases List.mem_cons.1 hbm with rfl | hbm
    ·exact fun e => hc e.symm
    ·exact hb b hbm
theorem split_pcs : ∀ (m : Nat) (l : List UInt8), l.length ≤ m → splitK [32] 0 (Lib.count l [32]) l = pcs [] l
 | m, l, hm => by
  rcases Int.lt_or_le (Lib.index l [32]) 0 with h | h
  ·have h1 : Lib.index l [32] = -1 := by have := index_ge l [32]; omega
   rw [count_miss h1]
   exact (pcs_none l (idx_none l h1)).symm
  ·obtain ⟨i, hi⟩ : ∃ i : Nat, Lib.index l [32] = i := ⟨_, (Int.toNat_of_nonneg h).symm⟩
   obtain ⟨p, r, e, hl, hb⟩ := idx_some l i hi
   rw [count_hit (by simp) hi, Nat.add_comm, splitK, if_neg (by simp [hi]), hi, Int.toNat_natCast]
   subst hl
   have hd : l.drop (p.length + [(32 : UInt8)].length) = r := by
    rw [e, List.length_singleton, show p ++ 32 :: r = (p ++ [32]) ++ r by simp]
    exact List.drop_left' (by simp)
   have ht : l.take (p.length + 0) = p := by rw [e, Nat.add_zero, List.take_left]
   rw [hd, ht]
   match m with
   | 0 => rw [e] at hm; simp at hm
   | m + 1 =>
    rw [split_pcs m r (by rw [e] at hm; simp at hm; omega)]
    rw [e]
    exact (pcs_hit p r hb).symm
open Go.RowKit Go.Sx
theorem pcs_len : ∀ (l cur : List UInt8) (p : List UInt8), p ∈ pcs cur l → p.length ≤ cur.length + l.length
 | [], cur, p, h => by
  simp only [pcs, List.mem_singleton] at h
  subst h
  simp
 | b :: l, cur, p, h => by
  rw [pcs] at h
  split at h
  ·rcases List.mem_cons.1 h with rfl | h
   ·simp
   ·have := pcs_len l [] p h
    simp at this ⊢
    omega
  ·have := pcs_len l (cur ++ [b]) p h
   simp at this ⊢
   omega
theorem pcs_short {s : ByteArray} (hs : s.size ≤ 1048576) {p : List UInt8} (h : p ∈ pcs [] s.data.toList) : p.length ≤ 1048576 := by
 have := pcs_len _ _ p h
 have hsz : s.size = s.data.toList.length := by rw [Array.length_toList]; rfl
 simp only [List.length_nil] at this
 omega
theorem split_list (s : ByteArray) : Lib.splitB ⟨#[32]⟩ 0 (Lib.countB s ⟨#[32]⟩) s = (pcs [] s.data.toList).map mkB := by
 have h := Lib.splitB_data ⟨#[32]⟩ 0 (Lib.countB s ⟨#[32]⟩) s
 have h2 := split_pcs s.data.toList.length s.data.toList (Nat.le_refl _)
 rw [← h2, ← show Lib.splitK (ByteArray.mk #[32]).data.toList 0 (Lib.countB s ⟨#[32]⟩) s.data.toList = Lib.splitK [32] 0 (Lib.count s.data.toList [32]) s.data.toList from rfl, ← h, List.map_map]
 exact (List.map_id _).symm
theorem split_len (s : ByteArray) : Lib.countB s ⟨#[32]⟩ + 1 = (pcs [] s.data.toList).length := by
 rw [← Lib.splitB_all ⟨#[32]⟩ (by decide) 0 _ s rfl, split_list, List.length_map]
theorem split_row (s : ByteArray) (hs : s.size ≤ 1048576) (w : World) {m : Int} (hm : w.cell? ⟨1, 0, none⟩ = some (.int .i64 m)) {n : Nat} (hn : (pcs [] s.data.toList).length = n) :
  Calls Tryz.prog 52 #[.string s, .string ⟨#[32]⟩] w fun e w' => ∃ ρc, e = .returned ((SV.ls 0 0 n n).den ρc) ∧ WInv w.heap.size w ρc [((pcs [] s.data.toList).map fun p => SV.so (mkB p), 9)] w' := by
 refine (Tryz.strings_Split s ⟨#[32]⟩ m w (by omega) hm (by decide)).mono ?_
 rintro e w' ⟨rfl, rfl⟩
 rw [split_len, hn, split_list]
 refine ⟨[w.heap.size], by rfl, (Below.refl _ _).alloc (Nat.le_refl _) _, by rw [show (w.alloc _).heap = w.heap.push _ from rfl]; simp, rfl, by simp, fun b hb => ?_, fun i c t hi => ?_⟩
 ·simp at hb
  subst hb
  exact ⟨Nat.le_refl _, by rw [show (w.alloc _).heap = w.heap.push _ from rfl]; simp⟩
 ·cases i with
  | zero =>
   simp only [List.getElem?_cons_zero, Option.some.injEq, Prod.mk.injEq] at hi
   obtain ⟨rfl, rfl⟩ := hi
   rw [show (w.alloc _).heap = w.heap.push _ from rfl]
   simp only [nth, List.getD, List.getElem?_cons_zero, Option.getD_some, Array.getElem?_push_size, SV.denL_eq, List.map_map]
   rfl
  | succ i => simp at hi
theorem var_below {w0 w : World} {n : String} {cs : Array Value} (h : w0.var? Tryz.prog n = some cs) (hb : Below w0.heap.size w0 w) : w.var? Tryz.prog n = some cs := by
 unfold World.var? at h ⊢
 cases hg : Tryz.prog.globalNamed n with
 | none => rw [hg] at h; cases h
 | some g =>
  rw [hg] at h
  simp only [Option.bind_some] at h ⊢
  have hlt : g < w0.heap.size := by
   rcases Nat.lt_or_ge g w0.heap.size with h' | h'
   ·exact h'
   ·rw [Array.getElem?_eq_none h'] at h; cases h
  rw [hb.block g hlt]
  exact h
theorem cell_below {w0 w : World} {a : Addr} {v : Value} (h : w0.cell? a = some v) (hb : Below w0.heap.size w0 w) : w.cell? a = some v := by
 have hlt : a.block < w0.heap.size := by
  rcases Nat.lt_or_ge a.block w0.heap.size with h' | h'
  ·exact h'
  ·unfold World.cell? at h
   rw [Array.getElem?_eq_none h'] at h; cases h
 unfold World.cell? at h ⊢
 rw [hb.block _ hlt]
 exact h
end Go.Proofs.YthfpekhpeiebjaaGreatDoor
end
section
namespace Go.Proofs.YthfpekhpeiebjaaGreatDoor
open Go.RowKit Go.Sx
section
variable {Q : Exit → Act → World → Prop} {N : Nat} {w0 : World} {ntm : Nat} {F : List Nat → World → Prop}
end
theorem pint_cases (p : List UInt8) : (∃ n, Lib.parseIntB 64 p = .ok n) ∨ ∀ n, Lib.parseIntB 64 p ≠ .ok n := by
 cases h : Lib.parseIntB 64 p with
 | ok n => exact .inl ⟨n, rfl⟩
 | range => exact .inr fun n h => by cases h
 | _ => exact .inr fun n h => by cases h
theorem numK_no {p : List UInt8} (h : ∀ n, Lib.parseIntB 64 p ≠ .ok n) : numK p = none := by
 unfold numK
 split
 ·rename_i n hn
  exact absurd hn (h n)
 ·rfl
theorem numK_ne {p : List UInt8} {n : Int} (h : Lib.parseIntB 64 p = .ok n) (hb : (!(mkB (Lib.itoa n)).toList == (mkB p).toList) = true) : numK p = none := by
 rw [ByteArray.toList_eq, ByteArray.toList_eq] at hb
 unfold numK
 rw [h]
 simp only
 rw [if_neg fun e => by rw [e] at hb; simp at hb]
theorem numK_eq {p : List UInt8} {n : Int} (h : Lib.parseIntB 64 p = .ok n) (hb : (!(mkB (Lib.itoa n)).toList == (mkB p).toList) = false) : numK p = some n := by
 rw [ByteArray.toList_eq, ByteArray.toList_eq] at hb
 unfold numK
 rw [h]
 simp only
 rw [if_pos (by simpa [mkB] using hb)]
theorem mapM_none {l : List (List UInt8)} {p : List UInt8} (hp : p ∈ l) (h : numK p = none) : l.mapM numK = none := by
 induction l with
 | nil => cases hp
 | cons q l ih =>
  rw [List.mapM_cons]
  rcases List.mem_cons.1 hp with rfl | hp
  ·rw [h]; rfl
  ·rw [ih hp]
   cases numK q <;> rfl
theorem pint_ok {p : List UInt8} (hp : p.length ≤ 1048576) {n : Int} (h : Lib.parseIntB 64 p = .ok n) (w : World) :
  Calls Tryz.prog 57 #[.string (mkB p), .int .i64 10, .int .i64 64] w fun e w' => e = .returned (.tuple #[.int .i64 n, .nilIface]) ∧ Below w.heap.size w w' :=
 (Tryz.strconv_ParseInt_10_at64_ok (mkB p) (by rw [mkB_size]; omega) n h w).mono fun e w' h => ⟨h.1, by
  rcases h.2 with rfl | ⟨t, rfl⟩
  ·exact Below.refl _ _
  ·exact ⟨rfl, rfl, rfl, by rw [Lib.bytesWorld_size]; omega, fun j hj => Lib.bytesWorld_at_old w 5 t j hj⟩⟩
theorem pint_bad {p : List UInt8} (hp : p.length ≤ 1048576) (h : ∀ n, Lib.parseIntB 64 p ≠ .ok n) (w : World) {tp1 tp2 : TypeId} {q1 q2 : Value} (h1 : w.var? Tryz.prog "strconv.ErrSyntax" = some #[.iface tp1 q1]) (h2 : w.var? Tryz.prog "strconv.ErrRange" = some #[.iface tp2 q2]) :
  Calls Tryz.prog 57 #[.string (mkB p), .int .i64 10, .int .i64 64] w fun e w' => ∃ x N, e = .returned (.tuple #[.int .i64 x, .iface 146 (.pointer (some ⟨N, 0, none⟩))]) ∧ Below w.heap.size w w' := by
 cases hr : Lib.parseIntB 64 p with
 | ok n => exact absurd hr (h n)
 | range => exact (Tryz.strconv_ParseInt_10_at64_range_var (mkB p) (by rw [mkB_size]; omega) hr tp2 q2 w h2).mono fun e w' ⟨N, he, _, _, hb⟩ => ⟨_, N, he, hb⟩
 | _ => exact (Tryz.strconv_ParseInt_10_at64_syntax_var (mkB p) (by rw [mkB_size]; omega) (hr.trans rfl) tp1 q1 w h1).mono fun e w' ⟨N, he, _, _, hb⟩ => ⟨_, N, he, hb⟩
structure Pn where
 key : List UInt8
 st : Int
 en : Int
 kd : Int
 nt : Int
 ct : Int
 sm : Int
 mn : Int
 mx : Int
def Pn.val (p : Pn) : Value := .agg #[.string (mkB p.key), .int .i64 p.st, .int .i64 p.en, .int .i64 p.kd, .int .i64 p.nt, .int .i64 p.ct, .int .i64 p.sm, .int .i64 p.mn, .int .i64 p.mx]
theorem str_beq (x y : List UInt8) : ((mkB x).toList == (mkB y).toList) = decide (x = y) := by
 rw [ByteArray.toList_eq, ByteArray.toList_eq, Bool.eq_iff_iff, beq_iff_eq, decide_eq_true_eq]
 exact Iff.rfl
end Go.Proofs.YthfpekhpeiebjaaGreatDoor
end
section
namespace Go.Proofs.YthfpekhpeiebjaaGreatDoor
open Go.RowKit Go.Sx
/-- A text cut at its first line's end. -/
def cutN : List UInt8 → List UInt8 × List UInt8 × Bool
 | [] => ([], [], false)
 | c :: r => if c = 10 then ([], r, true) else (c :: (cutN r).1, (cutN r).2.1, (cutN r).2.2)
theorem cut_cutN : ∀ t : List UInt8, Lib.cut t [10] = cutN t
 | [] => by simp [Lib.cut, Lib.index, cutN]
 | c :: r => by
  have ih := cut_cutN r
  have hg := Lib.index_ge r [10]
  unfold cutN
  by_cases hc : c = 10
  ·subst hc
   have hi : Lib.index (10 :: r) [10] = 0 := by unfold Lib.index; rw [if_pos (by simp [List.isPrefixOf])]
   simp [Lib.cut, hi]
  ·have hp : List.isPrefixOf [10] (c :: r) = false := by simp [List.isPrefixOf, Ne.symm hc]
   rw [if_neg hc, ← ih]
   by_cases h1 : Lib.index r [10] = -1
   ·have hi : Lib.index (c :: r) [10] = -1 := by unfold Lib.index; rw [if_neg (by simp [hp]), if_pos (by simp [h1])]
    simp [Lib.cut, hi, h1]
   ·have hi : Lib.index (c :: r) [10] = Lib.index r [10] + 1 := by
     conv => lhs; unfold Lib.index
     rw [if_neg (by simp [hp]), if_neg (by simp [h1])]
    obtain ⟨i, hi2⟩ : ∃ i : Nat, Lib.index r [10] = i := ⟨_, (Int.toNat_of_nonneg (by omega)).symm⟩
    have e1 : ((i : Int) + 1).toNat = i + 1 := by omega
    simp only [Lib.cut, hi, hi2]
    rw [if_pos (by omega), if_pos (by omega), e1]
    simp
theorem cutN_len : ∀ t : List UInt8, (cutN t).1.length ≤ t.length ∧ (cutN t).2.1.length ≤ t.length ∧ ((cutN t).2.2 = true → (cutN t).2.1.length < t.length)
 | [] => by simp [cutN]
 | c :: r => by
  have ih := cutN_len r
  unfold cutN
  by_cases hc : c = 10
  ·rw [if_pos hc]
   simp
  ·rw [if_neg hc]
   simp only [List.length_cons]
   refine ⟨by omega, by omega, fun h => ?_⟩
   have := ih.2.2 h
   omega
theorem cut_any {t ln rs : List UInt8} {en : Bool} (h : cutN t = (ln, rs, en)) (hs : t.length ≤ 1048576) (w : World) {m : Int} (hm : w.cell? ⟨1, 0, none⟩ = some (.int .i64 m)) :
  Calls Tryz.prog 50 #[.string (mkB t), .string ⟨#[10]⟩] w fun e w' => e = .returned (.tuple #[.string (mkB ln), .string (mkB rs), .bool en]) ∧ Below w.heap.size w w' :=
 (Tryz.strings_Cut (mkB t) ⟨#[10]⟩ m w (by rw [mkB_size]; omega) hm).mono fun e w' hh => by
  obtain ⟨rfl, n, rfl⟩ := hh
  have e1 : Lib.cut (mkB t).data.toList (ByteArray.mk #[10]).data.toList = (ln, rs, en) := (cut_cutN t).trans h
  rw [e1]
  exact ⟨rfl, rfl, rfl, rfl, Nat.le_refl _, fun _ _ => rfl⟩
def Pn.cells (p : Pn) : List Value := [.string (mkB p.key), .int .i64 p.st, .int .i64 p.en, .int .i64 p.kd, .int .i64 p.nt, .int .i64 p.ct, .int .i64 p.sm, .int .i64 p.mn, .int .i64 p.mx]
def pv (ps : List Pn) : List Value := ps.flatMap Pn.cells
structure RSt where
 A : Option Addr
 n : Nat
 c : Nat
 ps : List Pn
 l : List UInt8
end Go.Proofs.YthfpekhpeiebjaaGreatDoor
end
section
namespace Go.Proofs.YthfpekhpeiebjaaGreatDoor
open Go.RowKit Go.Sx
end Go.Proofs.YthfpekhpeiebjaaGreatDoor
end
section
namespace Go.Proofs.YthfpekhpeiebjaaGreatDoor
open Go.RowKit Go.Sx
end Go.Proofs.YthfpekhpeiebjaaGreatDoor
end
section
namespace Go.Proofs.YthfpekhpeiebjaaGreatDoor
open Go.RowKit Go.Sx
structure NSt where
 i : Nat
 n : Nat
end Go.Proofs.YthfpekhpeiebjaaGreatDoor
end
section
namespace Go.Proofs.YthfpekhpeiebjaaGreatDoor
open Go.RowKit Go.Sx
section
variable {P : Program} {Q : Exit → Act → World → Prop} {N : Nat} {w0 : World} {ntm : Nat} {F : List Nat → World → Prop}
end
structure KSt where
 A : Option Addr
 n : Nat
 c : Nat
 acc : List UInt8
 i : Nat
end Go.Proofs.YthfpekhpeiebjaaGreatDoor
end
