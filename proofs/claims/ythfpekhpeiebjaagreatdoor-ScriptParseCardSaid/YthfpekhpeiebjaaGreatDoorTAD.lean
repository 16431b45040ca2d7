/- Joined texts: NB, KD, KE, RA, RB, RC. -/
import Derived.Test.YthfpekhpeiebjaaGreatDoorTVV
import Derived.Lib.SplitLaws
set_option linter.unusedSimpArgs false
set_option linter.unusedVariables false
namespace Go.Sx
open Go
def pAD0 : List Nat := [1, 1, 1, 1, 1, 0, 1, 4, 4, 1, 0, 4, 0, 0]
def pAD1 : List Nat := [1, 1, 1, 1, 1, 0, 1, 4, 4, 1, 0, 4, 0, 1]
def pAD2 : List Nat := [1, 1, 1, 1, 1, 0, 1, 4, 4, 1, 0, 4, 1]
def pAD3 : List Nat := [1, 1, 0, 1, 4, 4, 1, 0, 4, 1, 1, 3]
def pAD4 : List Nat := [1, 1, 0, 1, 4, 4, 1, 0, 4, 1, 0]
def pAD5 : List Nat := [1, 1, 0, 1, 4, 4, 1, 0, 4, 1, 1]
def pAD6 : List Nat := [1, 1, 1, 1, 1, 0, 1, 4, 4, 1, 1]
def pAD7 : List Nat := [1, 1, 1, 1, 1, 1, 1, 1, 0, 0]
def pAD8 : List Nat := [1, 1, 1, 1, 1, 1, 1, 1, 0, 1]
def pAD9 : List Nat := [1, 1, 1, 1, 1, 1, 1, 1, 1]
def pAD10 : List Nat := [1, 1, 0, 1, 4, 4, 1, 1]
def pAD11 : List Nat := [1, 1, 1, 1, 0, 1]
def pAD12 : List Nat := [1, 1, 1, 1, 1, 1]
def pAD13 : List Nat := [1, 0, 1, 2, 1]
def pAD14 : List Nat := [1, 1, 1, 0, 0]
def pAD15 : List Nat := [1, 1, 1, 0, 1]
def pAD16 : List Nat := [1, 1, 1, 1, 1]
def pAD17 : List Nat := [1, 1, 1, 1]
def pAD18 : List Nat := [1, 1, 1]
def pAD19 : List Nat := [1, 1, 0]
end Go.Sx
section
namespace Go.Proofs.YthfpekhpeiebjaaGreatDoor
open Go.Lib
def pcs : List UInt8 → List UInt8 → List (List UInt8)
 | cur, [] => [cur]
 | cur, b :: r => if b = 32 then cur :: pcs [] r else pcs (cur ++ [b]) r
theorem pcs_app : ∀ (p r cur : List UInt8), (∀ b ∈ p, b ≠ 32) → pcs cur (p ++ r) = pcs (cur ++ p) r
 | [], r, cur, _ => by simp
 | b :: p, r, cur, h => by
  rw [List.cons_append, pcs, if_neg (h b (by simp)), pcs_app p r (cur ++ [b]) (fun c hc => h c (by simp [hc])), List.append_assoc]
  rfl
theorem pcs_none (p : List UInt8) (h : ∀ b ∈ p, b ≠ 32) : pcs [] p = [p] := by
 have := pcs_app p [] [] h
 rw [List.append_nil, List.nil_append] at this
 rw [this]
 rfl
theorem pcs_hit (p r : List UInt8) (h : ∀ b ∈ p, b ≠ 32) : pcs [] (p ++ 32 :: r) = p :: pcs [] r := by
 rw [pcs_app p _ [] h, List.nil_append, pcs, if_pos rfl]
theorem idx_none : ∀ (l : List UInt8), Lib.index l [32] = -1 → ∀ b ∈ l, b ≠ 32
 | [], _, b, hb => by cases hb
 | c :: l, h, b, hb => by
  unfold Lib.index at h
  by_cases hc : (32 : UInt8) = c
  ·simp [hc] at h
  have hp : List.isPrefixOf [32] (c :: l) = false := by simp [List.isPrefixOf, hc]
  rw [if_neg (by simp [hp])] at h
  by_cases h1 : Lib.index l [32] = -1
  ·rcases List.mem_cons.1 hb with rfl | hb
   ·exact fun e => hc e.symm
   exact idx_none l h1 b hb
  have := index_ge l [32]
  rw [if_neg (by simp [h1])] at h
  omega
theorem idx_some : ∀ (l : List UInt8) (i : Nat), Lib.index l [32] = (i : Int) → ∃ p r, l = p ++ 32 :: r ∧ p.length = i ∧ ∀ b ∈ p, b ≠ 32
 | [], i, h => by
  simp only [Lib.index] at h
  exact absurd h (by simp)
 | c :: l, i, h => by
  unfold Lib.index at h
  by_cases hc : (32 : UInt8) = c
  ·subst hc
   have hp : List.isPrefixOf [32] ((32 : UInt8) :: l) = true := by simp [List.isPrefixOf]
   rw [if_pos hp] at h
   exact ⟨[], l, rfl, by simp; omega, by simp⟩
  have hp : List.isPrefixOf [32] (c :: l) = false := by simp [List.isPrefixOf, hc]
  rw [if_neg (by simp [hp])] at h
  by_cases h1 : Lib.index l [32] = -1
  ·rw [if_pos (by simp [h1])] at h
   omega
  have hg := index_ge l [32]
  rw [if_neg (by simp [h1])] at h
  obtain ⟨p, r, e, hl, hb⟩ := idx_some l (i - 1) (by omega)
  refine ⟨c :: p, r, by rw [e]; rfl, by simp; omega, fun b hbm => ?_⟩
  rcases List.mem_cons.1 hbm with rfl | hbm
  ·exact fun e => hc e.symm
  exact hb b hbm
theorem split_pcs : ∀ (m : Nat) (l : List UInt8), l.length ≤ m → splitK [32] 0 (Lib.count l [32]) l = pcs [] l
 | m, l, hm => by
  rcases Int.lt_or_le (Lib.index l [32]) 0 with h | h
  ·have h1 : Lib.index l [32] = -1 := by have := index_ge l [32]; omega
   rw [count_miss h1]
   exact (pcs_none l (idx_none l h1)).symm
  obtain ⟨i, hi⟩ : ∃ i : Nat, Lib.index l [32] = i := ⟨_, (Int.toNat_of_nonneg h).symm⟩
  obtain ⟨p, r, e, hl, hb⟩ := idx_some l i hi
  rw [count_hit (by simp) hi, Nat.add_comm, splitK, if_neg (by simp [hi]), hi, Int.toNat_natCast]
  subst hl
  have hd : l.drop (p.length + [(32 : UInt8)].length) = r := by
   rw [e, List.length_singleton, show p ++ 32 :: r = (p ++ [32]) ++ r by simp]
   exact List.drop_left' (by simp)
  have ht : l.take (p.length + 0) = p := by rw [e, Nat.add_zero, List.take_left]
  rw [hd, ht]
  match m with
  | 0 => rw [e] at hm; simp at hm
  | m + 1 =>
   rw [split_pcs m r (by rw [e] at hm; simp at hm; omega)]
   rw [e]
   exact (pcs_hit p r hb).symm
open Go.RowKit Go.Sx
theorem pcs_len : ∀ (l cur : List UInt8) (p : List UInt8), p ∈ pcs cur l → p.length ≤ cur.length + l.length
 | [], cur, p, h => by
  simp only [pcs, List.mem_singleton] at h
  subst h
  simp
 | b :: l, cur, p, h => by
  rw [pcs] at h
  split at h
  ·rcases List.mem_cons.1 h with rfl | h
   ·simp
   have := pcs_len l [] p h
   simp at this ⊢
   omega
  have := pcs_len l (cur ++ [b]) p h
  simp at this ⊢
  omega
theorem pcs_short {s : ByteArray} (hs : s.size ≤ 1048576) {p : List UInt8} (h : p ∈ pcs [] s.data.toList) : p.length ≤ 1048576 := by
 have := pcs_len _ _ p h
 have hsz : s.size = s.data.toList.length := by rw [Array.length_toList]; rfl
 simp only [List.length_nil] at this
 omega
theorem split_list (s : ByteArray) : Lib.splitB ⟨#[32]⟩ 0 (Lib.countB s ⟨#[32]⟩) s = (pcs [] s.data.toList).map mkB := by
 have h := Lib.splitB_data ⟨#[32]⟩ 0 (Lib.countB s ⟨#[32]⟩) s
 have h2 := split_pcs s.data.toList.length s.data.toList (Nat.le_refl _)
 rw [← h2, ← show Lib.splitK (ByteArray.mk #[32]).data.toList 0 (Lib.countB s ⟨#[32]⟩) s.data.toList = Lib.splitK [32] 0 (Lib.count s.data.toList [32]) s.data.toList from rfl, ← h, List.map_map]
 exact (List.map_id _).symm
theorem split_len (s : ByteArray) : Lib.countB s ⟨#[32]⟩ + 1 = (pcs [] s.data.toList).length := by
 rw [← Lib.splitB_all ⟨#[32]⟩ (by decide) 0 _ s rfl, split_list, List.length_map]
theorem split_row (s : ByteArray) (hs : s.size ≤ 1048576) (w : World) {m : Int} (hm : w.cell? ⟨1, 0, none⟩ = some (.int .i64 m)) {n : Nat} (hn : (pcs [] s.data.toList).length = n) :
  Calls Tryz.prog 52 #[.string s, .string ⟨#[32]⟩] w fun e w' => ∃ ρc, e = .returned ((SV.ls 0 0 n n).den ρc) ∧ WInv w.heap.size w ρc [((pcs [] s.data.toList).map fun p => SV.so (mkB p), 9)] w' := by
 refine (Tryz.strings_Split s ⟨#[32]⟩ m w (by omega) hm (by decide)).mono ?_
 rintro e w' ⟨rfl, rfl⟩
 rw [split_len, hn, split_list]
 refine ⟨[w.heap.size], by rfl, (Below.refl _ _).alloc (Nat.le_refl _) _, by rw [show (w.alloc _).heap = w.heap.push _ from rfl]; simp, rfl, by simp, fun b hb => ?_, fun i c t hi => ?_⟩
 ·simp at hb
  subst hb
  exact ⟨Nat.le_refl _, by rw [show (w.alloc _).heap = w.heap.push _ from rfl]; simp⟩
 cases i with
 | zero =>
  simp only [List.getElem?_cons_zero, Option.some.injEq, Prod.mk.injEq] at hi
  obtain ⟨rfl, rfl⟩ := hi
  rw [show (w.alloc _).heap = w.heap.push _ from rfl]
  simp only [nth, List.getD, List.getElem?_cons_zero, Option.getD_some, Array.getElem?_push_size, SV.denL_eq, List.map_map]
  rfl
 | succ i => simp at hi
theorem var_below {w0 w : World} {n : String} {cs : Array Value} (h : w0.var? Tryz.prog n = some cs) (hb : Below w0.heap.size w0 w) : w.var? Tryz.prog n = some cs := by
 unfold World.var? at h ⊢
 cases hg : Tryz.prog.globalNamed n with
 | none => rw [hg] at h; cases h
 | some g =>
  rw [hg] at h
  simp only [Option.bind_some] at h ⊢
  have hlt : g < w0.heap.size := by
   rcases Nat.lt_or_ge g w0.heap.size with h' | h'
   ·exact h'
   rw [Array.getElem?_eq_none h'] at h; cases h
  rw [hb.block g hlt]
  exact h
theorem cell_below {w0 w : World} {a : Addr} {v : Value} (h : w0.cell? a = some v) (hb : Below w0.heap.size w0 w) : w.cell? a = some v := by
 have hlt : a.block < w0.heap.size := by
  rcases Nat.lt_or_ge a.block w0.heap.size with h' | h'
  ·exact h'
  unfold World.cell? at h
  rw [Array.getElem?_eq_none h'] at h; cases h
 unfold World.cell? at h ⊢
 rw [hb.block _ hlt]
 exact h
end Go.Proofs.YthfpekhpeiebjaaGreatDoor
end
section
namespace Go.Proofs.YthfpekhpeiebjaaGreatDoor
open Go.RowKit Go.Sx
section
variable {Q : Exit → Act → World → Prop} {N : Nat} {w0 : World} {ntm : Nat} {F : List Nat → World → Prop}
end
theorem pint_cases (p : List UInt8) : (∃ n, Lib.parseIntB 64 p = .ok n) ∨ ∀ n, Lib.parseIntB 64 p ≠ .ok n := by
 cases h : Lib.parseIntB 64 p with
 | ok n => exact .inl ⟨n, rfl⟩
 | range => exact .inr fun n h => by cases h
 | _ => exact .inr fun n h => by cases h
theorem numK_no {p : List UInt8} (h : ∀ n, Lib.parseIntB 64 p ≠ .ok n) : numK p = none := by
 unfold numK
 split
 ·rename_i n hn
  exact absurd hn (h n)
 rfl
theorem numK_ne {p : List UInt8} {n : Int} (h : Lib.parseIntB 64 p = .ok n) (hb : (!(mkB (Lib.itoa n)).toList == (mkB p).toList) = true) : numK p = none := by
 rw [ByteArray.toList_eq, ByteArray.toList_eq] at hb
 unfold numK
 rw [h]
 simp only
 rw [if_neg fun e => by rw [e] at hb; simp at hb]
theorem numK_eq {p : List UInt8} {n : Int} (h : Lib.parseIntB 64 p = .ok n) (hb : (!(mkB (Lib.itoa n)).toList == (mkB p).toList) = false) : numK p = some n := by
 rw [ByteArray.toList_eq, ByteArray.toList_eq] at hb
 unfold numK
 rw [h]
 simp only
 rw [if_pos (by simpa [mkB] using hb)]
theorem mapM_none {l : List (List UInt8)} {p : List UInt8} (hp : p ∈ l) (h : numK p = none) : l.mapM numK = none := by
 induction l with
 | nil => cases hp
 | cons q l ih =>
  rw [List.mapM_cons]
  rcases List.mem_cons.1 hp with rfl | hp
  ·rw [h]; rfl
  rw [ih hp]
  cases numK q <;> rfl
theorem pint_ok {p : List UInt8} (hp : p.length ≤ 1048576) {n : Int} (h : Lib.parseIntB 64 p = .ok n) (w : World) :
  Calls Tryz.prog 57 #[.string (mkB p), .int .i64 10, .int .i64 64] w fun e w' => e = .returned (.tuple #[.int .i64 n, .nilIface]) ∧ Below w.heap.size w w' :=
 (Tryz.strconv_ParseInt_10_at64_ok (mkB p) (by rw [mkB_size]; omega) n h w).mono fun e w' h => ⟨h.1, by
  rcases h.2 with rfl | ⟨t, rfl⟩
  ·exact Below.refl _ _
  exact ⟨rfl, rfl, rfl, by rw [Lib.bytesWorld_size]; omega, fun j hj => Lib.bytesWorld_at_old w 5 t j hj⟩⟩
theorem pint_bad {p : List UInt8} (hp : p.length ≤ 1048576) (h : ∀ n, Lib.parseIntB 64 p ≠ .ok n) (w : World) {tp1 tp2 : TypeId} {q1 q2 : Value} (h1 : w.var? Tryz.prog "strconv.ErrSyntax" = some #[.iface tp1 q1]) (h2 : w.var? Tryz.prog "strconv.ErrRange" = some #[.iface tp2 q2]) :
  Calls Tryz.prog 57 #[.string (mkB p), .int .i64 10, .int .i64 64] w fun e w' => ∃ x N, e = .returned (.tuple #[.int .i64 x, .iface 146 (.pointer (some ⟨N, 0, none⟩))]) ∧ Below w.heap.size w w' := by
 cases hr : Lib.parseIntB 64 p with
 | ok n => exact absurd hr (h n)
 | range => exact (Tryz.strconv_ParseInt_10_at64_range_var (mkB p) (by rw [mkB_size]; omega) hr tp2 q2 w h2).mono fun e w' ⟨N, he, _, _, hb⟩ => ⟨_, N, he, hb⟩
 | _ => exact (Tryz.strconv_ParseInt_10_at64_syntax_var (mkB p) (by rw [mkB_size]; omega) (hr.trans rfl) tp1 q1 w h1).mono fun e w' ⟨N, he, _, _, hb⟩ => ⟨_, N, he, hb⟩
structure Pn where
 key : List UInt8
 st : Int
 en : Int
 kd : Int
 nt : Int
 ct : Int
 sm : Int
 mn : Int
 mx : Int
theorem str_beq (x y : List UInt8) : ((mkB x).toList == (mkB y).toList) = decide (x = y) := by
 rw [ByteArray.toList_eq, ByteArray.toList_eq, Bool.eq_iff_iff, beq_iff_eq, decide_eq_true_eq]
 exact Iff.rfl
end Go.Proofs.YthfpekhpeiebjaaGreatDoor
end
section
namespace Go.Proofs.YthfpekhpeiebjaaGreatDoor
open Go.RowKit Go.Sx
def cutN : List UInt8 → List UInt8 × List UInt8 × Bool
 | [] => ([], [], false)
 | c :: r => if c = 10 then ([], r, true) else (c :: (cutN r).1, (cutN r).2.1, (cutN r).2.2)
theorem cut_cutN : ∀ t : List UInt8, Lib.cut t [10] = cutN t
 | [] => by simp [Lib.cut, Lib.index, cutN]
 | c :: r => by
  have ih := cut_cutN r
  have hg := Lib.index_ge r [10]
  unfold cutN
  by_cases hc : c = 10
  ·subst hc
   have hi : Lib.index (10 :: r) [10] = 0 := by unfold Lib.index; rw [if_pos (by simp [List.isPrefixOf])]
   simp [Lib.cut, hi]
  have hp : List.isPrefixOf [10] (c :: r) = false := by simp [List.isPrefixOf, Ne.symm hc]
  rw [if_neg hc, ← ih]
  by_cases h1 : Lib.index r [10] = -1
  ·have hi : Lib.index (c :: r) [10] = -1 := by unfold Lib.index; rw [if_neg (by simp [hp]), if_pos (by simp [h1])]
   simp [Lib.cut, hi, h1]
  have hi : Lib.index (c :: r) [10] = Lib.index r [10] + 1 := by
   conv => lhs; unfold Lib.index
   rw [if_neg (by simp [hp]), if_neg (by simp [h1])]
  obtain ⟨i, hi2⟩ : ∃ i : Nat, Lib.index r [10] = i := ⟨_, (Int.toNat_of_nonneg (by omega)).symm⟩
  have e1 : ((i : Int) + 1).toNat = i + 1 := by omega
  simp only [Lib.cut, hi, hi2]
  rw [if_pos (by omega), if_pos (by omega), e1]
  simp
theorem cutN_len : ∀ t : List UInt8, (cutN t).1.length ≤ t.length ∧ (cutN t).2.1.length ≤ t.length ∧ ((cutN t).2.2 = true → (cutN t).2.1.length < t.length)
 | [] => by simp [cutN]
 | c :: r => by
  have ih := cutN_len r
  unfold cutN
  by_cases hc : c = 10
  ·rw [if_pos hc]
   simp
  rw [if_neg hc]
  simp only [List.length_cons]
  refine ⟨by omega, by omega, fun h => ?_⟩
  have := ih.2.2 h
  omega
theorem cut_any {t ln rs : List UInt8} {en : Bool} (h : cutN t = (ln, rs, en)) (hs : t.length ≤ 1048576) (w : World) {m : Int} (hm : w.cell? ⟨1, 0, none⟩ = some (.int .i64 m)) :
  Calls Tryz.prog 50 #[.string (mkB t), .string ⟨#[10]⟩] w fun e w' => e = .returned (.tuple #[.string (mkB ln), .string (mkB rs), .bool en]) ∧ Below w.heap.size w w' :=
 (Tryz.strings_Cut (mkB t) ⟨#[10]⟩ m w (by rw [mkB_size]; omega) hm).mono fun e w' hh => by
  obtain ⟨rfl, n, rfl⟩ := hh
  have e1 : Lib.cut (mkB t).data.toList (ByteArray.mk #[10]).data.toList = (ln, rs, en) := (cut_cutN t).trans h
  rw [e1]
  exact ⟨rfl, rfl, rfl, rfl, Nat.le_refl _, fun _ _ => rfl⟩
structure RSt where
 A : Option Addr
 n : Nat
 c : Nat
 ps : List Pn
 l : List UInt8
end Go.Proofs.YthfpekhpeiebjaaGreatDoor
end
section
namespace Go.Proofs.YthfpekhpeiebjaaGreatDoor
open Go.RowKit Go.Sx
theorem div16_all : ∀ z : Fin 256, IntKind.u8.wrap ((((z.val : Nat) : Int)).tdiv 16) = ((z.val / 16 : Nat) : Int) := by decide +kernel
theorem div16 (y : UInt8) : IntKind.u8.wrap ((y.toNat : Int).tdiv 16) = ((y.toNat / 16 : Nat) : Int) := div16_all ⟨y.toNat, y.toNat_lt⟩
theorem mod16_all : ∀ z : Fin 256, (((z.val : Nat) : Int)).tmod 16 = ((z.val % 16 : Nat) : Int) := by decide +kernel
theorem mod16 (y : UInt8) : (y.toNat : Int).tmod 16 = ((y.toNat % 16 : Nat) : Int) := mod16_all ⟨y.toNat, y.toNat_lt⟩
theorem wrap8_all : ∀ z : Fin 256, IntKind.u8.wrap ((z.val : Nat) : Int) = ((z.val : Nat) : Int) := by decide +kernel
theorem wrap8 {n : Nat} (h : n < 256) : IntKind.u8.wrap (n : Int) = (n : Int) := wrap8_all ⟨n, h⟩
def frDg (c : UInt8) (i : Nat) : Fr := [(0, .io .u8 (c.toNat : Int)), (3, .io .i64 (i : Int))]
def locDg (_ : Nat) : Sx.Loc := []
def GDg (c : UInt8) (i : Nat) (ρ : List Nat) (w : World) : Prop := noF ρ w ∧ (i ≤ 16 ∧ ∀ j, j < i → hexB j ≠ c)
def frQR (k : List UInt8) : QSt → Fr
 | ⟨i, A1, n1, c1, _⟩ => [(0, .so (mkB k)), (3, .sl A1 n1 c1), (4, .io .i64 (i : Int))]
def GQR (w0 : World) (k R : List UInt8) (s : QSt) (ρ : List Nat) (w : World) : Prop :=
 RowF w0 (fun _ => False) [] w0.heap.size 5 1 s.A s.n s.c (bw s.acc) ρ w ∧ (s.i ≤ k.length ∧ s.acc ++ ((k.drop s.i).flatMap q1 ++ [34]) = R ∧ s.n = s.acc.length ∧ s.n ≤ 1 + 4 * s.i)
theorem hexI_all : ∀ z : Fin 16, (if ((z.val : Nat) : Int) < 10 then IntKind.u8.wrap (48 + ((z.val : Nat) : Int)) else IntKind.u8.wrap (IntKind.u8.wrap (97 + ((z.val : Nat) : Int)) - 10)) = ((hexB z.val).toNat : Int) := by decide +kernel
noncomputable def B43 : Code := (Tryz.f43.body).getD .skip
noncomputable def sq43 (p : List Nat) : Go.Sx.K := .seq (sub B43 p)
set_option maxHeartbeats 4000000 in
set_option maxRecDepth 100000 in
theorem hex_any {n : Nat} (h : n < 16) (w : World) : Calls Tryz.prog 43 #[.int .u8 (n : Int)] w fun e w' => e = .returned (.int .u8 ((hexB n).toNat : Int)) ∧ Below w.heap.size w w' := by
 have hx := hexI_all ⟨n, h⟩
 simp only at hx
 refine enter (fn := Tryz.f43) (c := B43) [.io .u8 (n : Int)] Tryz.func43 rfl rfl ?_
 refine zM [0, 4] 0 ⟨.code (sub B43 [1, 0, 1]), [(sq43 [1, 1])], [(0, .io IntKind.u8 (↑n : Int)), (4, .bo (decide ((↑n : Int) < 10)))], []⟩ ?_
 rcases zB (decide ((↑n : Int) < 10)) with b0 | b0
 ·refine zR 4 b0 ?_
  refine zM [2] 0 ⟨.exit .ret, [], [(2, .io IntKind.u8 (IntKind.u8.wrap (48 + (↑n : Int))))], []⟩ ?_
  refine zE (.io IntKind.u8 (IntKind.u8.wrap (48 + (↑n : Int)))) ?_
  rw [if_pos (of_decide_eq_true b0)] at hx
  intro ρ w9 hm hf
  exact ⟨by rw [← hx]; rfl, hm.below⟩
 refine zR 4 b0 ?_
 refine zM [2] 0 ⟨.exit .ret, [], [(2, .io IntKind.u8 (IntKind.u8.wrap (IntKind.u8.wrap (97 + (↑n : Int)) - 10)))], []⟩ ?_
 refine zE (.io IntKind.u8 (IntKind.u8.wrap (IntKind.u8.wrap (97 + (↑n : Int)) - 10))) ?_
 rw [if_neg (of_decide_eq_false b0)] at hx
 intro ρ w9 hm hf
 exact ⟨by rw [← hx]; rfl, hm.below⟩
noncomputable def B109 : Code := (Tryz.f109.body).getD .skip
noncomputable def sq109 (p : List Nat) : Go.Sx.K := .seq (sub B109 p)
set_option maxHeartbeats 4000000 in
set_option maxRecDepth 100000 in
theorem digit_any (c : UInt8) (w : World) : Calls Tryz.prog 109 #[.int .u8 (c.toNat : Int)] w fun e w' => e = .returned (.int .i64 (dgI c)) ∧ Below w.heap.size w w' := by
 refine enter (fn := Tryz.f109) (c := B109) [.io .u8 (c.toNat : Int)] Tryz.func109 rfl rfl ?_
 refine zN [0, 3] 0 ⟨.code (sub B109 [1, 0, 1, 4]), [.block 0, (sq109 [1, 1])], [(0, .io IntKind.u8 (↑c.toNat : Int)), (3, .v (.int .i64 0))], []⟩ ?_
 refine At.canon _ rfl ?_
 refine At.loop (σ := Nat) (sub B109 [1, 0, 1, 4, 4]) (frDg c) locDg (GDg c) (fun i => 16 - i) 0 (by kernel_rfl) (by unfold subFr; kernel_rfl) (by kernel_rfl) (fun _ _ _ _ h => ⟨h, Nat.zero_le _, fun i hi => absurd hi (Nat.not_lt_zero i)⟩) ?_
 intro i
 refine At.pure fun ⟨h1, h2⟩ => ?_
 refine zNq [0, 3, 5] 0 ?_
 rcases zB (decide ((↑i : Int) < 16)) with b0 | b0
 ·refine zR 5 b0 ?_
  refine zN [0, 3, 9] 0 ⟨pops B109 [1, 0, 1, 4, 4, 1, 0, 4, 0] 2, [(sq109 [1, 0, 1, 4, 4, 1, 0, 4, 1]), .block 1, (sq109 [1, 0, 1, 4, 4, 1, 1]), .next (Sx.Next w.heap.size w Tryz.f109.ntmps (frDg c) locDg (GDg c) (fun i => 16 - i) i), .block 0, (sq109 [1, 1])], [(0, .io IntKind.u8 (↑c.toNat : Int)), (3, .io .i64 (↑i : Int)), (9, .io IntKind.u8 (IntKind.u8.wrap (↑i : Int)))], []⟩ ?_
  have hi : i < 16 := by have := of_decide_eq_true b0; omega
  clear b0
  rw [wrap8 (by omega)]
  refine zC noF_stable 43 [.io .u8 (i : Int)] (.io .u8 ((hexB i).toNat : Int)) (fun _ _ w1 _ _ => hex_any hi w1) ?_
  refine zNq [0, 3, 12] 0 ?_
  rcases zB ((↑(hexB i).toNat : Int) == (↑c.toNat : Int)) with b0 | b0
  ·refine zR 12 b0 ?_
   refine zN [2] 0 ⟨.exit .ret, [], [(2, .io .i64 (↑i : Int))], []⟩ ?_
   refine zE (.io .i64 (↑i : Int)) ?_
   have he : hexB i = c := UInt8.toNat_inj.1 (by simp at b0; omega)
   have hd : dg c = some i := by rw [← he]; exact dg_hex ⟨i, hi⟩
   intro ρ w9 hm hf
   exact ⟨by simp only [dgI, hd]; rfl, hm.below⟩
  refine zR 12 b0 ?_
  refine zN [0, 3] 0 ⟨.exit .normal, [.next (Sx.Next w.heap.size w Tryz.f109.ntmps (frDg c) locDg (GDg c) (fun i => 16 - i) i), .block 0, (sq109 [1, 1])], [(0, .io IntKind.u8 (↑c.toNat : Int)), (3, .io .i64 (IntKind.i64.wrap ((↑i : Int) + 1)))], []⟩ ?_
  have he : hexB i ≠ c := fun e => by rw [e] at b0; simp at b0
  have hw3 : IntKind.i64.wrap ((i : Int) + 1) = ((i + 1 : Nat) : Int) := by
   rw [wrap63 (by omega) (by omega)]
   omega
  rw [hw3]
  refine At.next (σ := Nat) (i + 1) rfl rfl (by unfold subFr; kernel_rfl) (by kernel_rfl) ?_ ?_
  ·intro ρ a' w' hi' hf
   exact ⟨hf, by omega, fun j hj => by
    by_cases hji : j = i
    ·subst hji; exact he
    exact h2 j (by omega)⟩
  show 16 - (i + 1) < 16 - i
  omega
 refine zR 5 b0 ?_
 refine zN [2] 0 ⟨.exit .ret, [], [(2, .v (.int .i64 (-1)))], []⟩ ?_
 refine zE (.v (.int .i64 (-1))) ?_
 have hi : ¬ (i : Int) < 16 := of_decide_eq_false b0
 have hd : dg c = none := by
  cases hd : dg c with
  | none => rfl
  | some j => exact absurd (dg_lt hd).2 (h2 j (by have := (dg_lt hd).1; omega))
 intro ρ w9 hm hf
 exact ⟨by simp only [dgI, hd]; rfl, hm.below⟩
noncomputable def B20 : Code := (Tryz.f20.body).getD .skip
noncomputable def sq20 (p : List Nat) : Go.Sx.K := .seq (sub B20 p)
set_option maxHeartbeats 20000000 in
set_option maxRecDepth 100000 in
theorem rquote_any (k : List UInt8) (hk : k.length ≤ 1048576) (w : World) :
  Calls Tryz.prog 20 #[.string (mkB k)] w fun e w' => e = .returned (.string (mkB (quoteB k))) ∧ Below w.heap.size w w' := by
 refine enter (fn := Tryz.f20) (c := B20) [.so (mkB k)] Tryz.func20 rfl rfl ?_
 refine zN [0, 3, 4] 1 ⟨.code (sub B20 [1, 1, 0, 1, 4]), [.block 0, (sq20 pAD18)], [(0, .so (mkB k)), (3, .ls 0 0 1 1), (4, .v (.int .i64 0))], [([.v (.int IntKind.u8 34)], 5)]⟩ ?_
 refine At.lsRow1 3 [0, 4] 0 1 5 1 [.v (.int .u8 34)] [.int .u8 34] rfl rfl rfl rfl rfl (by decide) (fun _ => rfl) (by kernel_rfl) ?_
 intro A
 generalize hR : quoteB k = R
 refine At.canon _ rfl ?_
 refine At.loop (σ := QSt) (sub B20 [1, 1, 0, 1, 4, 4]) (frQR k) locQ (GQR w k R) (muQ k) ⟨0, A, 1, 1, [34]⟩ (by kernel_rfl) (by unfold subFr; kernel_rfl) (by kernel_rfl) (fun _ _ _ _ h => ⟨h, Nat.zero_le _, hR, rfl, (by decide : (1 : Nat) ≤ 1 + 4 * 0)⟩) ?_
 clear hR
 rintro ⟨i, A1, n1, c1, acc⟩
 refine At.pure fun ⟨h1, h2, h3, h4⟩ => ?_
 simp only at h1 h2 h3 h4
 refine zTq RowF.stable RowF.fewer [0, 3, 4, 10] 0 ?_
 rcases zB (decide ((↑i : Int) < (↑(mkB k).size : Int))) with b0 | b0
 ·refine zR 10 b0 ?_
  let kn0 : K := .next (Sx.Next w.heap.size w Tryz.f20.ntmps (frQR k) locQ (GQR w k R) (muQ k) (QSt.mk i A1 n1 c1 acc))
  refine zF [0, 3, 4, 13, 14] 0 ⟨pops B20 [1, 1, 0, 1, 4, 4, 1, 0, 4, 0] 2, [(sq20 [1, 1, 0, 1, 4, 4, 1, 0, 4, 1]), .block 1, (sq20 pAD10), kn0, .block 0, (sq20 pAD18)], [(0, .so (mkB k)), (3, .sl A1 n1 c1), (4, .io .i64 (↑i : Int)), (13, .so (mkB k)), (14, .io .i64 (↑i : Int))], []⟩ ?_
  have hi : i < k.length := by have := of_decide_eq_true b0; rw [mkB_size] at this; omega
  clear b0
  obtain ⟨y, hz⟩ : ∃ y, k[i]? = some y := ⟨_, List.getElem?_eq_getElem hi⟩
  have hy := y.toNat_lt
  rw [drop_at hz, List.flatMap_cons] at h2
  refine At.six (mkB k) (i : Int) y (by kernel_rfl) (by omega) (by rw [Int.toNat_natCast]; exact hz) RowF.stable ?_
  refine zTq RowF.stable RowF.fewer [0, 3, 4, 5, 18] 0 ?_
  rcases zB (decide ((↑y.toNat : Int) ≥ 32)) with b0 | b0
  ·refine zR 18 b0 ?_
   refine zF [0, 3, 4, 5, 22] 0 ⟨pops B20 pAD4 7, [(sq20 pAD5), .block 1, (sq20 pAD10), kn0, .block 0, (sq20 pAD18)], [(0, .so (mkB k)), (3, .sl A1 n1 c1), (4, .io .i64 (↑i : Int)), (5, .io IntKind.u8 (↑y.toNat : Int)), (22, .bo (decide ((↑y.toNat : Int) ≤ 126)))], []⟩ ?_
   rcases zB (decide ((↑y.toNat : Int) ≤ 126)) with b1 | b1
   ·refine zR 22 b1 ?_
    refine zTq RowF.stable RowF.fewer [0, 3, 4, 5, 26] 0 ?_
    rcases zB ((↑y.toNat : Int) != 34) with b2 | b2
    ·refine zR 26 b2 ?_
     refine zF [0, 3, 4, 5, 29] 0 ⟨.code (sub B20 pAD5), [.block 1, (sq20 pAD10), kn0, .block 0, (sq20 pAD18)], [(0, .so (mkB k)), (3, .sl A1 n1 c1), (4, .io .i64 (↑i : Int)), (5, .io IntKind.u8 (↑y.toNat : Int)), (29, .bo ((↑y.toNat : Int) != 92))], []⟩ ?_
     rcases zB ((↑y.toNat : Int) != 92) with b3 | b3
     ·refine zR 29 b3 ?_
      refine zF [0, 4, 30, 32] 1 ⟨pops B20 [1, 1, 0, 1, 4, 4, 1, 0, 4, 1, 1, 2] 3, [.block 1, (sq20 pAD10), kn0, .block 0, (sq20 pAD18)], [(0, .so (mkB k)), (4, .io .i64 (↑i : Int)), (30, .sl A1 n1 c1), (32, .ls 0 0 1 1)], [([.io IntKind.u8 (↑y.toNat : Int)], 5)]⟩ ?_
      refine At.app (55) (5) (1) (1) (A1) (n1) (c1) (1) ([.io IntKind.u8 (↑y.toNat : Int)]) _ _ _ _ ([.int IntKind.u8 (↑y.toNat : Int)]) (by kernel_rfl) (fun ρ => by kernel_rfl) (by first | omega | (simp only [Go.maxLen]; omega)) (by first | omega | (simp only [Go.maxLen]; omega)) (by first | omega | (simp only [Go.maxLen]; omega)) fun A4 c4 => ?_
      refine zF [0, 3, 4] 0 ⟨.exit .normal, [kn0, .block 0, (sq20 pAD18)], [(0, .so (mkB k)), (3, .sl A4 (n1 + 1) c4), (4, .io .i64 (IntKind.i64.wrap ((↑i : Int) + 1)))], []⟩ ?_
      have hpl : plainC y = true := by
       simp only [plainC, Bool.and_eq_true, decide_eq_true_eq]
       have h32 := of_decide_eq_true b0
       have h126 := of_decide_eq_true b1
       simp at b2 b3
       refine ⟨by omega, by omega, by omega, by omega⟩
      have hq1 : q1 y = [y] := by unfold q1; rw [hpl]; rfl
      have hw3 : IntKind.i64.wrap ((i : Int) + 1) = ((i + 1 : Nat) : Int) := by
       rw [wrap63 (by omega) (by omega)]
       omega
      rw [hw3]
      refine At.next (σ := QSt) ⟨i + 1, A4, n1 + 1, c4, acc ++ [y]⟩ rfl rfl (by unfold subFr; kernel_rfl) (by kernel_rfl) ?_ ?_
      ·intro ρ a' w' hi' hf
       exact ⟨by rw [bw_app]; exact hf, by simp only; omega, by rw [← h2, hq1]; simp, by simp only [List.length_append, List.length_singleton]; omega, by simp only; omega⟩
      simp only [muQ]
      omega
     refine zR 29 b3 ?_
     refine zF [0, 4, 5, 34, 36] 0 ⟨pops B20 pAD3 3, [.block 1, (sq20 pAD10), kn0, .block 0, (sq20 pAD18)], [(0, .so (mkB k)), (4, .io .i64 (↑i : Int)), (5, .io IntKind.u8 (↑y.toNat : Int)), (34, .sl A1 n1 c1), (36, .io IntKind.u8 (IntKind.u8.wrap ((↑y.toNat : Int).tdiv 16)))], []⟩ ?_
     have hpl : plainC y = false := by
      simp only [plainC]
      first | (have := of_decide_eq_false b0; rw [decide_eq_false (p := 32 ≤ y.toNat) (by omega)]; rfl) | (have := of_decide_eq_false b1; rw [decide_eq_false (p := y.toNat ≤ 126) (by omega), Bool.false_and, Bool.and_false]) | (rw [decide_eq_false (p := y.toNat ≠ 34) (by simp at b2 ⊢; omega), Bool.false_and, Bool.and_false, Bool.and_false]) | (rw [decide_eq_false (p := y.toNat ≠ 92) (by simp at b3 ⊢; omega), Bool.and_false, Bool.and_false, Bool.and_false])
     have hq1 : q1 y = [92, 120, hexB (y.toNat / 16), hexB (y.toNat % 16)] := by unfold q1; rw [hpl]; rfl
     rw [div16 y]
     refine zC RowF.stable 43 [.io .u8 ((y.toNat / 16 : Nat) : Int)] (.io .u8 ((hexB (y.toNat / 16)).toNat : Int)) (fun _ _ w1 _ _ => hex_any (by omega) w1) ?_
     refine zF [0, 4, 34, 37, 39] 0 ⟨pops B20 pAD3 6, [.block 1, (sq20 pAD10), kn0, .block 0, (sq20 pAD18)], [(0, .so (mkB k)), (4, .io .i64 (↑i : Int)), (34, .sl A1 n1 c1), (37, .io IntKind.u8 (↑(hexB (y.toNat / 16)).toNat : Int)), (39, .io IntKind.u8 ((↑y.toNat : Int).tmod 16))], []⟩ ?_
     rw [mod16 y]
     refine zC RowF.stable 43 [.io .u8 ((y.toNat % 16 : Nat) : Int)] (.io .u8 ((hexB (y.toNat % 16)).toNat : Int)) (fun _ _ w1 _ _ => hex_any (by omega) w1) ?_
     refine zF [0, 4, 34, 41] 1 ⟨pops B20 pAD3 8, [.block 1, (sq20 pAD10), kn0, .block 0, (sq20 pAD18)], [(0, .so (mkB k)), (4, .io .i64 (↑i : Int)), (34, .sl A1 n1 c1), (41, .ls 0 0 4 4)], [([.v (.int IntKind.u8 92), .v (.int IntKind.u8 120), .io IntKind.u8 (↑(hexB (y.toNat / 16)).toNat : Int), .io IntKind.u8 (↑(hexB (y.toNat % 16)).toNat : Int)], 5)]⟩ ?_
     refine At.app (55) (5) (1) (1) (A1) (n1) (c1) (4) ([.v (.int IntKind.u8 92), .v (.int IntKind.u8 120), .io IntKind.u8 (↑(hexB (y.toNat / 16)).toNat : Int), .io IntKind.u8 (↑(hexB (y.toNat % 16)).toNat : Int)]) _ _ _ _ ([.int IntKind.u8 92, .int IntKind.u8 120, .int IntKind.u8 (↑(hexB (y.toNat / 16)).toNat : Int), .int IntKind.u8 (↑(hexB (y.toNat % 16)).toNat : Int)]) (by kernel_rfl) (fun ρ => by kernel_rfl) (by first | omega | (simp only [Go.maxLen]; omega)) (by first | omega | (simp only [Go.maxLen]; omega)) (by first | omega | (simp only [Go.maxLen]; omega)) fun A0 c0 => ?_
     refine zF [0, 3, 4] 0 ⟨.exit .normal, [kn0, .block 0, (sq20 pAD18)], [(0, .so (mkB k)), (3, .sl A0 (n1 + 4) c0), (4, .io .i64 (IntKind.i64.wrap ((↑i : Int) + 1)))], []⟩ ?_
     have hw3 : IntKind.i64.wrap ((i : Int) + 1) = ((i + 1 : Nat) : Int) := by
      rw [wrap63 (by omega) (by omega)]
      omega
     rw [hw3]
     refine At.next (σ := QSt) ⟨i + 1, A0, n1 + 4, c0, acc ++ q1 y⟩ rfl rfl (by unfold subFr; kernel_rfl) (by kernel_rfl) ?_ ?_
     ·intro ρ a' w' hi' hf
      exact ⟨by rw [hq1, bw_app]; exact hf, by simp only; omega, by rw [← h2]; simp, by rw [hq1]; simp only [List.length_append, List.length_cons, List.length_nil]; omega, by simp only; omega⟩
     simp only [muQ]
     omega
    refine zR 26 b2 ?_
    refine zF [0, 4, 5, 34, 36] 0 ⟨pops B20 pAD3 3, [.block 1, (sq20 pAD10), kn0, .block 0, (sq20 pAD18)], [(0, .so (mkB k)), (4, .io .i64 (↑i : Int)), (5, .io IntKind.u8 (↑y.toNat : Int)), (34, .sl A1 n1 c1), (36, .io IntKind.u8 (IntKind.u8.wrap ((↑y.toNat : Int).tdiv 16)))], []⟩ ?_
    have hpl : plainC y = false := by
     simp only [plainC]
     first | (have := of_decide_eq_false b0; rw [decide_eq_false (p := 32 ≤ y.toNat) (by omega)]; rfl) | (have := of_decide_eq_false b1; rw [decide_eq_false (p := y.toNat ≤ 126) (by omega), Bool.false_and, Bool.and_false]) | (rw [decide_eq_false (p := y.toNat ≠ 34) (by simp at b2 ⊢; omega), Bool.false_and, Bool.and_false, Bool.and_false]) | (rw [decide_eq_false (p := y.toNat ≠ 92) (by simp at b3 ⊢; omega), Bool.and_false, Bool.and_false, Bool.and_false])
    have hq1 : q1 y = [92, 120, hexB (y.toNat / 16), hexB (y.toNat % 16)] := by unfold q1; rw [hpl]; rfl
    rw [div16 y]
    refine zC RowF.stable 43 [.io .u8 ((y.toNat / 16 : Nat) : Int)] (.io .u8 ((hexB (y.toNat / 16)).toNat : Int)) (fun _ _ w1 _ _ => hex_any (by omega) w1) ?_
    refine zF [0, 4, 34, 37, 39] 0 ⟨pops B20 pAD3 6, [.block 1, (sq20 pAD10), kn0, .block 0, (sq20 pAD18)], [(0, .so (mkB k)), (4, .io .i64 (↑i : Int)), (34, .sl A1 n1 c1), (37, .io IntKind.u8 (↑(hexB (y.toNat / 16)).toNat : Int)), (39, .io IntKind.u8 ((↑y.toNat : Int).tmod 16))], []⟩ ?_
    rw [mod16 y]
    refine zC RowF.stable 43 [.io .u8 ((y.toNat % 16 : Nat) : Int)] (.io .u8 ((hexB (y.toNat % 16)).toNat : Int)) (fun _ _ w1 _ _ => hex_any (by omega) w1) ?_
    refine zF [0, 4, 34, 41] 1 ⟨pops B20 pAD3 8, [.block 1, (sq20 pAD10), kn0, .block 0, (sq20 pAD18)], [(0, .so (mkB k)), (4, .io .i64 (↑i : Int)), (34, .sl A1 n1 c1), (41, .ls 0 0 4 4)], [([.v (.int IntKind.u8 92), .v (.int IntKind.u8 120), .io IntKind.u8 (↑(hexB (y.toNat / 16)).toNat : Int), .io IntKind.u8 (↑(hexB (y.toNat % 16)).toNat : Int)], 5)]⟩ ?_
    refine At.app (55) (5) (1) (1) (A1) (n1) (c1) (4) ([.v (.int IntKind.u8 92), .v (.int IntKind.u8 120), .io IntKind.u8 (↑(hexB (y.toNat / 16)).toNat : Int), .io IntKind.u8 (↑(hexB (y.toNat % 16)).toNat : Int)]) _ _ _ _ ([.int IntKind.u8 92, .int IntKind.u8 120, .int IntKind.u8 (↑(hexB (y.toNat / 16)).toNat : Int), .int IntKind.u8 (↑(hexB (y.toNat % 16)).toNat : Int)]) (by kernel_rfl) (fun ρ => by kernel_rfl) (by first | omega | (simp only [Go.maxLen]; omega)) (by first | omega | (simp only [Go.maxLen]; omega)) (by first | omega | (simp only [Go.maxLen]; omega)) fun A0 c0 => ?_
    refine zF [0, 3, 4] 0 ⟨.exit .normal, [kn0, .block 0, (sq20 pAD18)], [(0, .so (mkB k)), (3, .sl A0 (n1 + 4) c0), (4, .io .i64 (IntKind.i64.wrap ((↑i : Int) + 1)))], []⟩ ?_
    have hw3 : IntKind.i64.wrap ((i : Int) + 1) = ((i + 1 : Nat) : Int) := by
     rw [wrap63 (by omega) (by omega)]
     omega
    rw [hw3]
    refine At.next (σ := QSt) ⟨i + 1, A0, n1 + 4, c0, acc ++ q1 y⟩ rfl rfl (by unfold subFr; kernel_rfl) (by kernel_rfl) ?_ ?_
    ·intro ρ a' w' hi' hf
     exact ⟨by rw [hq1, bw_app]; exact hf, by simp only; omega, by rw [← h2]; simp, by rw [hq1]; simp only [List.length_append, List.length_cons, List.length_nil]; omega, by simp only; omega⟩
    simp only [muQ]
    omega
   refine zR 22 b1 ?_
   refine zF [0, 4, 5, 34, 36] 0 ⟨pops B20 pAD3 3, [.block 1, (sq20 pAD10), kn0, .block 0, (sq20 pAD18)], [(0, .so (mkB k)), (4, .io .i64 (↑i : Int)), (5, .io IntKind.u8 (↑y.toNat : Int)), (34, .sl A1 n1 c1), (36, .io IntKind.u8 (IntKind.u8.wrap ((↑y.toNat : Int).tdiv 16)))], []⟩ ?_
   have hpl : plainC y = false := by
    simp only [plainC]
    first | (have := of_decide_eq_false b0; rw [decide_eq_false (p := 32 ≤ y.toNat) (by omega)]; rfl) | (have := of_decide_eq_false b1; rw [decide_eq_false (p := y.toNat ≤ 126) (by omega), Bool.false_and, Bool.and_false]) | (rw [decide_eq_false (p := y.toNat ≠ 34) (by simp at b2 ⊢; omega), Bool.false_and, Bool.and_false, Bool.and_false]) | (rw [decide_eq_false (p := y.toNat ≠ 92) (by simp at b3 ⊢; omega), Bool.and_false, Bool.and_false, Bool.and_false])
   have hq1 : q1 y = [92, 120, hexB (y.toNat / 16), hexB (y.toNat % 16)] := by unfold q1; rw [hpl]; rfl
   rw [div16 y]
   refine zC RowF.stable 43 [.io .u8 ((y.toNat / 16 : Nat) : Int)] (.io .u8 ((hexB (y.toNat / 16)).toNat : Int)) (fun _ _ w1 _ _ => hex_any (by omega) w1) ?_
   refine zF [0, 4, 34, 37, 39] 0 ⟨pops B20 pAD3 6, [.block 1, (sq20 pAD10), kn0, .block 0, (sq20 pAD18)], [(0, .so (mkB k)), (4, .io .i64 (↑i : Int)), (34, .sl A1 n1 c1), (37, .io IntKind.u8 (↑(hexB (y.toNat / 16)).toNat : Int)), (39, .io IntKind.u8 ((↑y.toNat : Int).tmod 16))], []⟩ ?_
   rw [mod16 y]
   refine zC RowF.stable 43 [.io .u8 ((y.toNat % 16 : Nat) : Int)] (.io .u8 ((hexB (y.toNat % 16)).toNat : Int)) (fun _ _ w1 _ _ => hex_any (by omega) w1) ?_
   refine zF [0, 4, 34, 41] 1 ⟨pops B20 pAD3 8, [.block 1, (sq20 pAD10), kn0, .block 0, (sq20 pAD18)], [(0, .so (mkB k)), (4, .io .i64 (↑i : Int)), (34, .sl A1 n1 c1), (41, .ls 0 0 4 4)], [([.v (.int IntKind.u8 92), .v (.int IntKind.u8 120), .io IntKind.u8 (↑(hexB (y.toNat / 16)).toNat : Int), .io IntKind.u8 (↑(hexB (y.toNat % 16)).toNat : Int)], 5)]⟩ ?_
   refine At.app (55) (5) (1) (1) (A1) (n1) (c1) (4) ([.v (.int IntKind.u8 92), .v (.int IntKind.u8 120), .io IntKind.u8 (↑(hexB (y.toNat / 16)).toNat : Int), .io IntKind.u8 (↑(hexB (y.toNat % 16)).toNat : Int)]) _ _ _ _ ([.int IntKind.u8 92, .int IntKind.u8 120, .int IntKind.u8 (↑(hexB (y.toNat / 16)).toNat : Int), .int IntKind.u8 (↑(hexB (y.toNat % 16)).toNat : Int)]) (by kernel_rfl) (fun ρ => by kernel_rfl) (by first | omega | (simp only [Go.maxLen]; omega)) (by first | omega | (simp only [Go.maxLen]; omega)) (by first | omega | (simp only [Go.maxLen]; omega)) fun A0 c0 => ?_
   refine zF [0, 3, 4] 0 ⟨.exit .normal, [kn0, .block 0, (sq20 pAD18)], [(0, .so (mkB k)), (3, .sl A0 (n1 + 4) c0), (4, .io .i64 (IntKind.i64.wrap ((↑i : Int) + 1)))], []⟩ ?_
   have hw3 : IntKind.i64.wrap ((i : Int) + 1) = ((i + 1 : Nat) : Int) := by
    rw [wrap63 (by omega) (by omega)]
    omega
   rw [hw3]
   refine At.next (σ := QSt) ⟨i + 1, A0, n1 + 4, c0, acc ++ q1 y⟩ rfl rfl (by unfold subFr; kernel_rfl) (by kernel_rfl) ?_ ?_
   ·intro ρ a' w' hi' hf
    exact ⟨by rw [hq1, bw_app]; exact hf, by simp only; omega, by rw [← h2]; simp, by rw [hq1]; simp only [List.length_append, List.length_cons, List.length_nil]; omega, by simp only; omega⟩
   simp only [muQ]
   omega
  refine zR 18 b0 ?_
  refine zF [0, 4, 5, 34, 36] 0 ⟨pops B20 pAD3 3, [.block 1, (sq20 pAD10), kn0, .block 0, (sq20 pAD18)], [(0, .so (mkB k)), (4, .io .i64 (↑i : Int)), (5, .io IntKind.u8 (↑y.toNat : Int)), (34, .sl A1 n1 c1), (36, .io IntKind.u8 (IntKind.u8.wrap ((↑y.toNat : Int).tdiv 16)))], []⟩ ?_
  have hpl : plainC y = false := by
   simp only [plainC]
   first | (have := of_decide_eq_false b0; rw [decide_eq_false (p := 32 ≤ y.toNat) (by omega)]; rfl) | (have := of_decide_eq_false b1; rw [decide_eq_false (p := y.toNat ≤ 126) (by omega), Bool.false_and, Bool.and_false]) | (rw [decide_eq_false (p := y.toNat ≠ 34) (by simp at b2 ⊢; omega), Bool.false_and, Bool.and_false, Bool.and_false]) | (rw [decide_eq_false (p := y.toNat ≠ 92) (by simp at b3 ⊢; omega), Bool.and_false, Bool.and_false, Bool.and_false])
  have hq1 : q1 y = [92, 120, hexB (y.toNat / 16), hexB (y.toNat % 16)] := by unfold q1; rw [hpl]; rfl
  rw [div16 y]
  refine zC RowF.stable 43 [.io .u8 ((y.toNat / 16 : Nat) : Int)] (.io .u8 ((hexB (y.toNat / 16)).toNat : Int)) (fun _ _ w1 _ _ => hex_any (by omega) w1) ?_
  refine zF [0, 4, 34, 37, 39] 0 ⟨pops B20 pAD3 6, [.block 1, (sq20 pAD10), kn0, .block 0, (sq20 pAD18)], [(0, .so (mkB k)), (4, .io .i64 (↑i : Int)), (34, .sl A1 n1 c1), (37, .io IntKind.u8 (↑(hexB (y.toNat / 16)).toNat : Int)), (39, .io IntKind.u8 ((↑y.toNat : Int).tmod 16))], []⟩ ?_
  rw [mod16 y]
  refine zC RowF.stable 43 [.io .u8 ((y.toNat % 16 : Nat) : Int)] (.io .u8 ((hexB (y.toNat % 16)).toNat : Int)) (fun _ _ w1 _ _ => hex_any (by omega) w1) ?_
  refine zF [0, 4, 34, 41] 1 ⟨pops B20 pAD3 8, [.block 1, (sq20 pAD10), kn0, .block 0, (sq20 pAD18)], [(0, .so (mkB k)), (4, .io .i64 (↑i : Int)), (34, .sl A1 n1 c1), (41, .ls 0 0 4 4)], [([.v (.int IntKind.u8 92), .v (.int IntKind.u8 120), .io IntKind.u8 (↑(hexB (y.toNat / 16)).toNat : Int), .io IntKind.u8 (↑(hexB (y.toNat % 16)).toNat : Int)], 5)]⟩ ?_
  refine At.app (55) (5) (1) (1) (A1) (n1) (c1) (4) ([.v (.int IntKind.u8 92), .v (.int IntKind.u8 120), .io IntKind.u8 (↑(hexB (y.toNat / 16)).toNat : Int), .io IntKind.u8 (↑(hexB (y.toNat % 16)).toNat : Int)]) _ _ _ _ ([.int IntKind.u8 92, .int IntKind.u8 120, .int IntKind.u8 (↑(hexB (y.toNat / 16)).toNat : Int), .int IntKind.u8 (↑(hexB (y.toNat % 16)).toNat : Int)]) (by kernel_rfl) (fun ρ => by kernel_rfl) (by first | omega | (simp only [Go.maxLen]; omega)) (by first | omega | (simp only [Go.maxLen]; omega)) (by first | omega | (simp only [Go.maxLen]; omega)) fun A0 c0 => ?_
  refine zF [0, 3, 4] 0 ⟨.exit .normal, [kn0, .block 0, (sq20 pAD18)], [(0, .so (mkB k)), (3, .sl A0 (n1 + 4) c0), (4, .io .i64 (IntKind.i64.wrap ((↑i : Int) + 1)))], []⟩ ?_
  have hw3 : IntKind.i64.wrap ((i : Int) + 1) = ((i + 1 : Nat) : Int) := by
   rw [wrap63 (by omega) (by omega)]
   omega
  rw [hw3]
  refine At.next (σ := QSt) ⟨i + 1, A0, n1 + 4, c0, acc ++ q1 y⟩ rfl rfl (by unfold subFr; kernel_rfl) (by kernel_rfl) ?_ ?_
  ·intro ρ a' w' hi' hf
   exact ⟨by rw [hq1, bw_app]; exact hf, by simp only; omega, by rw [← h2]; simp, by rw [hq1]; simp only [List.length_append, List.length_cons, List.length_nil]; omega, by simp only; omega⟩
  simp only [muQ]
  omega
 refine zR 10 b0 ?_
 refine zF [43, 44] 1 ⟨pops B20 [1, 1, 1, 0] 2, [(sq20 pAD17)], [(43, .sl A1 n1 c1), (44, .ls 0 0 1 1)], [([.v (.int IntKind.u8 34)], 5)]⟩ ?_
 refine At.app (55) (5) (1) (1) (A1) (n1) (c1) (1) ([.v (.int IntKind.u8 34)]) _ _ _ _ ([.int IntKind.u8 34]) (by kernel_rfl) (fun ρ => by kernel_rfl) (by first | omega | (simp only [Go.maxLen]; omega)) (by first | omega | (simp only [Go.maxLen]; omega)) (by first | omega | (simp only [Go.maxLen]; omega)) fun A1 c1 => ?_
 refine zF [45] 0 ⟨pops B20 [1, 1, 1, 0] 3, [(sq20 pAD17)], [(45, .sl A1 (n1 + 1) c1)], []⟩ ?_
 have hi : ¬ (i : Int) < ((mkB k).size : Int) := of_decide_eq_false b0
 rw [mkB_size] at hi
 have hd : k.drop i = [] := List.drop_eq_nil_of_le (by omega)
 rw [hd, List.flatMap_nil, List.nil_append] at h2
 refine At.mono (F' := RowF w (fun _ => False) [] w.heap.size 5 1 A1 (n1 + 1) c1 (bw (acc ++ [34]))) (fun ρ w1 h => by rw [bw_app]; exact h) ?_
 refine At.cvy A1 (n1 + 1) c1 ((acc ++ [34]).map UInt8.toNat) (.so (mkB (acc ++ [34]))) (by kernel_rfl) RowF.stable (fun ρ => by rw [strOf_map]; rfl) (fun ρ w1 hm hf => row_cw hf.1.1) ?_
 refine zF [2] 0 ⟨.exit .ret, [], [(2, .so (mkB (acc ++ [34])))], []⟩ ?_
 refine zE (.so (mkB (acc ++ [34]))) ?_
 intro ρ w9 hm hf
 exact ⟨by rw [← h2]; rfl, hm.below⟩
end Go.Proofs.YthfpekhpeiebjaaGreatDoor
end
section
namespace Go.Proofs.YthfpekhpeiebjaaGreatDoor
open Go.RowKit Go.Sx
theorem dch_all : ∀ z : Fin 10, IntKind.u8.wrap (IntKind.u64.wrap (48 + ((z.val : Nat) : Int))) = ((48 + z.val : Nat) : Int) := by decide +kernel
theorem q10 (n : Nat) (h : n < 18446744073709551616) : IntKind.u64.wrap ((n : Int).tdiv 10) = ((n / 10 : Nat) : Int) := by
 rw [Int.tdiv_eq_ediv_of_nonneg (by omega)]
 simp only [IntKind.wrap, IntKind.bits, IntKind.signed]
 simp
 omega
theorem two_byte {n j b : Nat} {ρ : List Nat} (hj : [48 + n % 10][j]? = some b) : (([.io .u8 (IntKind.u8.wrap (IntKind.u64.wrap (48 + (n : Int).tmod 10)))] : List SV)[0 + j]?).map (SV.den ρ) = some (.int .u8 (b : Int)) := by
 cases j with
 | zero =>
  simp only [List.getElem?_cons_zero, Option.some.injEq] at hj
  subst hj
  have := dch_all ⟨n % 10, by omega⟩
  simp only at this
  have e : (n : Int).tmod 10 = ((n % 10 : Nat) : Int) := by rw [Int.tmod_eq_emod_of_nonneg (by omega)]; omega
  simp only [Nat.zero_add, List.getElem?_cons_zero, Option.map_some, SV.den, e, this]
 | succ j => simp at hj
theorem one_byte {n j b : Nat} {ρ : List Nat} (hn : n < 10) (hj : [48 + n][j]? = some b) : (([.io .u8 (IntKind.u8.wrap (IntKind.u64.wrap (48 + (n : Int))))] : List SV)[0 + j]?).map (SV.den ρ) = some (.int .u8 (b : Int)) := by
 cases j with
 | zero =>
  simp only [List.getElem?_cons_zero, Option.some.injEq] at hj
  subst hj
  have := dch_all ⟨n, hn⟩
  simp only at this
  simp only [Nat.zero_add, List.getElem?_cons_zero, Option.map_some, SV.den, this]
 | succ j => simp at hj
noncomputable def B74 : Code := (Tryz.f74.body).getD .skip
noncomputable def sq74 (p : List Nat) : Go.Sx.K := .seq (sub B74 p)
set_option maxHeartbeats 4000000 in
set_option maxRecDepth 100000 in
theorem digits_any : ∀ (m n : Nat), n ≤ m → n < 18446744073709551616 → ∀ w : World, Calls Tryz.prog 74 #[.int .u64 (n : Int)] w fun e w' => e = .returned (.string (mkB (Lib.decDigits n))) ∧ Below w.heap.size w w' := by
 intro m
 induction m with
 | zero =>
  intro n hn h64 w
  refine enter (fn := Tryz.f74) (c := B74) [.io .u64 (n : Int)] Tryz.func74 rfl rfl ?_
  refine zM [0, 4] 0 ⟨.code (sub B74 [1, 0, 1]), [(sq74 [1, 1])], [(0, .io IntKind.u64 (↑n : Int)), (4, .bo (decide ((↑n : Int) < 10)))], []⟩ ?_
  rcases zB (decide ((↑n : Int) < 10)) with b0 | b0
  ·refine zR 4 b0 ?_
   refine zM [8] 1 ⟨pops B74 [1, 0, 1, 2, 0] 4, [(sq74 pAD13), (sq74 [1, 1])], [(8, .ls 0 0 1 1)], [([.io IntKind.u8 (IntKind.u8.wrap (IntKind.u64.wrap (48 + (↑n : Int))))], 5)]⟩ ?_
   have hn10 : n < 10 := by have := of_decide_eq_true b0; omega
   have hd1 := Lib.decDigits_one hn10
   refine At.cvl 0 0 1 1 [48 + n] [.io .u8 (IntKind.u8.wrap (IntKind.u64.wrap (48 + (n : Int))))] 5 (.so (mkB (Lib.decDigits n))) (by kernel_rfl) rfl noF_stable rfl (fun ρ => by rw [hd1, strOf_eq]; rfl) (fun ρ j b hj => one_byte hn10 hj) ?_
   refine zM [2] 0 ⟨.exit .ret, [], [(2, .so (mkB (Lib.decDigits n)))], []⟩ ?_
   refine zE (.so (mkB (Lib.decDigits n))) ?_
   intro ρ w9 hm hf
   exact ⟨rfl, hm.below⟩
  refine zR 4 b0 ?_
  refine zM [0] 0 ⟨.any (opsOf (sub B74 pAD19)) 11 [], [(sq74 pAD13)], [(0, .io IntKind.u64 (↑n : Int))], []⟩ ?_
  exfalso
  have := of_decide_eq_false b0
  omega
 | succ m ih =>
  intro n hn h64 w
  refine enter (fn := Tryz.f74) (c := B74) [.io .u64 (n : Int)] Tryz.func74 rfl rfl ?_
  refine zM [0, 4] 0 ⟨.code (sub B74 [1, 0, 1]), [(sq74 [1, 1])], [(0, .io IntKind.u64 (↑n : Int)), (4, .bo (decide ((↑n : Int) < 10)))], []⟩ ?_
  rcases zB (decide ((↑n : Int) < 10)) with b0 | b0
  ·refine zR 4 b0 ?_
   refine zM [8] 1 ⟨pops B74 [1, 0, 1, 2, 0] 4, [(sq74 pAD13), (sq74 [1, 1])], [(8, .ls 0 0 1 1)], [([.io IntKind.u8 (IntKind.u8.wrap (IntKind.u64.wrap (48 + (↑n : Int))))], 5)]⟩ ?_
   have hn10 : n < 10 := by have := of_decide_eq_true b0; omega
   have hd1 := Lib.decDigits_one hn10
   refine At.cvl 0 0 1 1 [48 + n] [.io .u8 (IntKind.u8.wrap (IntKind.u64.wrap (48 + (n : Int))))] 5 (.so (mkB (Lib.decDigits n))) (by kernel_rfl) rfl noF_stable rfl (fun ρ => by rw [hd1, strOf_eq]; rfl) (fun ρ j b hj => one_byte hn10 hj) ?_
   refine zM [2] 0 ⟨.exit .ret, [], [(2, .so (mkB (Lib.decDigits n)))], []⟩ ?_
   refine zE (.so (mkB (Lib.decDigits n))) ?_
   intro ρ w9 hm hf
   exact ⟨rfl, hm.below⟩
  refine zR 4 b0 ?_
  refine zM [0] 0 ⟨.any (opsOf (sub B74 pAD19)) 11 [], [(sq74 pAD13)], [(0, .io IntKind.u64 (↑n : Int))], []⟩ ?_
  have hn10 : ¬ n < 10 := by have := of_decide_eq_false b0; omega
  refine At.cutN (σ := Unit) (fun _ => [(2, .so (mkB (Lib.decDigits n)))]) (fun _ => []) (fun _ => noF) rfl ?_ (fun _ => ?_)
  ·refine At.purify0 (fun e a w h => h.1) 20 ?_
   refine zN [11, 16] 0 ⟨.any (opsOf (sub B74 pAD19)) 5 [6, 5, 4, 3, 1, 0], [], [(11, .io IntKind.u64 (IntKind.u64.wrap ((↑n : Int).tdiv 10))), (16, .io IntKind.u8 (IntKind.u8.wrap (IntKind.u64.wrap (48 + (↑n : Int).tmod 10))))], []⟩ ?_
   refine At.fork [2, 7] rfl (by kernel_rfl) rfl (allOf.cons ?_ (allOf.cons ?_ allOf.nil))
   ·refine zN [11, 16] 0 ⟨.ops (opsOf (sub B74 pAD19)) (((opsOf (sub B74 pAD19)).toList.drop 2).take 1), [.any (opsOf (sub B74 pAD19)) 4 [2, 6, 5, 4, 3, 1, 0]], [(11, .io IntKind.u64 (IntKind.u64.wrap ((↑n : Int).tdiv 10))), (16, .io IntKind.u8 (IntKind.u8.wrap (IntKind.u64.wrap (48 + (↑n : Int).tmod 10))))], []⟩ ?_
    rw [q10 n (by omega)]
    refine zC noF_stable 74 [.io .u64 ((n / 10 : Nat) : Int)] (.so (mkB (Lib.decDigits (n / 10)))) (fun _ _ w1 _ _ => ih (n / 10) (by omega) (by omega) w1) ?_
    refine zN [12, 17] 1 ⟨.ops (opsOf (sub B74 pAD19)) (((opsOf (sub B74 pAD19)).toList.drop 8).take 1), [.any (opsOf (sub B74 pAD19)) 2 [8, 7, 2, 6, 5, 4, 3, 1, 0]], [(12, .so (mkB (Lib.decDigits (n / 10)))), (17, .ls 0 0 1 1)], [([.io IntKind.u8 (IntKind.u8.wrap (IntKind.u64.wrap (48 + (↑n : Int).tmod 10)))], 5)]⟩ ?_
    refine At.cvl 0 0 1 1 [48 + n % 10] [.io .u8 (IntKind.u8.wrap (IntKind.u64.wrap (48 + (n : Int).tmod 10)))] 5 (.so (mkB [UInt8.ofNat (48 + n % 10)])) (by kernel_rfl) rfl noF_stable rfl (fun ρ => by rw [strOf_eq]; rfl) (fun ρ j b hj => two_byte hj) ?_
    refine zN [12, 18] 0 ⟨.ops (opsOf (sub B74 pAD19)) (((opsOf (sub B74 pAD19)).toList.drop 9).take 1), [.any (opsOf (sub B74 pAD19)) 1 [9, 8, 7, 2, 6, 5, 4, 3, 1, 0]], [(12, .so (mkB (Lib.decDigits (n / 10)))), (18, .so (mkB [UInt8.ofNat (48 + n % 10)]))], []⟩ ?_
    refine catW (Lib.decDigits (n / 10)) [UInt8.ofNat (48 + n % 10)] 19 1 (by kernel_rfl) (dec_len (by omega)) (by simp) (by decide) noF_stable fun t ht _ => ?_
    have ht2 : t = Lib.decDigits n := by rw [ht, Lib.decDigits.eq_1 n, dif_neg hn10]
    subst ht2
    refine zN [2] 0 ⟨.exit .normal, [], [(2, .so (mkB (Lib.decDigits n)))], []⟩ ?_
    exact At.fin () rfl rfl (by unfold subFr; kernel_rfl) rfl (fun _ _ _ _ h => trivial)
   refine zN [11, 17] 1 ⟨.any (opsOf (sub B74 pAD19)) 4 [7, 6, 5, 4, 3, 1, 0], [], [(11, .io IntKind.u64 (IntKind.u64.wrap ((↑n : Int).tdiv 10))), (17, .ls 0 0 1 1)], [([.io IntKind.u8 (IntKind.u8.wrap (IntKind.u64.wrap (48 + (↑n : Int).tmod 10)))], 5)]⟩ ?_
   refine At.fork [2, 8] rfl (by kernel_rfl) rfl (allOf.cons ?_ (allOf.cons ?_ allOf.nil))
   ·refine zN [11, 17] 1 ⟨.ops (opsOf (sub B74 pAD19)) (((opsOf (sub B74 pAD19)).toList.drop 2).take 1), [.any (opsOf (sub B74 pAD19)) 3 [2, 7, 6, 5, 4, 3, 1, 0]], [(11, .io IntKind.u64 (IntKind.u64.wrap ((↑n : Int).tdiv 10))), (17, .ls 0 0 1 1)], [([.io IntKind.u8 (IntKind.u8.wrap (IntKind.u64.wrap (48 + (↑n : Int).tmod 10)))], 5)]⟩ ?_
    rw [q10 n (by omega)]
    refine zC noF_stable 74 [.io .u64 ((n / 10 : Nat) : Int)] (.so (mkB (Lib.decDigits (n / 10)))) (fun _ _ w1 _ _ => ih (n / 10) (by omega) (by omega) w1) ?_
    refine zN [12, 17] 1 ⟨.ops (opsOf (sub B74 pAD19)) (((opsOf (sub B74 pAD19)).toList.drop 8).take 1), [.any (opsOf (sub B74 pAD19)) 2 [8, 2, 7, 6, 5, 4, 3, 1, 0]], [(12, .so (mkB (Lib.decDigits (n / 10)))), (17, .ls 0 0 1 1)], [([.io IntKind.u8 (IntKind.u8.wrap (IntKind.u64.wrap (48 + (↑n : Int).tmod 10)))], 5)]⟩ ?_
    refine At.cvl 0 0 1 1 [48 + n % 10] [.io .u8 (IntKind.u8.wrap (IntKind.u64.wrap (48 + (n : Int).tmod 10)))] 5 (.so (mkB [UInt8.ofNat (48 + n % 10)])) (by kernel_rfl) rfl noF_stable rfl (fun ρ => by rw [strOf_eq]; rfl) (fun ρ j b hj => two_byte hj) ?_
    refine zN [12, 18] 0 ⟨.ops (opsOf (sub B74 pAD19)) (((opsOf (sub B74 pAD19)).toList.drop 9).take 1), [.any (opsOf (sub B74 pAD19)) 1 [9, 8, 2, 7, 6, 5, 4, 3, 1, 0]], [(12, .so (mkB (Lib.decDigits (n / 10)))), (18, .so (mkB [UInt8.ofNat (48 + n % 10)]))], []⟩ ?_
    refine catW (Lib.decDigits (n / 10)) [UInt8.ofNat (48 + n % 10)] 19 1 (by kernel_rfl) (dec_len (by omega)) (by simp) (by decide) noF_stable fun t ht _ => ?_
    have ht2 : t = Lib.decDigits n := by rw [ht, Lib.decDigits.eq_1 n, dif_neg hn10]
    subst ht2
    refine zN [2] 0 ⟨.exit .normal, [], [(2, .so (mkB (Lib.decDigits n)))], []⟩ ?_
    exact At.fin () rfl rfl (by unfold subFr; kernel_rfl) rfl (fun _ _ _ _ h => trivial)
   refine zN [11, 17] 1 ⟨.ops (opsOf (sub B74 pAD19)) (((opsOf (sub B74 pAD19)).toList.drop 8).take 1), [.any (opsOf (sub B74 pAD19)) 3 [8, 7, 6, 5, 4, 3, 1, 0]], [(11, .io IntKind.u64 (IntKind.u64.wrap ((↑n : Int).tdiv 10))), (17, .ls 0 0 1 1)], [([.io IntKind.u8 (IntKind.u8.wrap (IntKind.u64.wrap (48 + (↑n : Int).tmod 10)))], 5)]⟩ ?_
   refine At.cvl 0 0 1 1 [48 + n % 10] [.io .u8 (IntKind.u8.wrap (IntKind.u64.wrap (48 + (n : Int).tmod 10)))] 5 (.so (mkB [UInt8.ofNat (48 + n % 10)])) (by kernel_rfl) rfl noF_stable rfl (fun ρ => by rw [strOf_eq]; rfl) (fun ρ j b hj => two_byte hj) ?_
   refine zN [11, 18] 0 ⟨.ops (opsOf (sub B74 pAD19)) (((opsOf (sub B74 pAD19)).toList.drop 2).take 1), [.any (opsOf (sub B74 pAD19)) 2 [2, 8, 7, 6, 5, 4, 3, 1, 0]], [(11, .io IntKind.u64 (IntKind.u64.wrap ((↑n : Int).tdiv 10))), (18, .so (mkB [UInt8.ofNat (48 + n % 10)]))], []⟩ ?_
   rw [q10 n (by omega)]
   refine zC noF_stable 74 [.io .u64 ((n / 10 : Nat) : Int)] (.so (mkB (Lib.decDigits (n / 10)))) (fun _ _ w1 _ _ => ih (n / 10) (by omega) (by omega) w1) ?_
   refine zN [12, 18] 0 ⟨.ops (opsOf (sub B74 pAD19)) (((opsOf (sub B74 pAD19)).toList.drop 9).take 1), [.any (opsOf (sub B74 pAD19)) 1 [9, 2, 8, 7, 6, 5, 4, 3, 1, 0]], [(12, .so (mkB (Lib.decDigits (n / 10)))), (18, .so (mkB [UInt8.ofNat (48 + n % 10)]))], []⟩ ?_
   refine catW (Lib.decDigits (n / 10)) [UInt8.ofNat (48 + n % 10)] 19 1 (by kernel_rfl) (dec_len (by omega)) (by simp) (by decide) noF_stable fun t ht _ => ?_
   have ht2 : t = Lib.decDigits n := by rw [ht, Lib.decDigits.eq_1 n, dif_neg hn10]
   subst ht2
   refine zN [2] 0 ⟨.exit .normal, [], [(2, .so (mkB (Lib.decDigits n)))], []⟩ ?_
   exact At.fin () rfl rfl (by unfold subFr; kernel_rfl) rfl (fun _ _ _ _ h => trivial)
  refine zN [2] 0 ⟨.exit .ret, [], [(2, .so (mkB (Lib.decDigits n)))], []⟩ ?_
  refine zE (.so (mkB (Lib.decDigits n))) ?_
  intro ρ w9 hm hf
  exact ⟨rfl, hm.below⟩
noncomputable def B47 : Code := (Tryz.f47.body).getD .skip
noncomputable def sq47 (p : List Nat) : Go.Sx.K := .seq (sub B47 p)
set_option maxHeartbeats 4000000 in
set_option maxRecDepth 100000 in
theorem rdigits_any (n : Int) (h : in64 n) (w : World) : Calls Tryz.prog 47 #[.int .i64 n] w fun e w' => e = .returned (.string (mkB (Lib.itoa n))) ∧ Below w.heap.size w w' := by
 obtain ⟨h1, h2⟩ := h
 refine enter (fn := Tryz.f47) (c := B47) [.io .i64 n] Tryz.func47 rfl rfl ?_
 refine zM [0, 4] 0 ⟨.code (sub B47 [1, 0, 1]), [(sq47 [1, 1])], [(0, .io .i64 n), (4, .bo (decide (n < 0)))], []⟩ ?_
 rcases zB (decide (n < 0)) with b0 | b0
 ·refine zR 4 b0 ?_
  refine zM [9] 0 ⟨pops B47 [1, 0, 1, 2, 0] 5, [(sq47 pAD13), (sq47 [1, 1])], [(9, .io IntKind.u64 (IntKind.u64.wrap (IntKind.u64.wrap (IntKind.i64.wrap (0 - IntKind.i64.wrap (n + 1))) + 1)))], []⟩ ?_
  have hn : n < 0 := of_decide_eq_true b0
  have e1 : IntKind.u64.wrap (IntKind.u64.wrap (IntKind.i64.wrap (0 - IntKind.i64.wrap (n + 1))) + 1) = ((n.natAbs : Nat) : Int) := by
   rw [wrap_id (x := n + 1) ⟨by omega, by omega⟩, wrap_id (x := 0 - (n + 1)) ⟨by omega, by omega⟩]
   simp only [IntKind.wrap, IntKind.bits, IntKind.signed]
   simp
   omega
  rw [e1]
  refine zC noF_stable 74 [.io .u64 ((n.natAbs : Nat) : Int)] (.so (mkB (Lib.decDigits n.natAbs))) (fun _ _ w1 _ _ => digits_any n.natAbs n.natAbs (Nat.le_refl _) (by omega) w1) ?_
  refine zM [10] 0 ⟨pops B47 [1, 0, 1, 2, 0] 6, [(sq47 pAD13), (sq47 [1, 1])], [(10, .so (mkB (Lib.decDigits n.natAbs)))], []⟩ ?_
  refine catW [45] (Lib.decDigits n.natAbs) 1 19 (by kernel_rfl) (by simp) (dec_len (by omega)) (by decide) noF_stable fun t ht _ => ?_
  have ht2 : t = Lib.itoa n := by rw [ht]; unfold Lib.itoa; rw [if_pos hn]; rfl
  subst ht2
  refine zM [2] 0 ⟨.exit .ret, [], [(2, .so (mkB (Lib.itoa n)))], []⟩ ?_
  refine zE (.so (mkB (Lib.itoa n))) ?_
  intro ρ w9 hm hf
  exact ⟨rfl, hm.below⟩
 refine zR 4 b0 ?_
 refine zM [13] 0 ⟨pops B47 pAD19 2, [(sq47 pAD13)], [(13, .io IntKind.u64 (IntKind.u64.wrap n))], []⟩ ?_
 have hn : ¬ n < 0 := of_decide_eq_false b0
 have e1 : IntKind.u64.wrap n = ((n.toNat : Nat) : Int) := by
  simp only [IntKind.wrap, IntKind.bits, IntKind.signed]
  simp
  omega
 rw [e1]
 refine zC noF_stable 74 [.io .u64 ((n.toNat : Nat) : Int)] (.so (mkB (Lib.decDigits n.toNat))) (fun _ _ w1 _ _ => digits_any n.toNat n.toNat (Nat.le_refl _) (by omega) w1) ?_
 refine zM [2] 0 ⟨.exit .ret, [], [(2, .so (mkB (Lib.decDigits n.toNat)))], []⟩ ?_
 refine zE (.so (mkB (Lib.decDigits n.toNat))) ?_
 intro ρ w9 hm hf
 exact ⟨by rw [show Lib.itoa n = Lib.decDigits n.toNat by unfold Lib.itoa; rw [if_neg hn]]; rfl, hm.below⟩
end Go.Proofs.YthfpekhpeiebjaaGreatDoor
end
section
namespace Go.Proofs.YthfpekhpeiebjaaGreatDoor
open Go.RowKit Go.Sx
theorem numR_no {c : UInt8} {r : List UInt8} (hc : c ≠ 45) (h : c :: r = [] ∨ 20 < (c :: r).length) : numR (c :: r) = none := by
 unfold numR
 split
 ·rename_i r' e
  injection e with e _
  exact absurd e hc
 rw [if_pos h]
theorem numR_yes {c : UInt8} {r : List UInt8} (hc : c ≠ 45) (h : ¬ 20 < (c :: r).length) : numR (c :: r) = numEnd false (c :: r) (numGo 0 ((c :: r).drop 0)) := by
 unfold numR
 split
 ·rename_i r' e
  injection e with e _
  exact absurd e hc
 rw [if_neg (by rw [not_or]; exact ⟨by simp, h⟩)]
 rfl
structure NSt where
 i : Nat
 n : Nat
def frN (s : List UInt8) (fm : Int) : NSt → Fr
 | ⟨i, n⟩ => [(0, .so (mkB s)), (4, .io .u64 (n : Int)), (5, .io .i64 fm), (6, .io .i64 (i : Int))]
def locN (_ : NSt) : Sx.Loc := []
def GN (s : List UInt8) (fm : Nat) (R : Option Nat) (x : NSt) (ρ : List Nat) (w : World) : Prop := noF ρ w ∧ (fm ≤ x.i ∧ x.i ≤ s.length ∧ numGo x.n (s.drop x.i) = R ∧ x.n < 18446744073709551616)
def muN (s : List UInt8) (x : NSt) : Nat := s.length - x.i
theorem stepN {n y : Nat} (h1 : 48 ≤ y) (h2 : y ≤ 57) (h3 : n ≤ 922337203685477580) : IntKind.u64.wrap (IntKind.u64.wrap ((n : Int) * 10) + IntKind.u64.wrap (IntKind.u8.wrap ((y : Int) - 48))) = ((n * 10 + (y - 48) : Nat) : Int) := by
 simp only [IntKind.wrap, IntKind.bits, IntKind.signed]
 simp
 omega
theorem strB (x y : List UInt8) : ((mkB x).toList == (mkB y).toList) = decide (x = y) := by
 rw [ByteArray.toList_eq, ByteArray.toList_eq, Bool.eq_iff_iff, beq_iff_eq, decide_eq_true_eq]
 exact ⟨fun h => by simpa [mkB] using h, fun h => by rw [h]⟩
def numV : Option Int → Value
 | some x => .tuple #[.int .i64 x, .bool true]
 | none => .tuple #[.int .i64 0, .bool false]
noncomputable def B65 : Code := (Tryz.f65.body).getD .skip
noncomputable def sq65 (p : List Nat) : Go.Sx.K := .seq (sub B65 p)
set_option maxHeartbeats 20000000 in
set_option maxRecDepth 100000 in
theorem rnumber_any (s : List UInt8) (hs : s.length ≤ 1048576) (w : World) :
  Calls Tryz.prog 65 #[.string (mkB s)] w fun e w' => e = .returned (numV (numR s)) ∧ Below w.heap.size w w' := by
 match s, hs with
 | [], hs =>
  refine enter (fn := Tryz.f65) (c := B65) [.so (mkB [])] Tryz.func65 rfl rfl ?_
  refine zM [0, 4, 5, 10] 0 ⟨pops B65 pAD14 3, [(sq65 pAD15), (sq65 pAD17)], [(0, .so (mkB [])), (4, .v (.int IntKind.u64 0)), (5, .v (.int .i64 0)), (10, .bo false)], []⟩ ?_
  refine At.res 10 (false) false (by kernel_rfl) (by first | assumption | (simp only [*]; done) | (simp [*]; done)) ?_
  refine zM [0, 4, 5, 19] 0 ⟨pops B65 [1, 1, 1, 1, 0, 0] 5, [(sq65 pAD11), (sq65 pAD16)], [(0, .so (mkB [])), (4, .v (.int IntKind.u64 0)), (5, .v (.int .i64 0)), (19, .bo true)], []⟩ ?_
  refine At.res 19 (true) true (by kernel_rfl) (by first | assumption | (simp only [*]; done) | (simp [*]; done)) ?_
  refine zM [2, 3] 0 ⟨.exit .ret, [], [(2, .v (.int .i64 0)), (3, .v (.bool false))], []⟩ ?_
  refine zE (.tup [.v (.int .i64 0), .v (.bool false)]) ?_
  intro ρ w9 hm hf
  exact ⟨rfl, hm.below⟩
 | c :: r, hs =>
  by_cases hc : c = 45
  ·subst hc
   have en : (!(mkB (45 :: r)).toList == (ByteArray.mk #[]).toList) = true := by rw [ByteArray.toList_eq, ByteArray.toList_eq]; rfl
   have e45 : (((45 : UInt8).toNat : Int) == 45) = true := by decide
   refine enter (fn := Tryz.f65) (c := B65) [.so (mkB (45 :: r))] Tryz.func65 rfl rfl ?_
   refine zNq [0, 4, 5, 10] 0 ?_
   refine zR 10 en ?_
   refine zN [0, 4, 5, 10, 11] 0 ⟨pops B65 pAD14 4, [(sq65 pAD15), (sq65 pAD17)], [(0, .so (mkB (45 :: r))), (4, .v (.int IntKind.u64 0)), (5, .v (.int .i64 0)), (10, .v (.bool true)), (11, .so (mkB (45 :: r)))], []⟩ ?_
   refine At.six (mkB (45 :: r)) 0 45 (by kernel_rfl) (by omega) rfl noF_stable ?_
   refine zNq [0, 4, 5, 14] 0 ?_
   refine At.res 14 (true) true (by kernel_rfl) (by first | assumption | (simp only [*]; done) | (simp [*]; done)) ?_
   refine zN [0, 4, 5, 19] 0 ⟨pops B65 [1, 1, 1, 1, 0, 0] 5, [(sq65 pAD11), (sq65 pAD16)], [(0, .so (mkB (45 :: r))), (4, .v (.int IntKind.u64 0)), (5, .v (.int .i64 1)), (19, .bo ((↑(mkB (45 :: r)).size : Int) == 1))], []⟩ ?_
   rcases zB ((↑(mkB (45 :: r)).size : Int) == 1) with b0 | b0
   ·refine zR 19 b0 ?_
    refine zN [2, 3] 0 ⟨.exit .ret, [], [(2, .v (.int .i64 0)), (3, .v (.bool false))], []⟩ ?_
    refine zE (.tup [.v (.int .i64 0), .v (.bool false)]) ?_
    have hr : r = [] := by
     have h := b0
     simp [mkB_size] at h
     first | exact h | (exact List.eq_nil_of_length_eq_zero (by omega))
    rw [show numR (45 :: r) = none from if_pos (Or.inl hr)]
    intro ρ w9 hm hf
    exact ⟨rfl, hm.below⟩
   refine zR 19 b0 ?_
   refine zNq [0, 4, 5, 23] 0 ?_
   rcases zB (decide ((↑(mkB (45 :: r)).size : Int) > 20)) with b1 | b1
   ·refine zR 23 b1 ?_
    refine zN [2, 3] 0 ⟨.exit .ret, [], [(2, .v (.int .i64 0)), (3, .v (.bool false))], []⟩ ?_
    refine zE (.tup [.v (.int .i64 0), .v (.bool false)]) ?_
    have hlen := of_decide_eq_true b1
    rw [mkB_size] at hlen
    rw [show numR (45 :: r) = none from if_pos (Or.inr (by omega))]
    intro ρ w9 hm hf
    exact ⟨rfl, hm.below⟩
   refine zR 23 b1 ?_
   refine zN [0, 4, 5, 6] 0 ⟨.code (sub B65 [1, 1, 1, 1, 1, 0, 1, 4]), [.block 0, (sq65 pAD12)], [(0, .so (mkB (45 :: r))), (4, .v (.int IntKind.u64 0)), (5, .v (.int .i64 1)), (6, .v (.int .i64 1))], []⟩ ?_
   have hlen := of_decide_eq_false b1
   rw [mkB_size] at hlen
   have hnr : numR (45 :: r) = numEnd true (45 :: r) (numGo 0 ((45 :: r).drop 1)) := if_neg (by
     rw [not_or]
     refine ⟨fun hr => ?_, by omega⟩
     subst hr
     exact absurd b0 (by decide +kernel))
   rw [hnr]
   clear b0 b1 hnr
   generalize hR : numGo 0 ((45 :: r).drop 1) = R
   refine At.canon _ rfl ?_
   refine At.loop (σ := NSt) (sub B65 [1, 1, 1, 1, 1, 0, 1, 4, 4]) (frN (45 :: r) 1) locN (GN (45 :: r) 1 R) (muN (45 :: r)) ⟨1, 0⟩ (by kernel_rfl) (by unfold subFr; kernel_rfl) (by kernel_rfl) (fun _ _ _ _ h => ⟨h, Nat.le_refl _, by simp, hR, by decide⟩) ?_
   clear hR
   rintro ⟨i, n⟩
   refine At.pure fun ⟨h1, h2, h3, h4⟩ => ?_
   simp only at h1 h2 h3 h4
   refine zNq [0, 4, 5, 6, 28] 0 ?_
   rcases zB (decide ((↑i : Int) < (↑(mkB (45 :: r)).size : Int))) with b0 | b0
   ·refine zR 28 b0 ?_
    let kn0 : K := .next (Sx.Next w.heap.size w Tryz.f65.ntmps (frN (45 :: r) 1) locN (GN (45 :: r) 1 R) (muN (45 :: r)) (NSt.mk i n))
    refine zN [0, 4, 5, 6, 31, 32] 0 ⟨pops B65 pAD0 2, [(sq65 pAD1), (sq65 pAD2), .block 1, (sq65 pAD6), kn0, .block 0, (sq65 pAD12)], [(0, .so (mkB (45 :: r))), (4, .io IntKind.u64 (↑n : Int)), (5, .io .i64 1), (6, .io .i64 (↑i : Int)), (31, .so (mkB (45 :: r))), (32, .io .i64 (↑i : Int))], []⟩ ?_
    have hi : i < (45 :: r).length := by have := of_decide_eq_true b0; rw [mkB_size] at this; omega
    clear b0
    obtain ⟨y, hz⟩ : ∃ y, (45 :: r)[i]? = some y := ⟨_, List.getElem?_eq_getElem hi⟩
    have hy := y.toNat_lt
    rw [drop_at hz] at h3
    refine At.six (mkB (45 :: r)) (i : Int) y (by kernel_rfl) (by omega) (by rw [Int.toNat_natCast]; exact hz) noF_stable ?_
    refine zNq [0, 4, 5, 6, 35] 0 ?_
    rcases zB (decide ((↑y.toNat : Int) < 48)) with b0 | b0
    ·refine zR 35 b0 ?_
     refine zN [2, 3] 0 ⟨.exit .ret, [], [(2, .v (.int .i64 0)), (3, .v (.bool false))], []⟩ ?_
     refine zE (.tup [.v (.int .i64 0), .v (.bool false)]) ?_
     have hno : y.toNat < 48 ∨ 57 < y.toNat ∨ 922337203685477580 < n := by have := of_decide_eq_true b0; omega
     rw [numGo, if_pos hno] at h3
     subst h3
     intro ρ w9 hm hf
     exact ⟨rfl, hm.below⟩
    refine zR 35 b0 ?_
    refine zN [0, 4, 5, 6, 35, 36, 37] 0 ⟨pops B65 pAD0 7, [(sq65 pAD1), (sq65 pAD2), .block 1, (sq65 pAD6), kn0, .block 0, (sq65 pAD12)], [(0, .so (mkB (45 :: r))), (4, .io IntKind.u64 (↑n : Int)), (5, .io .i64 1), (6, .io .i64 (↑i : Int)), (35, .v (.bool false)), (36, .so (mkB (45 :: r))), (37, .io .i64 (↑i : Int))], []⟩ ?_
    have c48 := of_decide_eq_false b0
    clear b0
    refine At.six (mkB (45 :: r)) (i : Int) y (by kernel_rfl) (by omega) (by rw [Int.toNat_natCast]; exact hz) noF_stable ?_
    refine zNq [0, 4, 5, 6, 41] 0 ?_
    rcases zB (decide ((↑y.toNat : Int) > 57)) with b0 | b0
    ·refine zR 41 b0 ?_
     refine zN [2, 3] 0 ⟨.exit .ret, [], [(2, .v (.int .i64 0)), (3, .v (.bool false))], []⟩ ?_
     refine zE (.tup [.v (.int .i64 0), .v (.bool false)]) ?_
     have hno : y.toNat < 48 ∨ 57 < y.toNat ∨ 922337203685477580 < n := by have := of_decide_eq_true b0; omega
     rw [numGo, if_pos hno] at h3
     subst h3
     intro ρ w9 hm hf
     exact ⟨rfl, hm.below⟩
    refine zR 41 b0 ?_
    refine zN [0, 4, 5, 6, 44] 0 ⟨.code (sub B65 pAD1), [(sq65 pAD2), .block 1, (sq65 pAD6), kn0, .block 0, (sq65 pAD12)], [(0, .so (mkB (45 :: r))), (4, .io IntKind.u64 (↑n : Int)), (5, .io .i64 1), (6, .io .i64 (↑i : Int)), (44, .bo (decide ((↑n : Int) > 922337203685477580)))], []⟩ ?_
    rcases zB (decide ((↑n : Int) > 922337203685477580)) with b1 | b1
    ·refine zR 44 b1 ?_
     refine zN [2, 3] 0 ⟨.exit .ret, [], [(2, .v (.int .i64 0)), (3, .v (.bool false))], []⟩ ?_
     refine zE (.tup [.v (.int .i64 0), .v (.bool false)]) ?_
     have hno : y.toNat < 48 ∨ 57 < y.toNat ∨ 922337203685477580 < n := by have := of_decide_eq_true b1; omega
     rw [numGo, if_pos hno] at h3
     subst h3
     intro ρ w9 hm hf
     exact ⟨rfl, hm.below⟩
    refine zR 44 b1 ?_
    let kn1 : K := .next (Sx.Next w.heap.size w Tryz.f65.ntmps (frN (45 :: r) 1) locN (GN (45 :: r) 1 R) (muN (45 :: r)) (NSt.mk i n))
    refine zN [0, 5, 6, 46, 47, 48] 0 ⟨pops B65 pAD2 4, [.block 1, (sq65 pAD6), kn1, .block 0, (sq65 pAD12)], [(0, .so (mkB (45 :: r))), (5, .io .i64 1), (6, .io .i64 (↑i : Int)), (46, .io IntKind.u64 (IntKind.u64.wrap ((↑n : Int) * 10))), (47, .so (mkB (45 :: r))), (48, .io .i64 (↑i : Int))], []⟩ ?_
    refine At.six (mkB (45 :: r)) (i : Int) y (by kernel_rfl) (by omega) (by rw [Int.toNat_natCast]; exact hz) noF_stable ?_
    refine zN [0, 4, 5, 6] 0 ⟨.exit .normal, [kn1, .block 0, (sq65 pAD12)], [(0, .so (mkB (45 :: r))), (4, .io IntKind.u64 (IntKind.u64.wrap (IntKind.u64.wrap ((↑n : Int) * 10) + IntKind.u64.wrap (IntKind.u8.wrap ((↑y.toNat : Int) - 48))))), (5, .io .i64 1), (6, .io .i64 (IntKind.i64.wrap ((↑i : Int) + 1)))], []⟩ ?_
    have hys : ¬ (y.toNat < 48 ∨ 57 < y.toNat ∨ 922337203685477580 < n) := by
     have := of_decide_eq_false b0
     have := of_decide_eq_false b1
     omega
    rw [numGo, if_neg hys] at h3
    rw [stepN (by omega) (by omega) (by omega)]
    have hw3 : IntKind.i64.wrap ((i : Int) + 1) = ((i + 1 : Nat) : Int) := by
     rw [wrap63 (by omega) (by omega)]
     omega
    rw [hw3]
    refine At.next (σ := NSt) ⟨i + 1, n * 10 + (y.toNat - 48)⟩ rfl rfl (by unfold subFr; kernel_rfl) (by kernel_rfl) ?_ ?_
    ·intro ρ a' w' hi' hf
     exact ⟨hf, by simp only; omega, by simp only; omega, h3, by simp only; omega⟩
    show (45 :: r).length - (i + 1) < (45 :: r).length - i
    omega
   refine zR 28 b0 ?_
   refine zN [0, 7, 56] 0 ⟨.code (sub B65 [1, 1, 1, 1, 1, 1, 1, 0, 1]), [(sq65 [1, 1, 1, 1, 1, 1, 1, 1])], [(0, .so (mkB (45 :: r))), (7, .io .i64 (IntKind.i64.wrap (↑n : Int))), (56, .bo true)], []⟩ ?_
   refine At.res 56 (true) true (by kernel_rfl) (by first | assumption | (simp only [*]; done) | (simp [*]; done)) ?_
   refine zN [0, 7, 59] 0 ⟨pops B65 pAD7 1, [(sq65 pAD8), (sq65 pAD9)], [(0, .so (mkB (45 :: r))), (7, .io .i64 (IntKind.i64.wrap (0 - IntKind.i64.wrap (↑n : Int)))), (59, .io .i64 (IntKind.i64.wrap (0 - IntKind.i64.wrap (↑n : Int))))], []⟩ ?_
   have hi : ¬ (i : Int) < ((mkB (45 :: r)).size : Int) := of_decide_eq_false b0
   rw [mkB_size] at hi
   have hd : (45 :: r).drop i = [] := List.drop_eq_nil_of_le (by omega)
   rw [hd, numGo] at h3
   subst h3
   refine zN [0, 7, 59] 0 ⟨pops B65 pAD7 1, [(sq65 pAD8), (sq65 pAD9)], [(0, .so (mkB (45 :: r))), (7, .io .i64 (IntKind.i64.wrap (0 - IntKind.i64.wrap (↑n : Int)))), (59, .io .i64 (IntKind.i64.wrap (0 - IntKind.i64.wrap (↑n : Int))))], []⟩ ?_
   generalize hX : IntKind.i64.wrap (0 - IntKind.i64.wrap (n : Int)) = x
   have hxi : in64 x := by rw [← hX]; exact wrap_in _
   refine zC noF_stable 47 [.io .i64 x] (.so (mkB (Lib.itoa x))) (fun _ _ w1 _ _ => rdigits_any x hxi w1) ?_
   refine zNq [7, 62] 0 ?_
   rcases zB (!(mkB (Lib.itoa x)).toList == (mkB (45 :: r)).toList) with b0 | b0
   ·refine zR 62 b0 ?_
    refine zN [2, 3] 0 ⟨.exit .ret, [], [(2, .v (.int .i64 0)), (3, .v (.bool false))], []⟩ ?_
    refine zE (.tup [.v (.int .i64 0), .v (.bool false)]) ?_
    have hne : Lib.itoa x ≠ 45 :: r := fun e => by
     rw [strB, e] at b0
     simp at b0
    rw [show numEnd true (45 :: r) (some n) = none from by simp only [numEnd, cond_true, cond_false]; rw [hX, if_neg hne]]
    intro ρ w9 hm hf
    exact ⟨rfl, hm.below⟩
   refine zR 62 b0 ?_
   refine zN [2, 3] 0 ⟨.exit .ret, [], [(2, .io .i64 x), (3, .v (.bool true))], []⟩ ?_
   refine zE (.tup [.io .i64 x, .v (.bool true)]) ?_
   have hne : Lib.itoa x = 45 :: r := by
    rw [strB] at b0
    simpa using b0
   rw [show numEnd true (45 :: r) (some n) = some x from by simp only [numEnd, cond_true, cond_false]; rw [hX, if_pos hne]]
   intro ρ w9 hm hf
   exact ⟨rfl, hm.below⟩
  have en : (!(mkB (c :: r)).toList == (ByteArray.mk #[]).toList) = true := by rw [ByteArray.toList_eq, ByteArray.toList_eq]; rfl
  have e45 : ((c.toNat : Int) == 45) = false := beq_false_of_ne fun e => hc (UInt8.toNat_inj.1 (by show c.toNat = 45; omega))
  refine enter (fn := Tryz.f65) (c := B65) [.so (mkB (c :: r))] Tryz.func65 rfl rfl ?_
  refine zNq [0, 4, 5, 10] 0 ?_
  refine zR 10 en ?_
  refine zN [0, 4, 5, 10, 11] 0 ⟨pops B65 pAD14 4, [(sq65 pAD15), (sq65 pAD17)], [(0, .so (mkB (c :: r))), (4, .v (.int IntKind.u64 0)), (5, .v (.int .i64 0)), (10, .v (.bool true)), (11, .so (mkB (c :: r)))], []⟩ ?_
  refine At.six (mkB (c :: r)) 0 c (by kernel_rfl) (by omega) rfl noF_stable ?_
  refine zNq [0, 4, 5, 14] 0 ?_
  refine zR 14 e45 ?_
  refine zN [0, 4, 5, 19] 0 ⟨pops B65 [1, 1, 1, 1, 0, 0] 5, [(sq65 pAD11), (sq65 pAD16)], [(0, .so (mkB (c :: r))), (4, .v (.int IntKind.u64 0)), (5, .v (.int .i64 0)), (19, .bo false)], []⟩ ?_
  refine At.res 19 (false) false (by kernel_rfl) (by first | assumption | (simp only [*]; done) | (simp [*]; done)) ?_
  refine zNq [0, 4, 5, 23] 0 ?_
  rcases zB (decide ((↑(mkB (c :: r)).size : Int) > 20)) with b0 | b0
  ·refine zR 23 b0 ?_
   refine zN [2, 3] 0 ⟨.exit .ret, [], [(2, .v (.int .i64 0)), (3, .v (.bool false))], []⟩ ?_
   refine zE (.tup [.v (.int .i64 0), .v (.bool false)]) ?_
   have hlen := of_decide_eq_true b0
   rw [mkB_size] at hlen
   rw [show numR (c :: r) = none from numR_no hc (Or.inr (by omega))]
   intro ρ w9 hm hf
   exact ⟨rfl, hm.below⟩
  refine zR 23 b0 ?_
  refine zN [0, 4, 5, 6] 0 ⟨.code (sub B65 [1, 1, 1, 1, 1, 0, 1, 4]), [.block 0, (sq65 pAD12)], [(0, .so (mkB (c :: r))), (4, .v (.int IntKind.u64 0)), (5, .v (.int .i64 0)), (6, .v (.int .i64 0))], []⟩ ?_
  have hlen := of_decide_eq_false b0
  rw [mkB_size] at hlen
  have hnr : numR (c :: r) = numEnd false (c :: r) (numGo 0 ((c :: r).drop 0)) := numR_yes hc (by omega)
  rw [hnr]
  clear b0 hnr
  generalize hR : numGo 0 ((c :: r).drop 0) = R
  refine At.canon _ rfl ?_
  refine At.loop (σ := NSt) (sub B65 [1, 1, 1, 1, 1, 0, 1, 4, 4]) (frN (c :: r) 0) locN (GN (c :: r) 0 R) (muN (c :: r)) ⟨0, 0⟩ (by kernel_rfl) (by unfold subFr; kernel_rfl) (by kernel_rfl) (fun _ _ _ _ h => ⟨h, Nat.le_refl _, by simp, hR, by decide⟩) ?_
  clear hR
  rintro ⟨i, n⟩
  refine At.pure fun ⟨h1, h2, h3, h4⟩ => ?_
  simp only at h1 h2 h3 h4
  refine zNq [0, 4, 5, 6, 28] 0 ?_
  rcases zB (decide ((↑i : Int) < (↑(mkB (c :: r)).size : Int))) with b0 | b0
  ·refine zR 28 b0 ?_
   let kn2 : K := .next (Sx.Next w.heap.size w Tryz.f65.ntmps (frN (c :: r) 0) locN (GN (c :: r) 0 R) (muN (c :: r)) (NSt.mk i n))
   refine zN [0, 4, 5, 6, 31, 32] 0 ⟨pops B65 pAD0 2, [(sq65 pAD1), (sq65 pAD2), .block 1, (sq65 pAD6), kn2, .block 0, (sq65 pAD12)], [(0, .so (mkB (c :: r))), (4, .io IntKind.u64 (↑n : Int)), (5, .io .i64 0), (6, .io .i64 (↑i : Int)), (31, .so (mkB (c :: r))), (32, .io .i64 (↑i : Int))], []⟩ ?_
   have hi : i < (c :: r).length := by have := of_decide_eq_true b0; rw [mkB_size] at this; omega
   clear b0
   obtain ⟨y, hz⟩ : ∃ y, (c :: r)[i]? = some y := ⟨_, List.getElem?_eq_getElem hi⟩
   have hy := y.toNat_lt
   rw [drop_at hz] at h3
   refine At.six (mkB (c :: r)) (i : Int) y (by kernel_rfl) (by omega) (by rw [Int.toNat_natCast]; exact hz) noF_stable ?_
   refine zNq [0, 4, 5, 6, 35] 0 ?_
   rcases zB (decide ((↑y.toNat : Int) < 48)) with b0 | b0
   ·refine zR 35 b0 ?_
    refine zN [2, 3] 0 ⟨.exit .ret, [], [(2, .v (.int .i64 0)), (3, .v (.bool false))], []⟩ ?_
    refine zE (.tup [.v (.int .i64 0), .v (.bool false)]) ?_
    have hno : y.toNat < 48 ∨ 57 < y.toNat ∨ 922337203685477580 < n := by have := of_decide_eq_true b0; omega
    rw [numGo, if_pos hno] at h3
    subst h3
    intro ρ w9 hm hf
    exact ⟨rfl, hm.below⟩
   refine zR 35 b0 ?_
   refine zN [0, 4, 5, 6, 35, 36, 37] 0 ⟨pops B65 pAD0 7, [(sq65 pAD1), (sq65 pAD2), .block 1, (sq65 pAD6), kn2, .block 0, (sq65 pAD12)], [(0, .so (mkB (c :: r))), (4, .io IntKind.u64 (↑n : Int)), (5, .io .i64 0), (6, .io .i64 (↑i : Int)), (35, .v (.bool false)), (36, .so (mkB (c :: r))), (37, .io .i64 (↑i : Int))], []⟩ ?_
   have c48 := of_decide_eq_false b0
   clear b0
   refine At.six (mkB (c :: r)) (i : Int) y (by kernel_rfl) (by omega) (by rw [Int.toNat_natCast]; exact hz) noF_stable ?_
   refine zNq [0, 4, 5, 6, 41] 0 ?_
   rcases zB (decide ((↑y.toNat : Int) > 57)) with b0 | b0
   ·refine zR 41 b0 ?_
    refine zN [2, 3] 0 ⟨.exit .ret, [], [(2, .v (.int .i64 0)), (3, .v (.bool false))], []⟩ ?_
    refine zE (.tup [.v (.int .i64 0), .v (.bool false)]) ?_
    have hno : y.toNat < 48 ∨ 57 < y.toNat ∨ 922337203685477580 < n := by have := of_decide_eq_true b0; omega
    rw [numGo, if_pos hno] at h3
    subst h3
    intro ρ w9 hm hf
    exact ⟨rfl, hm.below⟩
   refine zR 41 b0 ?_
   refine zN [0, 4, 5, 6, 44] 0 ⟨.code (sub B65 pAD1), [(sq65 pAD2), .block 1, (sq65 pAD6), kn2, .block 0, (sq65 pAD12)], [(0, .so (mkB (c :: r))), (4, .io IntKind.u64 (↑n : Int)), (5, .io .i64 0), (6, .io .i64 (↑i : Int)), (44, .bo (decide ((↑n : Int) > 922337203685477580)))], []⟩ ?_
   rcases zB (decide ((↑n : Int) > 922337203685477580)) with b1 | b1
   ·refine zR 44 b1 ?_
    refine zN [2, 3] 0 ⟨.exit .ret, [], [(2, .v (.int .i64 0)), (3, .v (.bool false))], []⟩ ?_
    refine zE (.tup [.v (.int .i64 0), .v (.bool false)]) ?_
    have hno : y.toNat < 48 ∨ 57 < y.toNat ∨ 922337203685477580 < n := by have := of_decide_eq_true b1; omega
    rw [numGo, if_pos hno] at h3
    subst h3
    intro ρ w9 hm hf
    exact ⟨rfl, hm.below⟩
   refine zR 44 b1 ?_
   let kn3 : K := .next (Sx.Next w.heap.size w Tryz.f65.ntmps (frN (c :: r) 0) locN (GN (c :: r) 0 R) (muN (c :: r)) (NSt.mk i n))
   refine zN [0, 5, 6, 46, 47, 48] 0 ⟨pops B65 pAD2 4, [.block 1, (sq65 pAD6), kn3, .block 0, (sq65 pAD12)], [(0, .so (mkB (c :: r))), (5, .io .i64 0), (6, .io .i64 (↑i : Int)), (46, .io IntKind.u64 (IntKind.u64.wrap ((↑n : Int) * 10))), (47, .so (mkB (c :: r))), (48, .io .i64 (↑i : Int))], []⟩ ?_
   refine At.six (mkB (c :: r)) (i : Int) y (by kernel_rfl) (by omega) (by rw [Int.toNat_natCast]; exact hz) noF_stable ?_
   refine zN [0, 4, 5, 6] 0 ⟨.exit .normal, [kn3, .block 0, (sq65 pAD12)], [(0, .so (mkB (c :: r))), (4, .io IntKind.u64 (IntKind.u64.wrap (IntKind.u64.wrap ((↑n : Int) * 10) + IntKind.u64.wrap (IntKind.u8.wrap ((↑y.toNat : Int) - 48))))), (5, .io .i64 0), (6, .io .i64 (IntKind.i64.wrap ((↑i : Int) + 1)))], []⟩ ?_
   have hys : ¬ (y.toNat < 48 ∨ 57 < y.toNat ∨ 922337203685477580 < n) := by
    have := of_decide_eq_false b0
    have := of_decide_eq_false b1
    omega
   rw [numGo, if_neg hys] at h3
   rw [stepN (by omega) (by omega) (by omega)]
   have hw3 : IntKind.i64.wrap ((i : Int) + 1) = ((i + 1 : Nat) : Int) := by
    rw [wrap63 (by omega) (by omega)]
    omega
   rw [hw3]
   refine At.next (σ := NSt) ⟨i + 1, n * 10 + (y.toNat - 48)⟩ rfl rfl (by unfold subFr; kernel_rfl) (by kernel_rfl) ?_ ?_
   ·intro ρ a' w' hi' hf
    exact ⟨hf, by simp only; omega, by simp only; omega, h3, by simp only; omega⟩
   show (c :: r).length - (i + 1) < (c :: r).length - i
   omega
  refine zR 28 b0 ?_
  refine zN [0, 7, 56] 0 ⟨.code (sub B65 [1, 1, 1, 1, 1, 1, 1, 0, 1]), [(sq65 [1, 1, 1, 1, 1, 1, 1, 1])], [(0, .so (mkB (c :: r))), (7, .io .i64 (IntKind.i64.wrap (↑n : Int))), (56, .bo false)], []⟩ ?_
  refine At.res 56 (false) false (by kernel_rfl) (by first | assumption | (simp only [*]; done) | (simp [*]; done)) ?_
  refine zN [0, 7, 59] 0 ⟨pops B65 pAD7 1, [(sq65 pAD8), (sq65 pAD9)], [(0, .so (mkB (c :: r))), (7, .io .i64 (IntKind.i64.wrap (↑n : Int))), (59, .io .i64 (IntKind.i64.wrap (↑n : Int)))], []⟩ ?_
  have hi : ¬ (i : Int) < ((mkB (c :: r)).size : Int) := of_decide_eq_false b0
  rw [mkB_size] at hi
  have hd : (c :: r).drop i = [] := List.drop_eq_nil_of_le (by omega)
  rw [hd, numGo] at h3
  subst h3
  refine zN [0, 7, 59] 0 ⟨pops B65 pAD7 1, [(sq65 pAD8), (sq65 pAD9)], [(0, .so (mkB (c :: r))), (7, .io .i64 (IntKind.i64.wrap (↑n : Int))), (59, .io .i64 (IntKind.i64.wrap (↑n : Int)))], []⟩ ?_
  generalize hX : IntKind.i64.wrap (n : Int) = x
  have hxi : in64 x := by rw [← hX]; exact wrap_in _
  refine zC noF_stable 47 [.io .i64 x] (.so (mkB (Lib.itoa x))) (fun _ _ w1 _ _ => rdigits_any x hxi w1) ?_
  refine zNq [7, 62] 0 ?_
  rcases zB (!(mkB (Lib.itoa x)).toList == (mkB (c :: r)).toList) with b0 | b0
  ·refine zR 62 b0 ?_
   refine zN [2, 3] 0 ⟨.exit .ret, [], [(2, .v (.int .i64 0)), (3, .v (.bool false))], []⟩ ?_
   refine zE (.tup [.v (.int .i64 0), .v (.bool false)]) ?_
   have hne : Lib.itoa x ≠ c :: r := fun e => by
    rw [strB, e] at b0
    simp at b0
   rw [show numEnd false (c :: r) (some n) = none from by simp only [numEnd, cond_true, cond_false]; rw [hX, if_neg hne]]
   intro ρ w9 hm hf
   exact ⟨rfl, hm.below⟩
  refine zR 62 b0 ?_
  refine zN [2, 3] 0 ⟨.exit .ret, [], [(2, .io .i64 x), (3, .v (.bool true))], []⟩ ?_
  refine zE (.tup [.io .i64 x, .v (.bool true)]) ?_
  have hne : Lib.itoa x = c :: r := by
   rw [strB] at b0
   simpa using b0
  rw [show numEnd false (c :: r) (some n) = some x from by simp only [numEnd, cond_true, cond_false]; rw [hX, if_pos hne]]
  intro ρ w9 hm hf
  exact ⟨rfl, hm.below⟩
end Go.Proofs.YthfpekhpeiebjaaGreatDoor
end
