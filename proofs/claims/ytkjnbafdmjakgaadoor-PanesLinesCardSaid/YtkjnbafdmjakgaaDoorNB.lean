import Derived.Test.YtkjnbafdmjakgaaDoorShelf
import Derived.Lib.ParseIntBCases
import Derived.Lib.SplitLaws
import Derived.Test.YtkjnbafdmjakgaaDoorKC
set_option linter.unusedSimpArgs false
set_option linter.unusedVariables false
namespace Go.Proofs.YtkjnbafdmjakgaaDoor
open Go.Lib
/-- The pieces between blanks. -/
def pcs : List UInt8 → List UInt8 → List (List UInt8)
  | cur, [] => [cur]
  | cur, b :: r => if b = 32 then cur :: pcs [] r else pcs (cur ++ [b]) r
theorem pcs_app : ∀ (p r cur : List UInt8), (∀ b ∈ p, b ≠ 32) → pcs cur (p ++ r) = pcs (cur ++ p) r
  | [], r, cur, _ => by simp
  | b :: p, r, cur, h => by
    rw [List.cons_append, pcs, if_neg (h b (by simp)), pcs_app p r (cur ++ [b]) (fun c hc => h c (by simp [hc])), List.append_assoc]
    rfl
theorem pcs_none (p : List UInt8) (h : ∀ b ∈ p, b ≠ 32) : pcs [] p = [p] := by
  have := pcs_app p [] [] h
  rw [List.append_nil, List.nil_append] at this
  rw [this]
  rfl
theorem pcs_hit (p r : List UInt8) (h : ∀ b ∈ p, b ≠ 32) : pcs [] (p ++ 32 :: r) = p :: pcs [] r := by
  rw [pcs_app p _ [] h, List.nil_append, pcs, if_pos rfl]
theorem idx_none : ∀ (l : List UInt8), Lib.index l [32] = -1 → ∀ b ∈ l, b ≠ 32
  | [], _, b, hb => by cases hb
  | c :: l, h, b, hb => by
    unfold Lib.index at h
    by_cases hc : (32 : UInt8) = c
    · simp [hc] at h
    · have hp : List.isPrefixOf [32] (c :: l) = false := by simp [List.isPrefixOf, hc]
      rw [if_neg (by simp [hp])] at h
      by_cases h1 : Lib.index l [32] = -1
      · rcases List.mem_cons.1 hb with rfl | hb
        · exact fun e => hc e.symm
        · exact idx_none l h1 b hb
      · have := index_ge l [32]
        rw [if_neg (by simp [h1])] at h
        omega
theorem idx_some : ∀ (l : List UInt8) (i : Nat), Lib.index l [32] = (i : Int) → ∃ p r, l = p ++ 32 :: r ∧ p.length = i ∧ ∀ b ∈ p, b ≠ 32
  | [], i, h => by
    simp only [Lib.index] at h
    exact absurd h (by simp)
  | c :: l, i, h => by
    unfold Lib.index at h
    by_cases hc : (32 : UInt8) = c
    · subst hc
      have hp : List.isPrefixOf [32] ((32 : UInt8) :: l) = true := by simp [List.isPrefixOf]
      rw [if_pos hp] at h
      exact ⟨[], l, rfl, by simp; omega, by simp⟩
    · have hp : List.isPrefixOf [32] (c :: l) = false := by simp [List.isPrefixOf, hc]
      rw [if_neg (by simp [hp])] at h
      by_cases h1 : Lib.index l [32] = -1
      · rw [if_pos (by simp [h1])] at h
        omega
      · have hg := index_ge l [32]
        rw [if_neg (by simp [h1])] at h
        obtain ⟨p, r, e, hl, hb⟩ := idx_some l (i - 1) (by omega)
        refine ⟨c :: p, r, by rw [e]; rfl, by simp; omega, fun b hbm => ?_⟩
        rcases List.mem_cons.1 hbm with rfl | hbm
        · exact fun e => hc e.symm
        · exact hb b hbm
theorem split_pcs : ∀ (m : Nat) (l : List UInt8), l.length ≤ m → splitK [32] 0 (Lib.count l [32]) l = pcs [] l
  | m, l, hm => by
    rcases Int.lt_or_le (Lib.index l [32]) 0 with h | h
    · have h1 : Lib.index l [32] = -1 := by have := index_ge l [32]; omega
      rw [count_miss h1]
      exact (pcs_none l (idx_none l h1)).symm
    · obtain ⟨i, hi⟩ : ∃ i : Nat, Lib.index l [32] = i := ⟨_, (Int.toNat_of_nonneg h).symm⟩
      obtain ⟨p, r, e, hl, hb⟩ := idx_some l i hi
      rw [count_hit (by simp) hi, Nat.add_comm, splitK, if_neg (by simp [hi]), hi, Int.toNat_natCast]
      subst hl
      have hd : l.drop (p.length + [(32 : UInt8)].length) = r := by
        rw [e, List.length_singleton, show p ++ 32 :: r = (p ++ [32]) ++ r by simp]
        exact List.drop_left' (by simp)
      have ht : l.take (p.length + 0) = p := by rw [e, Nat.add_zero, List.take_left]
      rw [hd, ht]
      match m with
      | 0 => rw [e] at hm; simp at hm
      | m + 1 =>
        rw [split_pcs m r (by rw [e] at hm; simp at hm; omega)]
        rw [e]
        exact (pcs_hit p r hb).symm
open Go.RowKit Go.Sx
theorem pcs_len : ∀ (l cur : List UInt8) (p : List UInt8), p ∈ pcs cur l → p.length ≤ cur.length + l.length
  | [], cur, p, h => by
    simp only [pcs, List.mem_singleton] at h
    subst h
    simp
  | b :: l, cur, p, h => by
    rw [pcs] at h
    split at h
    · rcases List.mem_cons.1 h with rfl | h
      · simp
      · have := pcs_len l [] p h
        simp at this ⊢
        omega
    · have := pcs_len l (cur ++ [b]) p h
      simp at this ⊢
      omega
theorem pcs_short {s : ByteArray} (hs : s.size ≤ 1048576) {p : List UInt8} (h : p ∈ pcs [] s.data.toList) : p.length ≤ 1048576 := by
  have := pcs_len _ _ p h
  have hsz : s.size = s.data.toList.length := by rw [Array.length_toList]; rfl
  simp only [List.length_nil] at this
  omega
theorem split_list (s : ByteArray) : Lib.splitB ⟨#[32]⟩ 0 (Lib.countB s ⟨#[32]⟩) s = (pcs [] s.data.toList).map mkB := by
  have h := Lib.splitB_data ⟨#[32]⟩ 0 (Lib.countB s ⟨#[32]⟩) s
  have h2 := split_pcs s.data.toList.length s.data.toList (Nat.le_refl _)
  rw [← h2, ← show Lib.splitK (ByteArray.mk #[32]).data.toList 0 (Lib.countB s ⟨#[32]⟩) s.data.toList = Lib.splitK [32] 0 (Lib.count s.data.toList [32]) s.data.toList from rfl, ← h, List.map_map]
  exact (List.map_id _).symm
theorem split_len (s : ByteArray) : Lib.countB s ⟨#[32]⟩ + 1 = (pcs [] s.data.toList).length := by
  rw [← Lib.splitB_all ⟨#[32]⟩ (by decide) 0 _ s rfl, split_list, List.length_map]
theorem split_row (s : ByteArray) (hs : s.size ≤ 1048576) (w : World) {m : Int} (hm : w.cell? ⟨3, 0, none⟩ = some (.int .i64 m)) {n : Nat} (hn : (pcs [] s.data.toList).length = n) :
    Calls Tryd.prog 29 #[.string s, .string ⟨#[32]⟩] w fun e w' => ∃ ρc, e = .returned ((SV.ls 0 0 n n).den ρc) ∧ WInv w.heap.size w ρc [((pcs [] s.data.toList).map fun p => SV.so (mkB p), 9)] w' := by
  refine (Tryd.strings_Split s ⟨#[32]⟩ m w (by omega) hm (by decide)).mono ?_
  rintro e w' ⟨rfl, rfl⟩
  rw [split_len, hn, split_list]
  refine ⟨[w.heap.size], by rfl, (Below.refl _ _).alloc (Nat.le_refl _) _, by rw [show (w.alloc _).heap = w.heap.push _ from rfl]; simp, rfl, by simp, fun b hb => ?_, fun i c t hi => ?_⟩
  · simp at hb
    subst hb
    exact ⟨Nat.le_refl _, by rw [show (w.alloc _).heap = w.heap.push _ from rfl]; simp⟩
  · cases i with
    | zero =>
      simp only [List.getElem?_cons_zero, Option.some.injEq, Prod.mk.injEq] at hi
      obtain ⟨rfl, rfl⟩ := hi
      rw [show (w.alloc _).heap = w.heap.push _ from rfl]
      simp only [nth, List.getD, List.getElem?_cons_zero, Option.getD_some, Array.getElem?_push_size, SV.denL_eq, List.map_map]
      rfl
    | succ i => simp at hi
theorem var_below {w0 w : World} {n : String} {cs : Array Value} (h : w0.var? Tryd.prog n = some cs) (hb : Below w0.heap.size w0 w) : w.var? Tryd.prog n = some cs := by
  unfold World.var? at h ⊢
  cases hg : Tryd.prog.globalNamed n with
  | none => rw [hg] at h; cases h
  | some g =>
    rw [hg] at h
    simp only [Option.bind_some] at h ⊢
    have hlt : g < w0.heap.size := by
      rcases Nat.lt_or_ge g w0.heap.size with h' | h'
      · exact h'
      · rw [Array.getElem?_eq_none h'] at h; cases h
    rw [hb.block g hlt]
    exact h
theorem cell_below {w0 w : World} {a : Addr} {v : Value} (h : w0.cell? a = some v) (hb : Below w0.heap.size w0 w) : w.cell? a = some v := by
  have hlt : a.block < w0.heap.size := by
    rcases Nat.lt_or_ge a.block w0.heap.size with h' | h'
    · exact h'
    · unfold World.cell? at h
      rw [Array.getElem?_eq_none h'] at h; cases h
  unfold World.cell? at h ⊢
  rw [hb.block _ hlt]
  exact h
end Go.Proofs.YtkjnbafdmjakgaaDoor
