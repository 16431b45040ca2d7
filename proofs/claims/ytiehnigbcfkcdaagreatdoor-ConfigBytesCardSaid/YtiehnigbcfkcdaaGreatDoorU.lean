/- Bytes handed in, taken apart. -/
import Derived.Test.YtiehnigbcfkcdaaGreatDoorM
import Derived.Test.YtiehnigbcfkcdaaGreatDoorQC
import Derived.SizedLaws
import Derived.ChangeSlices
set_option linter.unusedSimpArgs false
set_option linter.unusedVariables false
set_option maxRecDepth 100000
namespace Go.Proofs.YtiehnigbcfkcdaaGreatDoor
open Go.Joins Go.ChangeShapes Go.WideShapes Go.RowKit Go.Deep
section
variable {H : Type} {enc : TypeId × Value → H} {w : World} {base : Nat}
theorem kc5 : Tryz.prog.cellsOf 5 = 1 := by kernel_rfl
theorem kb5 : Tryz.prog.bytesOf 5 = 1 := by kernel_rfl
theorem open_bytes {ts : List TypeId} {ds : List (DataW H)} {j : Nat} {d : DataW H} {A : Option Addr} {n c : Nat} {p : List MemPlace} (ht : ts[j]? = some 33) (hd : ds[j]? = some d) (hsz : (DataW.weightsEach Tryz.prog ts ds).all (· ≤ reachBytes) = true)
    (h : DataW.Trod enc Tryz.prog w base (fun _ => true) true 33 (.slice A n c) d p) : ∃ bs : List Nat, SlB w A n bs ∧ (∀ b ∈ bs, b < 256) ∧ n ≤ c ∧ n ≤ 140737488351232 := by
  obtain ⟨fuel, hf⟩ := h
  rcases open_ints Tryz.underlying33 Tryz.underlying5 kc5 hf with ⟨hcs, hx⟩ | ⟨a, len', cap', zs, hcs, _, hl, hm, hz, hx, hcell, hwz⟩
  · simp [Value.cells] at hcs
    obtain ⟨rfl, rfl, rfl⟩ := hcs
    exact ⟨[], ⟨rfl, fun _ => rfl, fun a ha => (by cases ha)⟩, by simp, by omega, by omega⟩
  · simp [Value.cells] at hcs
    obtain ⟨rfl, rfl, rfl⟩ := hcs
    simp only [Prod.mk.injEq] at hx
    obtain ⟨rfl, rfl⟩ := hx
    simp only [if_true] at hz
    have hs := sized_slice hsz ht hd Tryz.underlying33
    rw [kb5, Nat.mul_one] at hs
    simp only [lits, List.length_map, List.length_take, List.length_drop] at hs
    have hr : reachBytes = 140737488351232 := rfl
    have hg : ∀ i, 0 ≤ zs.getD i 0 ∧ zs.getD i 0 < 256 := fun i => by
      have := range_u8 hwz i
      rw [List.getD_eq_getElem?_getD]
      omega
    refine ⟨(zs.take n).map Int.toNat, ⟨by simp; omega, fun h => (by cases h), fun a' ha i b hb => ?_⟩, fun b hb => ?_, hl, by omega⟩
    · cases ha
      simp only [List.getElem?_map, Option.map_eq_some_iff] at hb
      obtain ⟨z, hz1, rfl⟩ := hb
      have hi := (List.getElem?_eq_some_iff.1 hz1).1
      simp only [List.length_take] at hi
      rw [List.getElem?_take_of_lt (by omega)] at hz1
      have e : zs.getD i 0 = z := by rw [List.getD_eq_getElem?_getD, hz1]; rfl
      have h2 := hg i
      rw [hcell i (by omega), e]
      rw [e] at h2
      rw [Int.toNat_of_nonneg h2.1]
    · obtain ⟨z, hz1, rfl⟩ := List.mem_map.1 hb
      obtain ⟨i, hi, rfl⟩ := List.getElem_of_mem hz1
      simp only [List.length_take] at hi
      have h2 := hg i
      have e : zs.getD i 0 = zs[i]'(by omega) := by rw [List.getD_eq_getElem?_getD, List.getElem?_eq_getElem (by omega)]; rfl
      rw [e] at h2
      rw [List.getElem_take]
      omega
end
end Go.Proofs.YtiehnigbcfkcdaaGreatDoor
