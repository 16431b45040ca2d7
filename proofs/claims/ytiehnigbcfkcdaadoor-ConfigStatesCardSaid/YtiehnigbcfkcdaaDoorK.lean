import Derived.Test.YtiehnigbcfkcdaaDoorE
import Derived.Test.YtiehnigbcfkcdaaDoorSxX
set_option linter.unusedSimpArgs false
set_option linter.unusedVariables false
namespace Go.Proofs.YtiehnigbcfkcdaaDoor
open Go.RowKit Go.Sx

theorem row_cap {base e size n c : Nat} {A : Option Addr} {xs : List Value} {ρ : List Nat} {w : World} (h : Row base e size A n c xs ρ w) (hn : 0 < n) : n ≤ c := by
  rcases h.1.2 with ⟨h2, _⟩ | ⟨g, cap, cur, hv, _, _, hle, _⟩
  · injection h2 with _ h3 _
    omega
  · injection hv with _ _ hc
    omega
theorem add_add (a : Addr) (n m : Nat) : (a.add n).add m = a.add (n + m) := by
  unfold Addr.add
  by_cases hn : n = 0
  · subst hn; simp
  · by_cases hm : m = 0
    · subst hm; simp
    · simp [hn, hm]; omega
theorem src_low {w w' : World} {a : Addr} {xs : List Value} (h : Src w a xs) (hb : Below w.heap.size w w') : Src w' a xs := fun j u hj => by
  have hc := h j u hj
  rw [cell_below hb (World.block_lt_of_cell? w _ hc)]
  exact hc

noncomputable def B14 : Code := (Tryd.f14.body).getD .skip
set_option maxHeartbeats 4000000 in
set_option maxRecDepth 100000 in
theorem lend_some (a : Addr) (n c : Nat) (bs : List Nat) (hbs : ∀ b ∈ bs, b < 256) (hl : bs.length = n) (hn : n ≤ 140737488355320) (w : World) (hsrc : Src w a (bv bs)) :
    Calls Tryd.prog 14 #[.slice (some a) n c] w fun e w' => ∃ A' n' c', e = .returned (.slice A' n c') ∧ n' = n + 3 ∧ RowF w (fun _ => False) [] w.heap.size 5 1 A' n' c' (bv (bs ++ [165, 166, 167])) [] w' := by
  refine enter (fn := Tryd.f14) (c := B14) [.sl (some a) n c] Tryd.func14 rfl rfl ?_
  refine At.to (noF_stable) (noF_fewer) 20 300 [0, 5, 6] 1 ⟨pops B14 [1, 0] 2, [.seq (sub B14 [1, 1])], [(0, .sl (some a) n c), (5, .ls 0 0 0 0), (6, .sl (some a) n c)], [([], 5)]⟩ (by kernel_rfl) (by kernel_rfl) ?_
  refine At.lsRow 5 [0, 6] 0 5 1 rfl rfl rfl rfl (by kernel_rfl) ?_
  intro A
  refine At.toJ (RowF.stable) RowF.fewer 20 300 [0, 5, 6] 0 ⟨pops B14 [1, 0] 2, [.seq (sub B14 [1, 1])], [(0, .sl (some a) n c), (5, .sl A 0 0), (6, .sl (some a) n c)], []⟩ (by kernel_rfl) (by kernel_rfl) ?_
  refine At.appOut 5 1 1 A 0 0 a n c (fun _ => False) [] w.heap.size [] (bv bs) (by kernel_rfl) (by simp [bv, hl]) (bv_one _) (fun ρ w1 hm hf => src_low hsrc hm.below) (by omega) (by simp only [maxLen]; omega) (Nat.le_refl _) ?_
  intro A1 c1
  rw [Nat.zero_add, List.nil_append]
  refine At.toJ (RowF.stable) RowF.fewer 20 300 [0, 4, 12, 16] 1 ⟨pops B14 [1, 1, 0, 1, 4, 4, 1, 0, 4] 5, [.block 1, .seq (sub B14 [1, 1, 0, 1, 4, 4, 1, 1]), .rounds (sub B14 [1, 1, 0, 1, 4, 4]) 19, .block 0, .seq (sub B14 [1, 1, 1])], [(0, .sl (some a) n c), (4, .v (.int .i64 0)), (12, .sl A1 n c1), (16, .ls 0 0 1 1)], [([.v (.int IntKind.u8 165)], 5)]⟩ (by kernel_rfl) (by kernel_rfl) ?_
  refine At.app (34) (5) (1) (1) (A1) (n) (c1) (1) ([.v (.int IntKind.u8 165)]) _ _ _ _ ([.int IntKind.u8 165]) (by kernel_rfl) (fun ρ => by kernel_rfl) (by first | omega | (simp only [Go.maxLen]; omega)) (by first | omega | (simp only [Go.maxLen]; omega)) (by first | omega | (simp only [Go.maxLen]; omega)) fun A0 c0 => ?_
  refine At.toJ (RowF.stable) RowF.fewer 20 300 [0, 4, 12, 16] 2 ⟨pops B14 [1, 1, 0, 1, 4, 4, 1, 0, 4] 5, [.block 1, .seq (sub B14 [1, 1, 0, 1, 4, 4, 1, 1]), .rounds (sub B14 [1, 1, 0, 1, 4, 4]) 18, .block 0, .seq (sub B14 [1, 1, 1])], [(0, .sl (some a) n c), (4, .v (.int .i64 1)), (12, .sl A0 (n + 1) c0), (16, .ls 1 0 1 1)], [([.v (.int IntKind.u8 165)], 5), ([.v (.int IntKind.u8 166)], 5)]⟩ (by kernel_rfl) (by kernel_rfl) ?_
  refine At.app (34) (5) (1) (1) (A0) (n + 1) (c0) (1) ([.v (.int IntKind.u8 166)]) _ _ _ _ ([.int IntKind.u8 166]) (by kernel_rfl) (fun ρ => by kernel_rfl) (by first | omega | (simp only [Go.maxLen]; omega)) (by first | omega | (simp only [Go.maxLen]; omega)) (by first | omega | (simp only [Go.maxLen]; omega)) fun A1 c1 => ?_
  refine At.toJ (RowF.stable) RowF.fewer 20 300 [0, 4, 12, 16] 3 ⟨pops B14 [1, 1, 0, 1, 4, 4, 1, 0, 4] 5, [.block 1, .seq (sub B14 [1, 1, 0, 1, 4, 4, 1, 1]), .rounds (sub B14 [1, 1, 0, 1, 4, 4]) 17, .block 0, .seq (sub B14 [1, 1, 1])], [(0, .sl (some a) n c), (4, .v (.int .i64 2)), (12, .sl A1 (n + 1 + 1) c1), (16, .ls 2 0 1 1)], [([.v (.int IntKind.u8 165)], 5), ([.v (.int IntKind.u8 166)], 5), ([.v (.int IntKind.u8 167)], 5)]⟩ (by kernel_rfl) (by kernel_rfl) ?_
  refine At.app (34) (5) (1) (1) (A1) (n + 1 + 1) (c1) (1) ([.v (.int IntKind.u8 167)]) _ _ _ _ ([.int IntKind.u8 167]) (by kernel_rfl) (fun ρ => by kernel_rfl) (by first | omega | (simp only [Go.maxLen]; omega)) (by first | omega | (simp only [Go.maxLen]; omega)) (by first | omega | (simp only [Go.maxLen]; omega)) fun A2 c2 => ?_
  refine At.toJ (RowF.stable) RowF.fewer 20 300 [18, 20] 0 ⟨pops B14 [1, 1, 1, 0] 3, [.seq (sub B14 [1, 1, 1, 1])], [(18, .sl A2 (n + 1 + 1 + 1) c2), (20, .io .i64 (↑n : Int))], []⟩ (by kernel_rfl) (by kernel_rfl) ?_
  refine At.slx A2 (n + 1 + 1 + 1) c2 none n 1 (.sl A2 n c2) (by kernel_rfl) RowF.stable (by simp) (by simp) (fun ρ w1 hm hf => ?_) ?_
  · have hle := row_cap hf.1.1 (by omega)
    refine ⟨by omega, ?_⟩
    simp only [SV.den, Option.getD_none, Int.toNat_zero, Nat.zero_mul, Nat.sub_zero, Int.toNat_natCast]
    cases A2 with
    | none => simp
    | some a => simp [Addr.add]
  refine At.toJ (RowF.stable) RowF.fewer 20 300 [2] 0 ⟨.exit .ret, [], [(2, .sl A2 n c2)], []⟩ (by kernel_rfl) (by kernel_rfl) ?_
  refine At.ret (by kernel_rfl) (.sl A2 n c2) (by kernel_rfl) ?_
  intro ρ w9 hm hf
  refine ⟨_, n + 1 + 1 + 1, _, rfl, rfl, ?_⟩
  have hx : bv bs ++ [Value.int .u8 165] ++ [Value.int .u8 166] ++ [Value.int .u8 167] = bv (bs ++ [165, 166, 167]) := by simp [bv]
  rw [← hx]
  exact RowF.fewer _ _ 0 (Nat.zero_le _) hf

set_option maxHeartbeats 4000000 in
set_option maxRecDepth 100000 in
theorem lend_nil (k : Nat) (w : World) :
    Calls Tryd.prog 14 #[.slice none 0 k] w fun e w' => ∃ A' n' c', e = .returned (.slice A' 0 c') ∧ n' = 3 ∧ RowF w (fun _ => False) [] w.heap.size 5 1 A' n' c' (bv ([] ++ [165, 166, 167])) [] w' := by
  refine enter (fn := Tryd.f14) (c := B14) [.sl none 0 k] Tryd.func14 rfl rfl ?_
  refine At.to (noF_stable) (noF_fewer) 20 300 [0, 5, 6] 1 ⟨pops B14 [1, 0] 2, [.seq (sub B14 [1, 1])], [(0, .sl none 0 k), (5, .ls 0 0 0 0), (6, .sl none 0 k)], [([], 5)]⟩ (by kernel_rfl) (by kernel_rfl) ?_
  refine At.lsRow 5 [0, 6] 0 5 1 rfl rfl rfl rfl (by kernel_rfl) ?_
  intro A
  refine At.toJ (RowF.stable) RowF.fewer 20 300 [0, 5, 6] 0 ⟨pops B14 [1, 0] 2, [.seq (sub B14 [1, 1])], [(0, .sl none 0 k), (5, .sl A 0 0), (6, .sl none 0 k)], []⟩ (by kernel_rfl) (by kernel_rfl) ?_
  refine At.appNone 5 1 1 A 0 0 k (fun _ => False) [] w.heap.size [] (by kernel_rfl) ?_
  refine At.toJ (RowF.stable) RowF.fewer 20 300 [0, 4, 12, 16] 1 ⟨pops B14 [1, 1, 0, 1, 4, 4, 1, 0, 4] 5, [.block 1, .seq (sub B14 [1, 1, 0, 1, 4, 4, 1, 1]), .rounds (sub B14 [1, 1, 0, 1, 4, 4]) 19, .block 0, .seq (sub B14 [1, 1, 1])], [(0, .sl none 0 k), (4, .v (.int .i64 0)), (12, .sl A 0 0), (16, .ls 0 0 1 1)], [([.v (.int IntKind.u8 165)], 5)]⟩ (by kernel_rfl) (by kernel_rfl) ?_
  refine At.app (34) (5) (1) (1) (A) (0) (0) (1) ([.v (.int IntKind.u8 165)]) _ _ _ _ ([.int IntKind.u8 165]) (by kernel_rfl) (fun ρ => by kernel_rfl) (by first | omega | (simp only [Go.maxLen]; omega)) (by first | omega | (simp only [Go.maxLen]; omega)) (by first | omega | (simp only [Go.maxLen]; omega)) fun A0 c0 => ?_
  refine At.toJ (RowF.stable) RowF.fewer 20 300 [0, 4, 12, 16] 2 ⟨pops B14 [1, 1, 0, 1, 4, 4, 1, 0, 4] 5, [.block 1, .seq (sub B14 [1, 1, 0, 1, 4, 4, 1, 1]), .rounds (sub B14 [1, 1, 0, 1, 4, 4]) 18, .block 0, .seq (sub B14 [1, 1, 1])], [(0, .sl none 0 k), (4, .v (.int .i64 1)), (12, .sl A0 1 c0), (16, .ls 1 0 1 1)], [([.v (.int IntKind.u8 165)], 5), ([.v (.int IntKind.u8 166)], 5)]⟩ (by kernel_rfl) (by kernel_rfl) ?_
  refine At.app (34) (5) (1) (1) (A0) (1) (c0) (1) ([.v (.int IntKind.u8 166)]) _ _ _ _ ([.int IntKind.u8 166]) (by kernel_rfl) (fun ρ => by kernel_rfl) (by first | omega | (simp only [Go.maxLen]; omega)) (by first | omega | (simp only [Go.maxLen]; omega)) (by first | omega | (simp only [Go.maxLen]; omega)) fun A1 c1 => ?_
  refine At.toJ (RowF.stable) RowF.fewer 20 300 [0, 4, 12, 16] 3 ⟨pops B14 [1, 1, 0, 1, 4, 4, 1, 0, 4] 5, [.block 1, .seq (sub B14 [1, 1, 0, 1, 4, 4, 1, 1]), .rounds (sub B14 [1, 1, 0, 1, 4, 4]) 17, .block 0, .seq (sub B14 [1, 1, 1])], [(0, .sl none 0 k), (4, .v (.int .i64 2)), (12, .sl A1 2 c1), (16, .ls 2 0 1 1)], [([.v (.int IntKind.u8 165)], 5), ([.v (.int IntKind.u8 166)], 5), ([.v (.int IntKind.u8 167)], 5)]⟩ (by kernel_rfl) (by kernel_rfl) ?_
  refine At.app (34) (5) (1) (1) (A1) (2) (c1) (1) ([.v (.int IntKind.u8 167)]) _ _ _ _ ([.int IntKind.u8 167]) (by kernel_rfl) (fun ρ => by kernel_rfl) (by first | omega | (simp only [Go.maxLen]; omega)) (by first | omega | (simp only [Go.maxLen]; omega)) (by first | omega | (simp only [Go.maxLen]; omega)) fun A2 c2 => ?_
  refine At.toJ (RowF.stable) RowF.fewer 20 300 [18, 20] 0 ⟨pops B14 [1, 1, 1, 0] 3, [.seq (sub B14 [1, 1, 1, 1])], [(18, .sl A2 3 c2), (20, .io .i64 0)], []⟩ (by kernel_rfl) (by kernel_rfl) ?_
  refine At.slx A2 3 c2 none 0 1 (.sl A2 0 c2) (by kernel_rfl) RowF.stable (by simp) (by simp) (fun ρ w1 hm hf => ?_) ?_
  · have hle := row_cap hf.1.1 (by omega)
    refine ⟨by omega, ?_⟩
    simp only [SV.den, Option.getD_none, Int.toNat_zero, Nat.zero_mul, Nat.sub_zero, Int.toNat_natCast]
    cases A2 with
    | none => simp
    | some a => simp [Addr.add]
  refine At.toJ (RowF.stable) RowF.fewer 20 300 [2] 0 ⟨.exit .ret, [], [(2, .sl A2 0 c2)], []⟩ (by kernel_rfl) (by kernel_rfl) ?_
  refine At.ret (by kernel_rfl) (.sl A2 0 c2) (by kernel_rfl) ?_
  intro ρ w9 hm hf
  refine ⟨_, 3, _, rfl, rfl, ?_⟩
  exact RowF.fewer _ _ 0 (Nat.zero_le _) hf


/-- A slice of bytes holds these. -/
def SlB (w : World) (A : Option Addr) (n : Nat) (bs : List Nat) : Prop := bs.length = n ∧ (A = none → bs = []) ∧ ∀ a, A = some a → ∀ (j b : Nat), bs[j]? = some b → w.cell? (a.add j) = some (.int .u8 (b : Int))
theorem SlB.below {w w' : World} {A : Option Addr} {n : Nat} {bs : List Nat} (h : SlB w A n bs) (hb : Below w.heap.size w w') : SlB w' A n bs :=
  ⟨h.1, h.2.1, fun a ha j b hj => by
    have hc := h.2.2 a ha j b hj
    rw [cell_below hb (World.block_lt_of_cell? w _ hc)]
    exact hc⟩
theorem SlB.src {w : World} {a : Addr} {n : Nat} {bs : List Nat} (h : SlB w (some a) n bs) : Src w a (bv bs) := fun j u hj => by
  simp only [bv, List.getElem?_map, Option.map_eq_some_iff] at hj
  obtain ⟨b, hb, rfl⟩ := hj
  exact h.2.2 a rfl j b hb
theorem strOf_eq (bs : List Nat) : strOf bs = ⟨(bs.map UInt8.ofNat).toArray⟩ := by
  unfold strOf
  suffices h : ∀ (l : List Nat) (acc : ByteArray), (l.map fun b : Nat => ((b : Nat) : Int)).foldl (fun r n => r.push (UInt8.ofNat n.toNat)) acc = ⟨acc.data ++ (l.map UInt8.ofNat).toArray⟩ by
    rw [h bs ByteArray.empty]
    show (⟨#[] ++ _⟩ : ByteArray) = _
    rw [Array.empty_append]
  intro l
  induction l with
  | nil => intro acc; simp
  | cons x l ih =>
    intro acc
    simp only [List.map_cons, List.foldl_cons]
    rw [ih]
    congr 1
    simp [ByteArray.push]
theorem strOf_inj {xs ys : List Nat} (hx : ∀ b ∈ xs, b < 256) (hy : ∀ b ∈ ys, b < 256) (h : ((strOf xs).toList == (strOf ys).toList) = true) : xs = ys := by
  have h' := eq_of_beq h
  rw [ByteArray.toList_eq, ByteArray.toList_eq, strOf_eq, strOf_eq] at h'
  simp only at h'
  clear h
  induction xs generalizing ys with
  | nil => cases ys with
    | nil => rfl
    | cons y ys => simp at h'
  | cons x xs ih => cases ys with
    | nil => simp at h'
    | cons y ys =>
      simp only [List.map_cons, List.cons.injEq] at h'
      have e : x = y := by
        have := congrArg UInt8.toNat h'.1
        have h1 := hx x (by simp)
        have h2 := hy y (by simp)
        simp [UInt8.toNat_ofNat'] at this
        omega
      subst e
      rw [ih (fun b hb => hx b (by simp [hb])) (fun b hb => hy b (by simp [hb])) h'.2]

noncomputable def B40 : Code := (Tryd.f40.body).getD .skip
set_option maxHeartbeats 4000000 in
set_option maxRecDepth 100000 in
theorem kbytes_any (A B : Option Addr) (n c m k : Nat) (xs ys : List Nat) (w : World) (hx : SlB w A n xs) (hy : SlB w B m ys) :
    Calls Tryd.prog 40 #[.slice A n c, .slice B m k] w fun e w' => e = .returned (.bool ((strOf xs).toList == (strOf ys).toList)) ∧ Below w.heap.size w w' := by
  refine enter (fn := Tryd.f40) (c := B40) [.sl A n c, .sl B m k] Tryd.func40 rfl rfl ?_
  refine At.to (noF_stable) (noF_fewer) 20 300 [1, 5] 0 ⟨pops B40 [1, 0] 1, [.seq (sub B40 [1, 1])], [(1, .sl B m k), (5, .sl A n c)], []⟩ (by kernel_rfl) (by kernel_rfl) ?_
  refine At.cvy A n c xs (.so (strOf xs)) (by kernel_rfl) noF_stable (fun ρ => rfl) (fun ρ w1 hm hf => ?_) ?_
  · have h := hx.below hm.below
    exact ⟨h.1, h.2.1, h.2.2⟩
  refine At.to (noF_stable) (noF_fewer) 20 300 [6, 7] 0 ⟨pops B40 [1, 0] 3, [.seq (sub B40 [1, 1])], [(6, .so (strOf xs)), (7, .sl B m k)], []⟩ (by kernel_rfl) (by kernel_rfl) ?_
  refine At.cvy B m k ys (.so (strOf ys)) (by kernel_rfl) noF_stable (fun ρ => rfl) (fun ρ w1 hm hf => ?_) ?_
  · have h := hy.below hm.below
    exact ⟨h.1, h.2.1, h.2.2⟩
  refine At.to (noF_stable) (noF_fewer) 20 300 [4] 0 ⟨.exit .ret, [], [(4, .bo ((strOf xs).toList == (strOf ys).toList))], []⟩ (by kernel_rfl) (by kernel_rfl) ?_
  refine At.ret (by kernel_rfl) (.bo ((strOf xs).toList == (strOf ys).toList)) (by kernel_rfl) ?_
  intro ρ w9 hm hf
  exact ⟨rfl, hm.below⟩


theorem SlB.head {w : World} {a : Addr} {n m : Nat} {bs cs : List Nat} (h : SlB w (some a) m (bs ++ cs)) (hl : bs.length = n) : SlB w (some a) n bs :=
  ⟨hl, fun h => by (cases h), fun a' ha j b hj => h.2.2 a' ha j b (by
    have := (List.getElem?_eq_some_iff.1 hj).1
    rw [List.getElem?_append_left this]
    exact hj)⟩
theorem wrap_add {n k : Nat} (h : n ≤ 140737488355320) (hk : k ≤ 8) : IntKind.i64.wrap ((n : Int) + (k : Int)) = ((n + k : Nat) : Int) := by
  rw [wrap63 (by omega) (by omega)]
  omega

noncomputable def B17 : Code := (Tryd.f17.body).getD .skip
set_option maxHeartbeats 4000000 in
set_option maxRecDepth 100000 in
theorem kept_any (a : Addr) (B : Option Addr) (n c k : Nat) (bs : List Nat) (w : World) (hm : SlB w (some a) (n + 3) (bs ++ [165, 166, 167])) (hb : SlB w B n bs) (hc : n + 3 ≤ c) (hn : n ≤ 140737488355320) :
    Calls Tryd.prog 17 #[.slice (some a) n c, .slice B n k] w fun e w' => e = .returned (.bool true) ∧ Below w.heap.size w w' := by
  have hl := hb.1
  have w3 : IntKind.i64.wrap ((n : Int) + 3) = ((n + 3 : Nat) : Int) := wrap_add (k := 3) hn (by omega)
  have w0 : IntKind.i64.wrap ((n : Int) + 0) = ((n + 0 : Nat) : Int) := wrap_add (k := 0) hn (by omega)
  have w1 : IntKind.i64.wrap ((n : Int) + 1) = ((n + 1 : Nat) : Int) := wrap_add (k := 1) hn (by omega)
  have w2 : IntKind.i64.wrap ((n : Int) + 2) = ((n + 2 : Nat) : Int) := wrap_add (k := 2) hn (by omega)
  refine enter (fn := Tryd.f17) (c := B17) [.sl (some a) n c, .sl B n k] Tryd.func17 rfl rfl ?_
  refine At.to (noF_stable) (noF_fewer) 20 300 [0, 1, 7, 8] 0 ⟨pops B17 [1, 0, 0] 2, [.seq (sub B17 [1, 0, 1]), .seq (sub B17 [1, 1])], [(0, .sl (some a) n c), (1, .sl B n k), (7, .sl (some a) n c), (8, .sl B n k)], []⟩ (by kernel_rfl) (by kernel_rfl) ?_
  refine At.call noF_stable 40 [.sl (some a) n c, .sl B n k] (.v (.bool true)) (by kernel_rfl) (by kernel_rfl) (by kernel_rfl) (fun _ _ w1 hi _ => (kbytes_any (some a) B n c n k bs bs w1 ((hm.head hl).below hi.mem.below) (hb.below hi.mem.below)).mono fun e w' h => ⟨h.1.trans (by simp [SV.den]), h.2⟩) ?_
  refine At.to (noF_stable) (noF_fewer) 20 300 [1, 11, 14] 0 ⟨pops B17 [1, 1, 0] 4, [.seq (sub B17 [1, 1, 1])], [(1, .sl B n k), (11, .sl (some a) n c), (14, .io .i64 (IntKind.i64.wrap ((↑n : Int) + 3)))], []⟩ (by kernel_rfl) (by kernel_rfl) ?_
  rw [w3]
  refine At.slx (some a) n c none ((n + 3 : Nat) : Int) 1 (.sl (some a) (n + 3) c) (by kernel_rfl) noF_stable (by simp) (by simp only [Option.getD_none]; omega) (fun ρ w1 hm hf => ⟨by omega, ?_⟩) ?_
  · simp only [SV.den, Option.getD_none, Int.toNat_zero, Nat.zero_mul, Nat.sub_zero, Int.toNat_natCast]
    rw [if_neg (by omega)]
    simp [Addr.add]
  refine At.to (noF_stable) (noF_fewer) 20 300 [1, 5, 6, 20, 24] 0 ⟨pops B17 [1, 1, 1, 0, 1, 4, 4, 1, 0, 4, 0] 5, [.seq (sub B17 [1, 1, 1, 0, 1, 4, 4, 1, 0, 4, 1]), .block 1, .seq (sub B17 [1, 1, 1, 0, 1, 4, 4, 1, 1]), .rounds (sub B17 [1, 1, 1, 0, 1, 4, 4]) 19, .block 0, .seq (sub B17 [1, 1, 1, 1])], [(1, .sl B n k), (5, .sl (some a) (n + 3) c), (6, .v (.int .i64 0)), (20, .sl (some a) (n + 3) c), (24, .io .i64 (IntKind.i64.wrap ((↑n : Int) + 0)))], []⟩ (by kernel_rfl) (by kernel_rfl) ?_
  rw [w0]
  refine At.idx a (n + 3) 1 ((n + 0 : Nat) : Int) (by kernel_rfl) (by omega) (by omega) noF_stable ?_
  refine At.to (noF_stable) (noF_fewer) 20 300 [1, 5, 6, 25] 0 ⟨pops B17 [1, 1, 1, 0, 1, 4, 4, 1, 0, 4, 0] 6, [.seq (sub B17 [1, 1, 1, 0, 1, 4, 4, 1, 0, 4, 1]), .block 1, .seq (sub B17 [1, 1, 1, 0, 1, 4, 4, 1, 1]), .rounds (sub B17 [1, 1, 1, 0, 1, 4, 4]) 19, .block 0, .seq (sub B17 [1, 1, 1, 1])], [(1, .sl B n k), (5, .sl (some a) (n + 3) c), (6, .v (.int .i64 0)), (25, .v (.pointer (some (a.add ((↑(n + 0) : Int).toNat * 1)))))], []⟩ (by kernel_rfl) (by kernel_rfl) ?_
  refine At.ldx (a.add ((((n + 0 : Nat) : Int)).toNat * 1)) (.v (.int .u8 165)) (by kernel_rfl) noF_stable (fun ρ w1 hm' hf => ?_) ?_
  · rw [Int.toNat_natCast, Nat.mul_one]
    exact (hm.below hm'.below).2.2 a rfl (n + 0) 165 (by rw [List.getElem?_append_right (by omega), hl, Nat.add_sub_cancel_left]; rfl)
  refine At.to (noF_stable) (noF_fewer) 20 300 [1, 5, 6, 20, 24] 0 ⟨pops B17 [1, 1, 1, 0, 1, 4, 4, 1, 0, 4, 0] 5, [.seq (sub B17 [1, 1, 1, 0, 1, 4, 4, 1, 0, 4, 1]), .block 1, .seq (sub B17 [1, 1, 1, 0, 1, 4, 4, 1, 1]), .rounds (sub B17 [1, 1, 1, 0, 1, 4, 4]) 18, .block 0, .seq (sub B17 [1, 1, 1, 1])], [(1, .sl B n k), (5, .sl (some a) (n + 3) c), (6, .v (.int .i64 1)), (20, .sl (some a) (n + 3) c), (24, .io .i64 (IntKind.i64.wrap ((↑n : Int) + IntKind.i64.wrap (0 + 1))))], []⟩ (by kernel_rfl) (by kernel_rfl) ?_
  rw [show IntKind.i64.wrap (0 + 1) = 1 from by decide]
  rw [w1]
  refine At.idx a (n + 3) 1 ((n + 1 : Nat) : Int) (by kernel_rfl) (by omega) (by omega) noF_stable ?_
  refine At.to (noF_stable) (noF_fewer) 20 300 [1, 5, 6, 25] 0 ⟨pops B17 [1, 1, 1, 0, 1, 4, 4, 1, 0, 4, 0] 6, [.seq (sub B17 [1, 1, 1, 0, 1, 4, 4, 1, 0, 4, 1]), .block 1, .seq (sub B17 [1, 1, 1, 0, 1, 4, 4, 1, 1]), .rounds (sub B17 [1, 1, 1, 0, 1, 4, 4]) 18, .block 0, .seq (sub B17 [1, 1, 1, 1])], [(1, .sl B n k), (5, .sl (some a) (n + 3) c), (6, .v (.int .i64 1)), (25, .v (.pointer (some (Addr.mk a.block (a.off + (↑(n + 1) : Int).toNat * 1) none))))], []⟩ (by kernel_rfl) (by kernel_rfl) ?_
  refine At.ldx (a.add ((((n + 1 : Nat) : Int)).toNat * 1)) (.v (.int .u8 166)) (by kernel_rfl) noF_stable (fun ρ w1 hm' hf => ?_) ?_
  · rw [Int.toNat_natCast, Nat.mul_one]
    exact (hm.below hm'.below).2.2 a rfl (n + 1) 166 (by rw [List.getElem?_append_right (by omega), hl, Nat.add_sub_cancel_left]; rfl)
  refine At.to (noF_stable) (noF_fewer) 20 300 [1, 5, 6, 20, 24] 0 ⟨pops B17 [1, 1, 1, 0, 1, 4, 4, 1, 0, 4, 0] 5, [.seq (sub B17 [1, 1, 1, 0, 1, 4, 4, 1, 0, 4, 1]), .block 1, .seq (sub B17 [1, 1, 1, 0, 1, 4, 4, 1, 1]), .rounds (sub B17 [1, 1, 1, 0, 1, 4, 4]) 17, .block 0, .seq (sub B17 [1, 1, 1, 1])], [(1, .sl B n k), (5, .sl (some a) (n + 3) c), (6, .v (.int .i64 2)), (20, .sl (some a) (n + 3) c), (24, .io .i64 (IntKind.i64.wrap ((↑n : Int) + IntKind.i64.wrap (1 + 1))))], []⟩ (by kernel_rfl) (by kernel_rfl) ?_
  rw [show IntKind.i64.wrap (1 + 1) = 2 from by decide]
  rw [w2]
  refine At.idx a (n + 3) 1 ((n + 2 : Nat) : Int) (by kernel_rfl) (by omega) (by omega) noF_stable ?_
  refine At.to (noF_stable) (noF_fewer) 20 300 [1, 5, 6, 25] 0 ⟨pops B17 [1, 1, 1, 0, 1, 4, 4, 1, 0, 4, 0] 6, [.seq (sub B17 [1, 1, 1, 0, 1, 4, 4, 1, 0, 4, 1]), .block 1, .seq (sub B17 [1, 1, 1, 0, 1, 4, 4, 1, 1]), .rounds (sub B17 [1, 1, 1, 0, 1, 4, 4]) 17, .block 0, .seq (sub B17 [1, 1, 1, 1])], [(1, .sl B n k), (5, .sl (some a) (n + 3) c), (6, .v (.int .i64 2)), (25, .v (.pointer (some (Addr.mk a.block (a.off + (↑(n + 2) : Int).toNat * 1) none))))], []⟩ (by kernel_rfl) (by kernel_rfl) ?_
  refine At.ldx (a.add ((((n + 2 : Nat) : Int)).toNat * 1)) (.v (.int .u8 167)) (by kernel_rfl) noF_stable (fun ρ w1 hm' hf => ?_) ?_
  · rw [Int.toNat_natCast, Nat.mul_one]
    exact (hm.below hm'.below).2.2 a rfl (n + 2) 167 (by rw [List.getElem?_append_right (by omega), hl, Nat.add_sub_cancel_left]; rfl)
  refine At.to (noF_stable) (noF_fewer) 20 300 [4] 0 ⟨.exit .ret, [], [(4, .v (.bool true))], []⟩ (by kernel_rfl) (by kernel_rfl) ?_
  refine At.ret (by kernel_rfl) (.v (.bool true)) (by kernel_rfl) ?_
  intro ρ w9 hm hf
  exact ⟨rfl, hm.below⟩

end Go.Proofs.YtiehnigbcfkcdaaDoor
