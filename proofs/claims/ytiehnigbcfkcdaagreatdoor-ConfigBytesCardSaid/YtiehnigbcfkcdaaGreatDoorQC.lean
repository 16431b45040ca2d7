import Derived.Test.YtiehnigbcfkcdaaGreatDoorQB
set_option linter.unusedSimpArgs false
set_option linter.unusedVariables false
namespace Go.Proofs.YtiehnigbcfkcdaaGreatDoor
open Go.RowKit Go.Sx

def crcV (bs : List Nat) : Int := (((~~~(crcGo (~~~0#32) bs)).toNat : Nat) : Int)
theorem leb_lt : ∀ (m x : Nat), x ≤ m → ∀ b ∈ leb x, b < 256 := by
  intro m
  induction m with
  | zero =>
    intro x hx b hb
    rw [leb_small (by omega)] at hb
    simp only [List.mem_singleton] at hb
    omega
  | succ m ih =>
    intro x hx b hb
    by_cases h : x < 128
    · rw [leb_small h] at hb
      simp only [List.mem_singleton] at hb
      omega
    · rw [leb_big h] at hb
      rcases List.mem_cons.1 hb with rfl | hb
      · omega
      · exact ih _ (by omega) b hb
theorem nums_lt (l : List Int) : ∀ b ∈ nums l, b < 256 := by
  intro b hb
  simp only [nums, List.mem_flatMap] at hb
  obtain ⟨x, _, hx⟩ := hb
  exact leb_lt _ _ (Nat.le_refl _) b hx
theorem nums_len : ∀ l : List Int, (nums l).length ≤ 10 * l.length
  | [] => by simp [nums]
  | x :: l => by
    have h1 := leb_u64 x
    have h2 := nums_len l
    have e : nums (x :: l) = leb (IntKind.u64.wrap x).toNat ++ nums l := by simp [nums]
    rw [e, List.length_append, List.length_cons]
    omega
theorem nums_pos (x : Int) (l : List Int) : nums (x :: l) ≠ [] := by
  intro h
  have h1 := leb_pos (IntKind.u64.wrap x).toNat
  have e : nums (x :: l) = leb (IntKind.u64.wrap x).toNat ++ nums l := by simp [nums]
  rw [e] at h
  rw [(List.append_eq_nil_iff.1 h).1] at h1
  simp at h1
theorem row_cv {base n c : Nat} {A : Option Addr} {bs : List Nat} {ρ : List Nat} {w : World} (h : Row base 5 1 A n c (bv bs) ρ w) : SlB w A n bs := by
  have hl : bs.length = n := by have := h.len; simp only [bv, List.length_map] at this; omega
  refine ⟨hl, fun ha => ?_, fun a ha j b hj => ?_⟩
  · subst ha
    rcases h.1.2 with ⟨h2, h3⟩ | ⟨g, cap, cur, hv, _⟩
    · injection h2 with _ h4 _
      exact List.eq_nil_of_length_eq_zero (by omega)
    · cases hv
  · subst ha
    have := (List.getElem?_eq_some_iff.1 hj).1
    simpa using row_cell h hj (by omega)
theorem crc_start {X : BitVec 32} (h : X = 0#32) : ((X.toNat : Nat) : Int) = 0 := by subst h; rfl

noncomputable def B34 : Code := (Tryz.f34.body).getD .skip
set_option maxHeartbeats 4000000 in
set_option maxRecDepth 100000 in
theorem sum_any (p : Addr) (A : Option Addr) (n c : Nat) (bs : List Nat) (hbs : ∀ b ∈ bs, b < 256) (hn : n ≤ 140737488355328) (w : World) (hp : w.cell? p = some (.slice A n c)) (hb : SlB w A n bs) (htab : Lib.TabIs Tryz.prog w "keepsake/crc.fours" .u32 foursTab) :
    Calls Tryz.prog 34 #[.slice (some p) 1 1] w fun e w' => e = .returned (.int .u32 (crcV bs)) ∧ Below w.heap.size w w' := by
  refine enter (fn := Tryz.f34) (c := B34) [.sl (some p) 1 1] Tryz.func34 rfl rfl ?_
  refine At.to (noF_stable) (noF_fewer) 20 300 [3, 6, 7, 8, 9] 0 ⟨.code (sub B34 [1, 1, 0, 1, 4, 4, 1, 0]), [.seq (sub B34 [1, 1, 0, 1, 4, 4, 1, 1]), .rounds (sub B34 [1, 1, 0, 1, 4, 4]) 19, .block 0, .seq (sub B34 [1, 1, 1])], [(3, .v (.int IntKind.u32 0)), (6, .sl (some p) 1 1), (7, .io .i64 1), (8, .v (.int .i64 0)), (9, .bo true)], []⟩ (by kernel_rfl) (by kernel_rfl) ?_
  refine At.res 9 (true) true (by kernel_rfl) (by first | assumption | (simp only [*]; done) | (simp [*]; done)) ?_
  refine At.to (noF_stable) (noF_fewer) 20 300 [3, 6, 7, 8] 0 ⟨pops B34 [1, 1, 0, 1, 4, 4, 1, 1, 0, 4, 0] 0, [.seq (sub B34 [1, 1, 0, 1, 4, 4, 1, 1, 0, 4, 1]), .block 1, .seq (sub B34 [1, 1, 0, 1, 4, 4, 1, 1, 1]), .rounds (sub B34 [1, 1, 0, 1, 4, 4]) 19, .block 0, .seq (sub B34 [1, 1, 1])], [(3, .v (.int IntKind.u32 0)), (6, .sl (some p) 1 1), (7, .io .i64 1), (8, .v (.int .i64 0))], []⟩ (by kernel_rfl) (by kernel_rfl) ?_
  refine At.idx p 1 1 (0 : Int) (by kernel_rfl) (by omega) (by omega) noF_stable ?_
  refine At.to (noF_stable) (noF_fewer) 20 300 [3, 6, 7, 8, 10] 0 ⟨pops B34 [1, 1, 0, 1, 4, 4, 1, 1, 0, 4, 0] 1, [.seq (sub B34 [1, 1, 0, 1, 4, 4, 1, 1, 0, 4, 1]), .block 1, .seq (sub B34 [1, 1, 0, 1, 4, 4, 1, 1, 1]), .rounds (sub B34 [1, 1, 0, 1, 4, 4]) 19, .block 0, .seq (sub B34 [1, 1, 1])], [(3, .v (.int IntKind.u32 0)), (6, .sl (some p) 1 1), (7, .io .i64 1), (8, .v (.int .i64 0)), (10, .v (.pointer (some (p.add (Int.toNat 0 * 1)))))], []⟩ (by kernel_rfl) (by kernel_rfl) ?_
  refine At.ldx (p.add ((0 : Int).toNat * 1)) (.sl A n c) (by kernel_rfl) noF_stable (fun ρ w1 hm hf => ?_) ?_
  · rw [show p.add ((0 : Int).toNat * 1) = p from by simp [Addr.add], World.cell?_of_block (hm.below.block _ (World.block_lt_of_cell? w _ hp))]
    exact hp
  refine At.to (noF_stable) (noF_fewer) 20 300 [6, 7, 8, 12, 13] 0 ⟨pops B34 [1, 1, 0, 1, 4, 4, 1, 1, 0, 4, 1] 2, [.block 1, .seq (sub B34 [1, 1, 0, 1, 4, 4, 1, 1, 1]), .rounds (sub B34 [1, 1, 0, 1, 4, 4]) 19, .block 0, .seq (sub B34 [1, 1, 1])], [(6, .sl (some p) 1 1), (7, .io .i64 1), (8, .v (.int .i64 0)), (12, .v (.int IntKind.u32 0)), (13, .sl A n c)], []⟩ (by kernel_rfl) (by kernel_rfl) ?_
  refine At.call noF_stable 54 [.v (.int .u32 0), .sl A n c] (.io .u32 (crcV bs)) (by kernel_rfl) (by kernel_rfl) (by kernel_rfl) (fun ρ _ w1 hi _ => more_any 0#32 A n c bs hbs hn w1 (hb.below hi.mem.below) (tab_below htab hi.mem.below rfl)) ?_
  refine At.to (noF_stable) (noF_fewer) 20 300 [3, 6, 7, 8, 9] 0 ⟨.code (sub B34 [1, 1, 0, 1, 4, 4, 1, 0]), [.seq (sub B34 [1, 1, 0, 1, 4, 4, 1, 1]), .rounds (sub B34 [1, 1, 0, 1, 4, 4]) 18, .block 0, .seq (sub B34 [1, 1, 1])], [(3, .io IntKind.u32 (crcV bs)), (6, .sl (some p) 1 1), (7, .io .i64 1), (8, .v (.int .i64 1)), (9, .bo false)], []⟩ (by kernel_rfl) (by kernel_rfl) ?_
  refine At.res 9 (false) false (by kernel_rfl) (by first | assumption | (simp only [*]; done) | (simp [*]; done)) ?_
  refine At.to (noF_stable) (noF_fewer) 20 300 [2] 0 ⟨.exit .ret, [], [(2, .io IntKind.u32 (crcV bs))], []⟩ (by kernel_rfl) (by kernel_rfl) ?_
  refine At.ret (by kernel_rfl) (.io IntKind.u32 (crcV bs)) (by kernel_rfl) ?_
  intro ρ w9 hm hf
  exact ⟨rfl, hm.below⟩

noncomputable def B40 : Code := (Tryz.f40.body).getD .skip
set_option maxHeartbeats 4000000 in
set_option maxRecDepth 100000 in
theorem rsum_any (A : Option Addr) (n c : Nat) (bs : List Nat) (hbs : ∀ b ∈ bs, b < 256) (hn : n ≤ 140737488355328) (w : World) (hb : SlB w A n bs) :
    Calls Tryz.prog 40 #[.slice A n c] w fun e w' => e = .returned (.int .u32 (crcV bs)) ∧ Below w.heap.size w w' := by
  refine enter (fn := Tryz.f40) (c := B40) [.sl A n c] Tryz.func40 rfl rfl ?_
  refine At.to (noF_stable) (noF_fewer) 20 300 [3] 0 ⟨pops B40 [1, 0] 1, [.seq (sub B40 [1, 1])], [(3, .sl A n c)], []⟩ (by kernel_rfl) (by kernel_rfl) ?_
  refine At.call noF_stable 60 [.v (.int .u32 0), .sl A n c] (.io .u32 (crcV bs)) (by kernel_rfl) (by kernel_rfl) (by kernel_rfl) (fun ρ _ w1 hi _ => rmore_any 0#32 A n c bs hbs hn w1 (hb.below hi.mem.below)) ?_
  refine At.to (noF_stable) (noF_fewer) 20 300 [2] 0 ⟨.exit .ret, [], [(2, .io IntKind.u32 (crcV bs))], []⟩ (by kernel_rfl) (by kernel_rfl) ?_
  refine At.ret (by kernel_rfl) (.io IntKind.u32 (crcV bs)) (by kernel_rfl) ?_
  intro ρ w9 hm hf
  exact ⟨rfl, hm.below⟩

set_option maxHeartbeats 4000000 in
set_option maxRecDepth 100000 in
theorem bytes_no (g s k sz sl of gp lt ea : Int) (d : Bool) (w : World) (h0 : jobE (wrongF g s k sz sl of gp lt ea) = 4) :
    Calls Tryz.prog 9 #[.agg #[.int .i64 g, .int .i64 s, .int .i64 k, .int .i64 sz, .int .i64 sl, .int .i64 of, .int .i64 gp, .int .i64 lt, .int .i64 ea, .bool d]] w fun e w' => e = .returned (.tuple #[.slice none 0 0, .int .i64 4]) ∧ Below w.heap.size w w' := by
  refine enter (fn := Tryz.f9) (c := B9) [.agg (cfgL g s k sz sl of gp lt ea d)] Tryz.func9 rfl rfl ?_
  refine At.to (noF_stable) (noF_fewer) 20 300 [1, 8] 1 ⟨pops B9 [1, 0, 0] 1, [.seq (sub B9 [1, 0, 1]), .seq (sub B9 [1, 1])], [(1, .lp 0 0), (8, .agg [.io .i64 g, .io .i64 s, .io .i64 k, .io .i64 sz, .io .i64 sl, .io .i64 of, .io .i64 gp, .io .i64 lt, .io .i64 ea, .bo d])], [([.io .i64 g, .io .i64 s, .io .i64 k, .io .i64 sz, .io .i64 sl, .io .i64 of, .io .i64 gp, .io .i64 lt, .io .i64 ea, .bo d], 24)]⟩ (by kernel_rfl) (by kernel_rfl) ?_
  refine At.call (noF_stable) 29 [.agg [.io .i64 g, .io .i64 s, .io .i64 k, .io .i64 sz, .io .i64 sl, .io .i64 of, .io .i64 gp, .io .i64 lt, .io .i64 ea, .bo d]] (.io .i64 (jobE (wrongF g s k sz sl of gp lt ea))) (by kernel_rfl) (by kernel_rfl) (by kernel_rfl) (fun _ _ w _ _ => check_any (g) (s) (k) (sz) (sl) (of) (gp) (lt) (ea) (d) w) ?_
  refine At.to (noF_stable) (noF_fewer) 20 300 [1, 4, 11] 1 ⟨.code (sub B9 [1, 0, 1, 1]), [.seq (sub B9 [1, 1])], [(1, .lp 0 0), (4, .io .i64 (jobE (wrongF g s k sz sl of gp lt ea))), (11, .bo (jobE (wrongF g s k sz sl of gp lt ea) != 0))], [([.io .i64 g, .io .i64 s, .io .i64 k, .io .i64 sz, .io .i64 sl, .io .i64 of, .io .i64 gp, .io .i64 lt, .io .i64 ea, .bo d], 24)]⟩ (by kernel_rfl) (by kernel_rfl) ?_
  refine At.res 11 (jobE (wrongF g s k sz sl of gp lt ea) != 0) true (by kernel_rfl) (by first | assumption | (simp only [*]; done) | (simp [*]; done)) ?_
  refine At.to (noF_stable) (noF_fewer) 20 300 [2, 3] 0 ⟨.exit .ret, [], [(2, .v (.slice none 0 0)), (3, .io .i64 (jobE (wrongF g s k sz sl of gp lt ea)))], []⟩ (by kernel_rfl) (by kernel_rfl) ?_
  refine At.ret (by kernel_rfl) (.tup [.v (.slice none 0 0), .io .i64 (jobE (wrongF g s k sz sl of gp lt ea))]) (by kernel_rfl) ?_
  intro ρ w9 hm hf
  exact ⟨by rw [h0]; rfl, hm.below⟩

noncomputable def B10 : Code := (Tryz.f10.body).getD .skip
set_option maxHeartbeats 4000000 in
set_option maxRecDepth 100000 in
theorem digest_no (g s k sz sl of gp lt ea : Int) (d : Bool) (w : World) (h0 : jobE (wrongF g s k sz sl of gp lt ea) = 4) :
    Calls Tryz.prog 10 #[.agg #[.int .i64 g, .int .i64 s, .int .i64 k, .int .i64 sz, .int .i64 sl, .int .i64 of, .int .i64 gp, .int .i64 lt, .int .i64 ea, .bool d]] w fun e w' => e = .returned (.tuple #[.int .u32 0, .int .i64 4]) ∧ Below w.heap.size w w' := by
  refine enter (fn := Tryz.f10) (c := B10) [.agg (cfgL g s k sz sl of gp lt ea d)] Tryz.func10 rfl rfl ?_
  refine At.to (noF_stable) (noF_fewer) 20 300 [7] 0 ⟨pops B10 [1, 0] 1, [.seq (sub B10 [1, 1])], [(7, .agg [.io .i64 g, .io .i64 s, .io .i64 k, .io .i64 sz, .io .i64 sl, .io .i64 of, .io .i64 gp, .io .i64 lt, .io .i64 ea, .bo d])], []⟩ (by kernel_rfl) (by kernel_rfl) ?_
  refine At.call noF_stable 9 [.agg (cfgL g s k sz sl of gp lt ea d)] (.tup [.v (.slice none 0 0), .v (.int .i64 4)]) (by kernel_rfl) (by kernel_rfl) (by kernel_rfl) (fun ρ _ w1 hi _ => bytes_no g s k sz sl of gp lt ea d w1 h0) ?_
  refine At.to (noF_stable) (noF_fewer) 20 300 [2, 3] 0 ⟨.exit .ret, [], [(2, .v (.int IntKind.u32 0)), (3, .v (.int .i64 4))], []⟩ (by kernel_rfl) (by kernel_rfl) ?_
  refine At.ret (by kernel_rfl) (.tup [.v (.int IntKind.u32 0), .v (.int .i64 4)]) (by kernel_rfl) ?_
  intro ρ w9 hm hf
  exact ⟨rfl, hm.below⟩

set_option maxHeartbeats 4000000 in
set_option maxRecDepth 100000 in
theorem digest_ok (g s k sz sl of gp lt ea : Int) (d : Bool) (w : World) (h0 : jobE (wrongF g s k sz sl of gp lt ea) = 0) (htab : Lib.TabIs Tryz.prog w "keepsake/crc.fours" .u32 foursTab) :
    Calls Tryz.prog 10 #[.agg #[.int .i64 g, .int .i64 s, .int .i64 k, .int .i64 sz, .int .i64 sl, .int .i64 of, .int .i64 gp, .int .i64 lt, .int .i64 ea, .bool d]] w fun e w' => e = .returned (.tuple #[.int .u32 (crcV (nums [g, s, k, sz, sl, of, gp, lt, ea, (bif d then 1 else 0)])), .int .i64 0]) ∧ Below w.heap.size w w' := by
  have hlt := nums_lt [g, s, k, sz, sl, of, gp, lt, ea, (bif d then 1 else 0)]
  have hlen := nums_len [g, s, k, sz, sl, of, gp, lt, ea, (bif d then 1 else 0)]
  simp only [List.length_cons, List.length_nil] at hlen
  have hby := fun w1 => bytes_ok g s k sz sl of gp lt ea d w1 h0
  generalize nums [g, s, k, sz, sl, of, gp, lt, ea, (bif d then 1 else 0)] = bs at hlt hlen hby ⊢
  refine enterF (N := w.heap.size) (F := FrameR w (fun _ => False) []) (fn := Tryz.f10) (c := B10) [.agg (cfgL g s k sz sl of gp lt ea d)] Tryz.func10 rfl rfl (Nat.le_refl _) (FrameR.start _ [] (by simp)) ?_
  refine At.toJ (FrameR.stable) FrameR.fewer 20 300 [7] 0 ⟨pops B10 [1, 0] 1, [.seq (sub B10 [1, 1])], [(7, .agg [.io .i64 g, .io .i64 s, .io .i64 k, .io .i64 sz, .io .i64 sl, .io .i64 of, .io .i64 gp, .io .i64 lt, .io .i64 ea, .bo d])], []⟩ (by kernel_rfl) (by kernel_rfl) ?_
  refine At.mkrowv (base := w.heap.size) (e := 5) (size := 1) 9 [.agg (cfgL g s k sz sl of gp lt ea d)] (fun A n c => .tup [.sl A n c, .v (.int .i64 0)]) (fun _ => False) [] (bv bs) (by kernel_rfl) (by kernel_rfl) (by kernel_rfl) (by kernel_rfl) (by kernel_rfl) (fun ρ w1 hf => hf) (Nat.le_refl _) (fun ρ w1 hm hf => hby w1) ?_
  intro A n c
  refine At.toJ (RowF.stable) RowF.fewer 20 300 [15] 1 ⟨pops B10 [1, 1, 1, 0] 2, [.seq (sub B10 [1, 1, 0, 1, 2, 1])], [(15, .ls 0 0 1 1)], [([.sl A n c], 33)]⟩ (by kernel_rfl) (by kernel_rfl) ?_
  refine At.mono (F' := fun ρ w1 => RowF w (fun _ => False) [] w.heap.size 5 1 A n c (bv bs) ρ w1 ∧ n ≤ 100) (fun ρ w1 h => ⟨h, by have := (row_cv h.1.1).1; omega⟩) (At.pure fun hn => ?_)
  refine At.call RowF.stable 34 [.ls 0 0 1 1] (.io .u32 (crcV bs)) (by kernel_rfl) (by kernel_rfl) (by kernel_rfl) (fun ρ _ w1 hi hf => sum_any ⟨nth ρ 0, 0, none⟩ A n c bs hlt (by omega) w1 ((cell_of_loc hi.mem (i := 0) (c := [.sl A n c]) (t := 33) rfl 0).trans rfl) (row_cv hf.1.1) (tab_below htab hi.mem.below rfl)) ?_
  refine At.toJ (RowF.stable) RowF.fewer 20 300 [2, 3] 0 ⟨.exit .ret, [], [(2, .io IntKind.u32 (crcV bs)), (3, .v (.int .i64 0))], []⟩ (by kernel_rfl) (by kernel_rfl) ?_
  refine At.ret (by kernel_rfl) (.tup [.io IntKind.u32 (crcV bs), .v (.int .i64 0)]) (by kernel_rfl) ?_
  intro ρ w9 hm hf
  exact ⟨rfl, hm.below⟩

end Go.Proofs.YtiehnigbcfkcdaaGreatDoor
