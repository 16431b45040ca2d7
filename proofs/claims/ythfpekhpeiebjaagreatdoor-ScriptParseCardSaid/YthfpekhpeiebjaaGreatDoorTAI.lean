/- Joined texts: SW, SA. -/
import Derived.Test.YthfpekhpeiebjaaGreatDoorTAH
set_option linter.unusedSimpArgs false
set_option linter.unusedVariables false
namespace Go.Sx
open Go
def pAI0 : List Nat := [1, 1, 1, 1, 0, 1, 4, 4, 1, 1, 0, 4, 1, 1, 0, 0]
def pAI1 : List Nat := [1, 1, 1, 1, 0, 1, 4, 4, 1, 1, 0, 4, 1, 1, 0, 1]
def pAI2 : List Nat := [1, 1, 1, 1, 0, 1, 4, 4, 1, 1, 0, 4, 1, 1, 1]
def pAI3 : List Nat := [1, 1, 1, 1, 0, 1, 4, 4, 1, 1, 0, 4, 1, 0]
def pAI4 : List Nat := [1, 1, 1, 1, 0, 1, 4, 4, 1, 1, 0, 4, 1, 1]
def pAI5 : List Nat := [1, 1, 1, 1, 0, 1, 4, 4, 1, 1, 1]
def pAI6 : List Nat := [1, 1, 1, 1, 0, 1, 4, 4]
def pAI7 : List Nat := [1, 1, 1, 1, 1]
end Go.Sx
section
namespace Go.Proofs.YthfpekhpeiebjaaGreatDoor
open Go.RowKit Go.Sx
structure Wd (w : World) : Prop where
 tab : Lib.TabIs Tryz.prog w "strings.asciiSpace" .u8 Lib.asciiSpaceTab
 tp : Lib.TabIs Tryz.prog w "internal/strconv.uint64pow10" .u64 Lib.pow10Tab
 v1 : ∃ tp q, w.var? Tryz.prog "strconv.ErrSyntax" = some #[.iface tp q]
 v2 : ∃ tp q, w.var? Tryz.prog "strconv.ErrRange" = some #[.iface tp q]
 c1 : ∃ m, w.cell? ⟨1, 0, none⟩ = some (.int .i64 m)
theorem Wd.below {w w' : World} (h : Wd w) (hb : Below w.heap.size w w') : Wd w' := by
 obtain ⟨h1, h2, ⟨t3, q3, h3⟩, ⟨t4, q4, h4⟩, ⟨m, h5⟩⟩ := h
 exact ⟨tab_below h1 hb rfl, tab_below h2 hb rfl, ⟨t3, q3, var_below h3 hb⟩, ⟨t4, q4, var_below h4 hb⟩, ⟨m, cell_below h5 hb⟩⟩
end Go.Proofs.YthfpekhpeiebjaaGreatDoor
end
section
namespace Go.Proofs.YthfpekhpeiebjaaGreatDoor
open Go.RowKit Go.Sx
noncomputable def B29 : Code := (Tryz.f29.body).getD .skip
noncomputable def sq29 (p : List Nat) : Go.Sx.K := .seq (sub B29 p)
def numsE (w : World) (o : Option (List Int)) (e : Ending) (w' : World) : Prop := match o with
 | none => e = .returned (.tuple #[.slice none 0 0, .bool false]) ∧ Below w.heap.size w w'
 | some l => ∃ A' c', e = .returned (.tuple #[.slice A' l.length c', .bool true]) ∧ RowE w (fun _ => False) [] w.heap.size 2 1 A' l.length c' (l.map (Value.int .i64)) [] [] w'
set_option maxHeartbeats 4000000 in
set_option maxRecDepth 100000 in
theorem nums_len (s : List UInt8) (n : Nat) (hs : s.length ≤ 1048576) (hn : n ≤ 2) (hps : (pcs [] s).length ≠ n) (w : World) (hw : Wd w) :
  Calls Tryz.prog 29 #[.string (mkB s), .int .i64 (n : Int)] w fun e w' => e = .returned (.tuple #[.slice none 0 0, .bool false]) ∧ Below w.heap.size w w' := by
 refine enterF (N := w.heap.size) (F := RowE w (fun _ => False) [] w.heap.size 2 1 none 0 0 [] []) (fn := Tryz.f29) (c := B29) [.so (mkB s), .io .i64 (n : Int)] Tryz.func29 rfl rfl (Nat.le_refl _) ⟨⟨⟨⟨World.ownsRow_nil _ _ _ _, by simp [Value.ownBlock]⟩, Nat.le_refl _⟩, FrameR.start _ [] (by simp), by simp [Value.ownBlock]⟩, by simp⟩ ?_
 refine zI [1, 12] 0 ⟨pops B29 [1, 0] 1, [(sq29 [1, 1])], [(1, .io .i64 (↑n : Int)), (12, .so (mkB s))], []⟩ ?_
 refine At.callx RowE.stable (X := Nat × Nat) 52 [.so (mkB s), .v (.string ⟨#[32]⟩)] (fun x => .sl (some ⟨x.1, 0, none⟩) x.2 x.2) (fun x _ _ => x.2 = (pcs [] s).length) (fun _ => fun _ _ _ _ _ _ h => h) (by kernel_rfl) (by kernel_rfl) (by kernel_rfl) (by kernel_rfl) (fun ρ a w1 hi hf => ?_) fun x => ?_
 ·have hw1 := hw.below hi.mem.below
  obtain ⟨mm, h3⟩ := hw1.c1
  refine (Tryz.strings_Split (mkB s) ⟨#[32]⟩ mm w1 (by rw [mkB_size]; omega) h3 (by decide)).mono ?_
  rintro e w' ⟨rfl, rfl⟩
  exact ⟨(_, _), rfl, (Below.refl _ _).alloc (Nat.le_refl _) _, split_len (mkB s)⟩
 refine At.mono (F' := fun ρ w1 => RowE w (fun _ => False) [] w.heap.size 2 1 none 0 0 [] [] ρ w1 ∧ x.2 = (pcs [] s).length) (fun ρ w1 h => h) (At.pure ?_)
 obtain ⟨x1, x2⟩ := x
 rintro rfl
 refine zI [6, 17] 0 ⟨.code (sub B29 [1, 1, 0, 1]), [(sq29 [1, 1, 1])], [(6, .sl (some (Addr.mk x1 0 none)) (pcs [] s).length (pcs [] s).length), (17, .bo ((↑(x1, (pcs [] s).length).snd : Int) != (↑n : Int)))], []⟩ ?_
 rcases zB ((↑(x1, (pcs [] s).length).snd : Int) != (↑n : Int)) with b0 | b0
 ·refine zR 17 b0 ?_
  refine zI [4, 5] 0 ⟨.exit .ret, [], [(4, .v (.slice none 0 0)), (5, .v (.bool false))], []⟩ ?_
  refine zE (.tup [.v (.slice none 0 0), .v (.bool false)]) ?_
  intro ρ w9 hm' hf
  exact ⟨rfl, hm'.below⟩
 refine zR 17 b0 ?_
 refine zI [7, 18, 19, 20, 21] 0 ⟨.code (sub B29 [1, 1, 1, 1, 0, 1, 4, 4, 1, 0]), [(sq29 [1, 1, 1, 1, 0, 1, 4, 4, 1, 1]), .rounds (sub B29 pAI6) 19, .block 0, (sq29 pAI7)], [(7, .v (.slice none 0 0)), (18, .sl (some (Addr.mk x1 0 none)) (pcs [] s).length (pcs [] s).length), (19, .io .i64 (↑(pcs [] s).length : Int)), (20, .v (.int .i64 0)), (21, .bo (decide (0 < (↑(pcs [] s).length : Int))))], []⟩ ?_
 rcases zB (decide (0 < (↑(pcs [] s).length : Int))) with b1 | b1
 ·refine zR 21 b1 ?_
  refine zI [7, 18, 19, 20] 0 ⟨pops B29 [1, 1, 1, 1, 0, 1, 4, 4, 1, 1, 0, 4, 0] 0, [(sq29 [1, 1, 1, 1, 0, 1, 4, 4, 1, 1, 0, 4, 1]), .block 1, (sq29 pAI5), .rounds (sub B29 pAI6) 19, .block 0, (sq29 pAI7)], [(7, .v (.slice none 0 0)), (18, .sl (some (Addr.mk x1 0 none)) (pcs [] s).length (pcs [] s).length), (19, .io .i64 (↑(pcs [] s).length : Int)), (20, .v (.int .i64 0))], []⟩ ?_
  exfalso
  simp at b0
  omega
 refine zR 21 b1 ?_
 refine zI [4, 5] 0 ⟨.exit .ret, [], [(4, .v (.slice none 0 0)), (5, .v (.bool true))], []⟩ ?_
 refine zE (.tup [.v (.slice none 0 0), .v (.bool true)]) ?_
 exfalso
 simp at b0
 omega
set_option maxHeartbeats 8000000 in
set_option maxRecDepth 100000 in
theorem nums1 (s : List UInt8) {p0 : List UInt8} (hs : s.length ≤ 1048576) (hps : pcs [] s = [p0]) (w : World) (hw : Wd w) :
  Calls Tryz.prog 29 #[.string (mkB s), .int .i64 1] w (numsE w ([p0].mapM numK)) := by
 have hsh : ∀ p ∈ [p0], p.length ≤ 1048576 := fun p hp => pcs_short (s := mkB s) (by rw [mkB_size]; omega) (show p ∈ pcs [] (mkB s).data.toList by rw [show (mkB s).data.toList = s from rfl, hps]; exact hp)
 refine enterF (N := w.heap.size) (F := RowE w (fun _ => False) [] w.heap.size 2 1 none 0 0 [] []) (fn := Tryz.f29) (c := B29) [.so (mkB s), .v (.int .i64 1)] Tryz.func29 rfl rfl (Nat.le_refl _) ⟨⟨⟨⟨World.ownsRow_nil _ _ _ _, by simp [Value.ownBlock]⟩, Nat.le_refl _⟩, FrameR.start _ [] (by simp), by simp [Value.ownBlock]⟩, by simp⟩ ?_
 refine zI [1, 12] 0 ⟨pops B29 [1, 0] 1, [(sq29 [1, 1])], [(1, .v (.int .i64 1)), (12, .so (mkB s))], []⟩ ?_
 refine At.newcall 52 [.so (mkB s), .v (.string ⟨#[32]⟩)] (.ls 0 0 1 1) [([.so (mkB p0)], 9)] RowE.stable (by kernel_rfl) (by kernel_rfl) (by kernel_rfl) (by kernel_rfl) (by kernel_rfl) (by kernel_rfl) (by kernel_rfl) (by kernel_rfl) (fun ρ w1 hm' hf => ?_) ?_
 ·have hw1 := hw.below hm'.below
  obtain ⟨mm, h3⟩ := hw1.c1
  have hk := split_row (mkB s) (by rw [mkB_size]; omega) w1 h3 (n := 1) (by rw [show (mkB s).data.toList = s from rfl, hps]; rfl)
  rw [show (mkB s).data.toList = s from rfl, hps] at hk
  exact hk
 refine zI [7, 9, 18, 19, 20, 25] 1 ⟨pops B29 pAI3 1, [(sq29 pAI4), .block 1, (sq29 pAI5), .rounds (sub B29 pAI6) 19, .block 0, (sq29 pAI7)], [(7, .v (.slice none 0 0)), (9, .so (mkB p0)), (18, .ls 0 0 1 1), (19, .v (.int .i64 1)), (20, .v (.int .i64 0)), (25, .so (mkB p0))], [([.so (mkB p0)], 9)]⟩ ?_
 rcases pint_cases p0 with ⟨n0, hn0⟩ | hn0
 ·refine zC RowE.stable 57 [.so (mkB p0), .v (.int .i64 10), .v (.int .i64 64)] (.tup [.io .i64 n0, .v .nilIface]) (fun _ _ w1 hi _ => pint_ok (hsh p0 (by simp)) hn0 w1) ?_
  refine zI [7, 9, 10, 18, 19, 20, 29] 1 ⟨pops B29 pAI0 1, [(sq29 pAI1), (sq29 pAI2), .block 1, (sq29 pAI5), .rounds (sub B29 pAI6) 19, .block 0, (sq29 pAI7)], [(7, .v (.slice none 0 0)), (9, .so (mkB p0)), (10, .io .i64 n0), (18, .ls 0 0 1 1), (19, .v (.int .i64 1)), (20, .v (.int .i64 0)), (29, .v .nilIface)], [([.so (mkB p0)], 9)]⟩ ?_
  refine At.nilne false (by kernel_rfl) RowE.stable ?_
  refine zI [7, 9, 10, 18, 19, 20, 31, 32] 1 ⟨pops B29 pAI0 4, [(sq29 pAI1), (sq29 pAI2), .block 1, (sq29 pAI5), .rounds (sub B29 pAI6) 19, .block 0, (sq29 pAI7)], [(7, .v (.slice none 0 0)), (9, .so (mkB p0)), (10, .io .i64 n0), (18, .ls 0 0 1 1), (19, .v (.int .i64 1)), (20, .v (.int .i64 0)), (31, .v (.bool false)), (32, .io .i64 n0)], [([.so (mkB p0)], 9)]⟩ ?_
  refine zC RowE.stable 59 [.io .i64 n0, .v (.int .i64 10)] (.so (mkB (Lib.itoa n0))) (fun _ _ w1 hi _ => fmt_any n0 (parse_in hn0) w1 (hw.below hi.mem.below).tp) ?_
  refine zI [7, 10, 18, 19, 20, 36] 1 ⟨.code (sub B29 pAI1), [(sq29 pAI2), .block 1, (sq29 pAI5), .rounds (sub B29 pAI6) 19, .block 0, (sq29 pAI7)], [(7, .v (.slice none 0 0)), (10, .io .i64 n0), (18, .ls 0 0 1 1), (19, .v (.int .i64 1)), (20, .v (.int .i64 0)), (36, .bo !(mkB (Lib.itoa n0)).toList == (mkB p0).toList)], [([.so (mkB p0)], 9)]⟩ ?_
  rcases zB (!(mkB (Lib.itoa n0)).toList == (mkB p0).toList) with b0 | b0
  ·refine zR 36 b0 ?_
   refine zI [4, 5] 0 ⟨.exit .ret, [], [(4, .v (.slice none 0 0)), (5, .v (.bool false))], []⟩ ?_
   refine zE (.tup [.v (.slice none 0 0), .v (.bool false)]) ?_
   have hq0 : numK p0 = none := numK_ne hn0 b0
   rw [mapM_none (p := p0) (l := [p0]) (by simp) hq0]
   intro ρ w9 hm' hf
   exact ⟨rfl, hm'.below⟩
  refine zR 36 b0 ?_
  refine zI [18, 19, 20, 37, 39] 2 ⟨pops B29 pAI2 3, [.block 1, (sq29 pAI5), .rounds (sub B29 pAI6) 19, .block 0, (sq29 pAI7)], [(18, .ls 0 0 1 1), (19, .v (.int .i64 1)), (20, .v (.int .i64 0)), (37, .v (.slice none 0 0)), (39, .ls 1 0 1 1)], [([.so (mkB p0)], 9), ([.io .i64 n0], 2)]⟩ ?_
  refine At.appE (73) (2) (1) (8) (none) (0) (0) (1) ([.io .i64 n0]) _ _ _ _ ([.int .i64 n0]) _ (by kernel_rfl) (fun ρ => by kernel_rfl) (by first | omega | (simp only [Go.maxLen]; omega)) (by first | omega | (simp only [Go.maxLen]; omega)) (by first | omega | (simp only [Go.maxLen]; omega)) fun A1 c1 => ?_
  refine zI [4, 5] 0 ⟨.exit .ret, [], [(4, .sl A1 1 c1), (5, .v (.bool true))], []⟩ ?_
  refine zE (.tup [.sl A1 1 c1, .v (.bool true)]) ?_
  have hq0 : numK p0 = some n0 := numK_eq hn0 b0
  clear b0
  have hmm : [p0].mapM numK = some [n0] := by simp only [List.mapM_cons, List.mapM_nil, hq0]; rfl
  rw [hmm]
  intro ρ w9 hm' hf
  exact ⟨_, _, rfl, RowE.fewer _ _ 0 (Nat.zero_le _) hf⟩
 have hq0 : numK p0 = none := numK_no hn0
 refine At.callx RowE.stable (X := Int × Nat) 57 [.so (mkB p0), .v (.int .i64 10), .v (.int .i64 64)] (fun x => .tup [.io .i64 x.1, .v (.iface 146 (.pointer (some ⟨x.2, 0, none⟩)))]) (fun _ _ _ => True) (fun _ => fun _ _ _ _ _ _ h => h) (by kernel_rfl) (by kernel_rfl) (by kernel_rfl) (by kernel_rfl) (fun ρ a w1 hi hf => ?_) fun x => ?_
 ·have hw1 := hw.below hi.mem.below
  obtain ⟨tp, q, h1⟩ := hw1.v1
  obtain ⟨tp2, q2, h2⟩ := hw1.v2
  exact (pint_bad (hsh p0 (by simp)) hn0 w1 h1 h2).mono fun e' w' ⟨x, N, he, hb⟩ => ⟨(x, N), he, hb, trivial⟩
 refine At.mono (F' := RowE w (fun _ => False) [] w.heap.size 2 1 none 0 0 [] []) (fun ρ w1 h => h.1) ?_
 refine zI [7, 9, 10, 18, 19, 20, 29] 1 ⟨pops B29 pAI0 1, [(sq29 pAI1), (sq29 pAI2), .block 1, (sq29 pAI5), .rounds (sub B29 pAI6) 19, .block 0, (sq29 pAI7)], [(7, .v (.slice none 0 0)), (9, .so (mkB p0)), (10, .io .i64 x.fst), (18, .ls 0 0 1 1), (19, .v (.int .i64 1)), (20, .v (.int .i64 0)), (29, .v (.iface 146 (.pointer (some (Addr.mk x.snd 0 none)))))], [([.so (mkB p0)], 9)]⟩ ?_
 refine At.nilne true (by kernel_rfl) RowE.stable ?_
 refine zI [4, 5] 0 ⟨.exit .ret, [], [(4, .v (.slice none 0 0)), (5, .v (.bool false))], []⟩ ?_
 refine zE (.tup [.v (.slice none 0 0), .v (.bool false)]) ?_
 rw [mapM_none (p := p0) (l := [p0]) (by simp) hq0]
 intro ρ w9 hm' hf
 exact ⟨rfl, hm'.below⟩
set_option maxHeartbeats 8000000 in
set_option maxRecDepth 100000 in
theorem nums2 (s : List UInt8) {p0 p1 : List UInt8} (hs : s.length ≤ 1048576) (hps : pcs [] s = [p0, p1]) (w : World) (hw : Wd w) :
  Calls Tryz.prog 29 #[.string (mkB s), .int .i64 2] w (numsE w ([p0, p1].mapM numK)) := by
 have hsh : ∀ p ∈ [p0, p1], p.length ≤ 1048576 := fun p hp => pcs_short (s := mkB s) (by rw [mkB_size]; omega) (show p ∈ pcs [] (mkB s).data.toList by rw [show (mkB s).data.toList = s from rfl, hps]; exact hp)
 refine enterF (N := w.heap.size) (F := RowE w (fun _ => False) [] w.heap.size 2 1 none 0 0 [] []) (fn := Tryz.f29) (c := B29) [.so (mkB s), .v (.int .i64 2)] Tryz.func29 rfl rfl (Nat.le_refl _) ⟨⟨⟨⟨World.ownsRow_nil _ _ _ _, by simp [Value.ownBlock]⟩, Nat.le_refl _⟩, FrameR.start _ [] (by simp), by simp [Value.ownBlock]⟩, by simp⟩ ?_
 refine zI [1, 12] 0 ⟨pops B29 [1, 0] 1, [(sq29 [1, 1])], [(1, .v (.int .i64 2)), (12, .so (mkB s))], []⟩ ?_
 refine At.newcall 52 [.so (mkB s), .v (.string ⟨#[32]⟩)] (.ls 0 0 2 2) [([.so (mkB p0), .so (mkB p1)], 9)] RowE.stable (by kernel_rfl) (by kernel_rfl) (by kernel_rfl) (by kernel_rfl) (by kernel_rfl) (by kernel_rfl) (by kernel_rfl) (by kernel_rfl) (fun ρ w1 hm' hf => ?_) ?_
 ·have hw1 := hw.below hm'.below
  obtain ⟨mm, h3⟩ := hw1.c1
  have hk := split_row (mkB s) (by rw [mkB_size]; omega) w1 h3 (n := 2) (by rw [show (mkB s).data.toList = s from rfl, hps]; rfl)
  rw [show (mkB s).data.toList = s from rfl, hps] at hk
  exact hk
 refine zI [7, 9, 18, 19, 20, 25] 1 ⟨pops B29 pAI3 1, [(sq29 pAI4), .block 1, (sq29 pAI5), .rounds (sub B29 pAI6) 19, .block 0, (sq29 pAI7)], [(7, .v (.slice none 0 0)), (9, .so (mkB p0)), (18, .ls 0 0 2 2), (19, .v (.int .i64 2)), (20, .v (.int .i64 0)), (25, .so (mkB p0))], [([.so (mkB p0), .so (mkB p1)], 9)]⟩ ?_
 rcases pint_cases p0 with ⟨n0, hn0⟩ | hn0
 ·refine zC RowE.stable 57 [.so (mkB p0), .v (.int .i64 10), .v (.int .i64 64)] (.tup [.io .i64 n0, .v .nilIface]) (fun _ _ w1 hi _ => pint_ok (hsh p0 (by simp)) hn0 w1) ?_
  refine zI [7, 9, 10, 18, 19, 20, 29] 1 ⟨pops B29 pAI0 1, [(sq29 pAI1), (sq29 pAI2), .block 1, (sq29 pAI5), .rounds (sub B29 pAI6) 19, .block 0, (sq29 pAI7)], [(7, .v (.slice none 0 0)), (9, .so (mkB p0)), (10, .io .i64 n0), (18, .ls 0 0 2 2), (19, .v (.int .i64 2)), (20, .v (.int .i64 0)), (29, .v .nilIface)], [([.so (mkB p0), .so (mkB p1)], 9)]⟩ ?_
  refine At.nilne false (by kernel_rfl) RowE.stable ?_
  refine zI [7, 9, 10, 18, 19, 20, 31, 32] 1 ⟨pops B29 pAI0 4, [(sq29 pAI1), (sq29 pAI2), .block 1, (sq29 pAI5), .rounds (sub B29 pAI6) 19, .block 0, (sq29 pAI7)], [(7, .v (.slice none 0 0)), (9, .so (mkB p0)), (10, .io .i64 n0), (18, .ls 0 0 2 2), (19, .v (.int .i64 2)), (20, .v (.int .i64 0)), (31, .v (.bool false)), (32, .io .i64 n0)], [([.so (mkB p0), .so (mkB p1)], 9)]⟩ ?_
  refine zC RowE.stable 59 [.io .i64 n0, .v (.int .i64 10)] (.so (mkB (Lib.itoa n0))) (fun _ _ w1 hi _ => fmt_any n0 (parse_in hn0) w1 (hw.below hi.mem.below).tp) ?_
  refine zI [7, 10, 18, 19, 20, 36] 1 ⟨.code (sub B29 pAI1), [(sq29 pAI2), .block 1, (sq29 pAI5), .rounds (sub B29 pAI6) 19, .block 0, (sq29 pAI7)], [(7, .v (.slice none 0 0)), (10, .io .i64 n0), (18, .ls 0 0 2 2), (19, .v (.int .i64 2)), (20, .v (.int .i64 0)), (36, .bo !(mkB (Lib.itoa n0)).toList == (mkB p0).toList)], [([.so (mkB p0), .so (mkB p1)], 9)]⟩ ?_
  rcases zB (!(mkB (Lib.itoa n0)).toList == (mkB p0).toList) with b0 | b0
  ·refine zR 36 b0 ?_
   refine zI [4, 5] 0 ⟨.exit .ret, [], [(4, .v (.slice none 0 0)), (5, .v (.bool false))], []⟩ ?_
   refine zE (.tup [.v (.slice none 0 0), .v (.bool false)]) ?_
   have hq0 : numK p0 = none := numK_ne hn0 b0
   rw [mapM_none (p := p0) (l := [p0, p1]) (by simp) hq0]
   intro ρ w9 hm' hf
   exact ⟨rfl, hm'.below⟩
  refine zR 36 b0 ?_
  refine zI [18, 19, 20, 37, 39] 2 ⟨pops B29 pAI2 3, [.block 1, (sq29 pAI5), .rounds (sub B29 pAI6) 19, .block 0, (sq29 pAI7)], [(18, .ls 0 0 2 2), (19, .v (.int .i64 2)), (20, .v (.int .i64 0)), (37, .v (.slice none 0 0)), (39, .ls 1 0 1 1)], [([.so (mkB p0), .so (mkB p1)], 9), ([.io .i64 n0], 2)]⟩ ?_
  refine At.appE (73) (2) (1) (8) (none) (0) (0) (1) ([.io .i64 n0]) _ _ _ _ ([.int .i64 n0]) _ (by kernel_rfl) (fun ρ => by kernel_rfl) (by first | omega | (simp only [Go.maxLen]; omega)) (by first | omega | (simp only [Go.maxLen]; omega)) (by first | omega | (simp only [Go.maxLen]; omega)) fun A1 c1 => ?_
  refine zI [7, 9, 18, 19, 20, 25] 1 ⟨pops B29 pAI3 1, [(sq29 pAI4), .block 1, (sq29 pAI5), .rounds (sub B29 pAI6) 18, .block 0, (sq29 pAI7)], [(7, .sl A1 1 c1), (9, .so (mkB p1)), (18, .ls 0 0 2 2), (19, .v (.int .i64 2)), (20, .v (.int .i64 1)), (25, .so (mkB p1))], [([.so (mkB p0), .so (mkB p1)], 9)]⟩ ?_
  have hq0 : numK p0 = some n0 := numK_eq hn0 b0
  clear b0
  rcases pint_cases p1 with ⟨n1, hn1⟩ | hn1
  ·refine zC RowE.stable 57 [.so (mkB p1), .v (.int .i64 10), .v (.int .i64 64)] (.tup [.io .i64 n1, .v .nilIface]) (fun _ _ w1 hi _ => pint_ok (hsh p1 (by simp)) hn1 w1) ?_
   refine zI [7, 9, 10, 18, 19, 20, 29] 1 ⟨pops B29 pAI0 1, [(sq29 pAI1), (sq29 pAI2), .block 1, (sq29 pAI5), .rounds (sub B29 pAI6) 18, .block 0, (sq29 pAI7)], [(7, .sl A1 1 c1), (9, .so (mkB p1)), (10, .io .i64 n1), (18, .ls 0 0 2 2), (19, .v (.int .i64 2)), (20, .v (.int .i64 1)), (29, .v .nilIface)], [([.so (mkB p0), .so (mkB p1)], 9)]⟩ ?_
   refine At.nilne false (by kernel_rfl) RowE.stable ?_
   refine zI [7, 9, 10, 18, 19, 20, 31, 32] 1 ⟨pops B29 pAI0 4, [(sq29 pAI1), (sq29 pAI2), .block 1, (sq29 pAI5), .rounds (sub B29 pAI6) 18, .block 0, (sq29 pAI7)], [(7, .sl A1 1 c1), (9, .so (mkB p1)), (10, .io .i64 n1), (18, .ls 0 0 2 2), (19, .v (.int .i64 2)), (20, .v (.int .i64 1)), (31, .v (.bool false)), (32, .io .i64 n1)], [([.so (mkB p0), .so (mkB p1)], 9)]⟩ ?_
   refine zC RowE.stable 59 [.io .i64 n1, .v (.int .i64 10)] (.so (mkB (Lib.itoa n1))) (fun _ _ w1 hi _ => fmt_any n1 (parse_in hn1) w1 (hw.below hi.mem.below).tp) ?_
   refine zI [7, 10, 18, 19, 20, 36] 1 ⟨.code (sub B29 pAI1), [(sq29 pAI2), .block 1, (sq29 pAI5), .rounds (sub B29 pAI6) 18, .block 0, (sq29 pAI7)], [(7, .sl A1 1 c1), (10, .io .i64 n1), (18, .ls 0 0 2 2), (19, .v (.int .i64 2)), (20, .v (.int .i64 1)), (36, .bo !(mkB (Lib.itoa n1)).toList == (mkB p1).toList)], [([.so (mkB p0), .so (mkB p1)], 9)]⟩ ?_
   rcases zB (!(mkB (Lib.itoa n1)).toList == (mkB p1).toList) with b0 | b0
   ·refine zR 36 b0 ?_
    refine zI [4, 5] 0 ⟨.exit .ret, [], [(4, .v (.slice none 0 0)), (5, .v (.bool false))], []⟩ ?_
    refine zE (.tup [.v (.slice none 0 0), .v (.bool false)]) ?_
    have hq1 : numK p1 = none := numK_ne hn1 b0
    rw [mapM_none (p := p1) (l := [p0, p1]) (by simp) hq1]
    intro ρ w9 hm' hf
    exact ⟨rfl, hm'.below⟩
   refine zR 36 b0 ?_
   refine zI [18, 19, 20, 37, 39] 2 ⟨pops B29 pAI2 3, [.block 1, (sq29 pAI5), .rounds (sub B29 pAI6) 18, .block 0, (sq29 pAI7)], [(18, .ls 0 0 2 2), (19, .v (.int .i64 2)), (20, .v (.int .i64 1)), (37, .sl A1 1 c1), (39, .ls 1 0 1 1)], [([.so (mkB p0), .so (mkB p1)], 9), ([.io .i64 n1], 2)]⟩ ?_
   refine At.appE (73) (2) (1) (8) (A1) (1) (c1) (1) ([.io .i64 n1]) _ _ _ _ ([.int .i64 n1]) _ (by kernel_rfl) (fun ρ => by kernel_rfl) (by first | omega | (simp only [Go.maxLen]; omega)) (by first | omega | (simp only [Go.maxLen]; omega)) (by first | omega | (simp only [Go.maxLen]; omega)) fun A1 c1 => ?_
   refine zI [4, 5] 0 ⟨.exit .ret, [], [(4, .sl A1 2 c1), (5, .v (.bool true))], []⟩ ?_
   refine zE (.tup [.sl A1 2 c1, .v (.bool true)]) ?_
   have hq1 : numK p1 = some n1 := numK_eq hn1 b0
   clear b0
   have hmm : [p0, p1].mapM numK = some [n0, n1] := by simp only [List.mapM_cons, List.mapM_nil, hq0, hq1]; rfl
   rw [hmm]
   intro ρ w9 hm' hf
   exact ⟨_, _, rfl, RowE.fewer _ _ 0 (Nat.zero_le _) hf⟩
  have hq1 : numK p1 = none := numK_no hn1
  refine At.callx RowE.stable (X := Int × Nat) 57 [.so (mkB p1), .v (.int .i64 10), .v (.int .i64 64)] (fun x => .tup [.io .i64 x.1, .v (.iface 146 (.pointer (some ⟨x.2, 0, none⟩)))]) (fun _ _ _ => True) (fun _ => fun _ _ _ _ _ _ h => h) (by kernel_rfl) (by kernel_rfl) (by kernel_rfl) (by kernel_rfl) (fun ρ a w1 hi hf => ?_) fun x => ?_
  ·have hw1 := hw.below hi.mem.below
   obtain ⟨tp, q, h1⟩ := hw1.v1
   obtain ⟨tp2, q2, h2⟩ := hw1.v2
   exact (pint_bad (hsh p1 (by simp)) hn1 w1 h1 h2).mono fun e' w' ⟨x, N, he, hb⟩ => ⟨(x, N), he, hb, trivial⟩
  refine At.mono (F' := RowE w (fun _ => False) [] w.heap.size 2 1 A1 1 c1 [.int .i64 n0] []) (fun ρ w1 h => h.1) ?_
  refine zI [7, 9, 10, 18, 19, 20, 29] 1 ⟨pops B29 pAI0 1, [(sq29 pAI1), (sq29 pAI2), .block 1, (sq29 pAI5), .rounds (sub B29 pAI6) 18, .block 0, (sq29 pAI7)], [(7, .sl A1 1 c1), (9, .so (mkB p1)), (10, .io .i64 x.fst), (18, .ls 0 0 2 2), (19, .v (.int .i64 2)), (20, .v (.int .i64 1)), (29, .v (.iface 146 (.pointer (some (Addr.mk x.snd 0 none)))))], [([.so (mkB p0), .so (mkB p1)], 9)]⟩ ?_
  refine At.nilne true (by kernel_rfl) RowE.stable ?_
  refine zI [4, 5] 0 ⟨.exit .ret, [], [(4, .v (.slice none 0 0)), (5, .v (.bool false))], []⟩ ?_
  refine zE (.tup [.v (.slice none 0 0), .v (.bool false)]) ?_
  rw [mapM_none (p := p1) (l := [p0, p1]) (by simp) hq1]
  intro ρ w9 hm' hf
  exact ⟨rfl, hm'.below⟩
 have hq0 : numK p0 = none := numK_no hn0
 refine At.callx RowE.stable (X := Int × Nat) 57 [.so (mkB p0), .v (.int .i64 10), .v (.int .i64 64)] (fun x => .tup [.io .i64 x.1, .v (.iface 146 (.pointer (some ⟨x.2, 0, none⟩)))]) (fun _ _ _ => True) (fun _ => fun _ _ _ _ _ _ h => h) (by kernel_rfl) (by kernel_rfl) (by kernel_rfl) (by kernel_rfl) (fun ρ a w1 hi hf => ?_) fun x => ?_
 ·have hw1 := hw.below hi.mem.below
  obtain ⟨tp, q, h1⟩ := hw1.v1
  obtain ⟨tp2, q2, h2⟩ := hw1.v2
  exact (pint_bad (hsh p0 (by simp)) hn0 w1 h1 h2).mono fun e' w' ⟨x, N, he, hb⟩ => ⟨(x, N), he, hb, trivial⟩
 refine At.mono (F' := RowE w (fun _ => False) [] w.heap.size 2 1 none 0 0 [] []) (fun ρ w1 h => h.1) ?_
 refine zI [7, 9, 10, 18, 19, 20, 29] 1 ⟨pops B29 pAI0 1, [(sq29 pAI1), (sq29 pAI2), .block 1, (sq29 pAI5), .rounds (sub B29 pAI6) 19, .block 0, (sq29 pAI7)], [(7, .v (.slice none 0 0)), (9, .so (mkB p0)), (10, .io .i64 x.fst), (18, .ls 0 0 2 2), (19, .v (.int .i64 2)), (20, .v (.int .i64 0)), (29, .v (.iface 146 (.pointer (some (Addr.mk x.snd 0 none)))))], [([.so (mkB p0), .so (mkB p1)], 9)]⟩ ?_
 refine At.nilne true (by kernel_rfl) RowE.stable ?_
 refine zI [4, 5] 0 ⟨.exit .ret, [], [(4, .v (.slice none 0 0)), (5, .v (.bool false))], []⟩ ?_
 refine zE (.tup [.v (.slice none 0 0), .v (.bool false)]) ?_
 rw [mapM_none (p := p0) (l := [p0, p1]) (by simp) hq0]
 intro ρ w9 hm' hf
 exact ⟨rfl, hm'.below⟩
theorem len_two {α : Type} {l : List α} (h : l.length = 2) : ∃ a b, l = [a, b] := by
 match l, h with
 | [a, b], _ => exact ⟨a, b, rfl⟩
theorem numbers_none (s : List UInt8) (n : Nat) (hn : n = 1 ∨ n = 2) (hs : s.length ≤ 1048576) (h : numsP s n = none) (w : World) (hw : Wd w) :
  Calls Tryz.prog 29 #[.string (mkB s), .int .i64 (n : Int)] w fun e w' => e = .returned (.tuple #[.slice none 0 0, .bool false]) ∧ Below w.heap.size w w' := by
 by_cases hl : (pcs [] s).length = n
 ·unfold numsP at h
  rw [if_pos hl] at h
  rcases hn with rfl | rfl
  ·obtain ⟨p0, hp⟩ := List.length_eq_one_iff.1 hl
   have hk := nums1 s hs hp w hw
   rw [← hp, h] at hk
   exact hk
  obtain ⟨p0, p1, hp⟩ := len_two hl
  have hk := nums2 s hs hp w hw
  rw [← hp, h] at hk
  exact hk
 exact nums_len s n hs (by omega) hl w hw
theorem numbers_some (s : List UInt8) (n : Nat) (hn : n = 1 ∨ n = 2) (l : List Int) (hs : s.length ≤ 1048576) (h : numsP s n = some l) (w : World) (hw : Wd w) :
  Calls Tryz.prog 29 #[.string (mkB s), .int .i64 (n : Int)] w fun e w' => ∃ A' c', e = .returned (.tuple #[.slice A' l.length c', .bool true]) ∧ RowF w (fun _ => False) [] w.heap.size 2 1 A' l.length c' (l.map (Value.int .i64)) [] w' := by
 unfold numsP at h
 split at h
 ·rename_i hl
  rcases hn with rfl | rfl
  ·obtain ⟨p0, hp⟩ := List.length_eq_one_iff.1 hl
   have hk := nums1 s hs hp w hw
   rw [← hp, h] at hk
   exact hk.mono fun e w' ⟨A', c', h1, h2⟩ => ⟨A', c', h1, h2.1⟩
  obtain ⟨p0, p1, hp⟩ := len_two hl
  have hk := nums2 s hs hp w hw
  rw [← hp, h] at hk
  exact hk.mono fun e w' ⟨A', c', h1, h2⟩ => ⟨A', c', h1, h2.1⟩
 cases h
end Go.Proofs.YthfpekhpeiebjaaGreatDoor
end
