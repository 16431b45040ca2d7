import Derived.Test.YtkjnbafdmjakgaaDoorBB
import Derived.Test.YtkjnbafdmjakgaaDoorKB
set_option linter.unusedSimpArgs false
set_option linter.unusedVariables false
namespace Go.Proofs.YtkjnbafdmjakgaaDoor
open Go.RowKit Go.Sx

theorem info85 : (Tryd.prog.info? 85).map (·.size) = some 2 := by kernel_rfl
theorem lies85 : liesAt Tryd.prog Tryd.prog.depth 85 (2 / Tryd.prog.cellsOf 85) 0 85 1 = true := by kernel_rfl
theorem info5 : (Tryd.prog.info? 5).map (fun i => (i.zero, i.size, i.bytes)) = some (some (.int .u8 0), 1, 1) := by kernel_rfl

noncomputable def B68 : Code := (Tryd.f68.body).getD .skip
set_option maxHeartbeats 4000000 in
set_option maxRecDepth 100000 in
theorem check_self {B b : Nat} {v : Value} {A : Option Addr} {n c : Nat} {xs : List Value} (w : World) (h : BldG 85 5 B b (.pointer (some ⟨b, 0, none⟩)) v A n c xs [] w) (hB : B ≤ w.heap.size) :
    Calls Tryd.prog 68 #[(.pointer (some ⟨b, 0, none⟩))] w fun e w' => e = .returned (.tuple #[]) ∧ BldG 85 5 B b (.pointer (some ⟨b, 0, none⟩)) v A n c xs [] w' ∧ Below B w w' := by
  obtain ⟨j, hj1, hj2⟩ := Option.map_eq_some_iff.1 info85
  refine enterF (N := B) (F := BldG 85 5 B b (.pointer (some ⟨b, 0, none⟩)) v A n c xs) (fn := Tryd.f68) (c := B68) [.v (.pointer (some ⟨b, 0, none⟩))] Tryd.func68 rfl rfl hB h ?_
  refine At.toJ (BldG.stable) BldG.fewer 20 300 [0, 2] 0 ⟨pops B68 [0] 1, [.seq (sub B68 [1])], [(0, .v (.pointer (some (Addr.mk b 0 none)))), (2, .v (.pointer (some (Addr.mk b 0 none))))], []⟩ (by kernel_rfl) (by kernel_rfl) ?_
  refine At.nck ⟨b, 0, none⟩ (by kernel_rfl) BldG.stable ?_
  refine At.fax ⟨b, 0, none⟩ 0 (by kernel_rfl) BldG.stable ?_

  refine At.ldx ((⟨b, 0, none⟩ : Addr).add 0) (.v (.pointer (some ⟨b, 0, none⟩))) (by kernel_rfl) BldG.stable (fun ρ w1 hm' hf => hf.cell0) ?_
  refine At.toJ (BldG.stable) BldG.fewer 20 300 [0, 5] 0 ⟨pops B68 [0] 4, [.seq (sub B68 [1])], [(0, .v (.pointer (some (Addr.mk b 0 none)))), (5, .v (.pointer (some (Addr.mk b 0 none))))], []⟩ (by kernel_rfl) (by kernel_rfl) ?_
  refine At.pcmp .eql 82 (some ⟨b, 0, none⟩) none false (by kernel_rfl) BldG.stable (fun w1 => run_eql_none ⟨b, 0, none⟩ Tryd.underlying82 hj1 w1) ?_
  refine At.toJ (BldG.stable) BldG.fewer 20 300 [0, 14] 0 ⟨pops B68 [1, 3, 0] 1, [.seq (sub B68 [1, 3, 1])], [(0, .v (.pointer (some (Addr.mk b 0 none)))), (14, .v (.pointer (some (Addr.mk b 0 none))))], []⟩ (by kernel_rfl) (by kernel_rfl) ?_
  refine At.nck ⟨b, 0, none⟩ (by kernel_rfl) BldG.stable ?_
  refine At.fax ⟨b, 0, none⟩ 0 (by kernel_rfl) BldG.stable ?_

  refine At.ldx ((⟨b, 0, none⟩ : Addr).add 0) (.v (.pointer (some ⟨b, 0, none⟩))) (by kernel_rfl) BldG.stable (fun ρ w1 hm' hf => hf.cell0) ?_
  refine At.toJ (BldG.stable) BldG.fewer 20 300 [17, 18] 0 ⟨pops B68 [1, 3, 0] 5, [.seq (sub B68 [1, 3, 1])], [(17, .v (.pointer (some (Addr.mk b 0 none)))), (18, .v (.pointer (some (Addr.mk b 0 none))))], []⟩ (by kernel_rfl) (by kernel_rfl) ?_
  refine At.pcmp .neq 82 (some ⟨b, 0, none⟩) (some ⟨b, 0, none⟩) false (by kernel_rfl) BldG.stable (fun w1 => Lib.run_neq_ptr_same w1 ⟨b, 0, none⟩ Tryd.underlying82 hj1) ?_
  refine At.toJ (BldG.stable) BldG.fewer 20 300 [] 0 ⟨.exit .normal, [], [], []⟩ (by kernel_rfl) (by kernel_rfl) ?_
  refine At.ret (by kernel_rfl) (.tup []) (by kernel_rfl) ?_
  intro ρ w9 hm' hf
  exact ⟨rfl, BldG.fewer ρ w9 0 (Nat.zero_le _) hf, hm'.below⟩

set_option maxHeartbeats 4000000 in
set_option maxRecDepth 100000 in
theorem check_new {B b : Nat} {v : Value} {A : Option Addr} {n c : Nat} {xs : List Value} (w : World) (h : BldG 85 5 B b (.pointer none) v A n c xs [] w) (hB : B ≤ w.heap.size) :
    Calls Tryd.prog 68 #[(.pointer (some ⟨b, 0, none⟩))] w fun e w' => e = .returned (.tuple #[]) ∧ BldG 85 5 B b (.pointer (some ⟨b, 0, none⟩)) v A n c xs [] w' ∧ Below B w w' := by
  obtain ⟨j, hj1, hj2⟩ := Option.map_eq_some_iff.1 info85
  refine enterF (N := B) (F := BldG 85 5 B b (.pointer none) v A n c xs) (fn := Tryd.f68) (c := B68) [.v (.pointer (some ⟨b, 0, none⟩))] Tryd.func68 rfl rfl hB h ?_
  refine At.toJ (BldG.stable) BldG.fewer 20 300 [0, 2] 0 ⟨pops B68 [0] 1, [.seq (sub B68 [1])], [(0, .v (.pointer (some (Addr.mk b 0 none)))), (2, .v (.pointer (some (Addr.mk b 0 none))))], []⟩ (by kernel_rfl) (by kernel_rfl) ?_
  refine At.nck ⟨b, 0, none⟩ (by kernel_rfl) BldG.stable ?_
  refine At.fax ⟨b, 0, none⟩ 0 (by kernel_rfl) BldG.stable ?_

  refine At.ldx ((⟨b, 0, none⟩ : Addr).add 0) (.v (.pointer none)) (by kernel_rfl) BldG.stable (fun ρ w1 hm' hf => hf.cell0) ?_
  refine At.toJ (BldG.stable) BldG.fewer 20 300 [7, 8] 0 ⟨pops B68 [1, 2] 2, [], [(7, .v (.pointer (some (Addr.mk b 0 none)))), (8, .v (.pointer (some (Addr.mk b 0 none))))], []⟩ (by kernel_rfl) (by kernel_rfl) ?_
  refine At.cvu 82 157 (.v (.pointer (some ⟨b, 0, none⟩))) (.v (.pointer (some ⟨b, 0, none⟩))) (by kernel_rfl) BldG.stable (fun ρ w1 hm' hf => Lib.run_to_unsafe w1 ⟨b, 0, none⟩ Tryd.underlying82 Tryd.underlying157 hj1 (by rw [hj2]; decide) hf.shape (Nat.zero_lt_succ 1)) ?_
  refine At.toJ (BldG.stable) BldG.fewer 20 300 [7, 9] 0 ⟨pops B68 [1, 2] 3, [], [(7, .v (.pointer (some (Addr.mk b 0 none)))), (9, .v (.pointer (some (Addr.mk b 0 none))))], []⟩ (by kernel_rfl) (by kernel_rfl) ?_
  refine At.extern 97 [.v (.pointer (some ⟨b, 0, none⟩))] Tryd.f97 Extern.AbiNoEscape.same (.v (.pointer (some ⟨b, 0, none⟩))) (by kernel_rfl) (by kernel_rfl) Tryd.func97 (by kernel_rfl) (by kernel_rfl) (by kernel_rfl) (by kernel_rfl) BldG.stable (fun ρ w1 _ _ => Lib.run_noEscape w1 _) ?_
  refine At.toJ (BldG.stable) BldG.fewer 20 300 [7, 10] 0 ⟨pops B68 [1, 2] 4, [], [(7, .v (.pointer (some (Addr.mk b 0 none)))), (10, .v (.pointer (some (Addr.mk b 0 none))))], []⟩ (by kernel_rfl) (by kernel_rfl) ?_
  refine At.cvu 157 82 (.v (.pointer (some ⟨b, 0, none⟩))) (.v (.pointer (some ⟨b, 0, none⟩))) (by kernel_rfl) BldG.stable (fun ρ w1 hm' hf => Lib.run_from_unsafe w1 ⟨b, 0, none⟩ Tryd.underlying157 Tryd.underlying82 hj1 hf.shape lies85) ?_
  refine At.toJ (BldG.stable) BldG.fewer 20 300 [7, 11] 0 ⟨pops B68 [1, 2] 5, [], [(7, .v (.pointer (some (Addr.mk b 0 none)))), (11, .v (.pointer (some (Addr.mk b 0 none))))], []⟩ (by kernel_rfl) (by kernel_rfl) ?_
  refine At.nck ⟨b, 0, none⟩ (by kernel_rfl) BldG.stable ?_
  refine At.fax ⟨b, 0, none⟩ 0 (by kernel_rfl) BldG.stable ?_

  refine At.bldSt 0 (.v (.pointer (some ⟨b, 0, none⟩))) (.pointer (some ⟨b, 0, none⟩)) (by kernel_rfl) (fun _ => rfl) (by decide) rfl (by decide) (Nat.le_refl _) ?_
  refine At.toJ (BldG.stable) BldG.fewer 20 300 [] 0 ⟨.exit .normal, [], [], []⟩ (by kernel_rfl) (by kernel_rfl) ?_
  refine At.ret (by kernel_rfl) (.tup []) (by kernel_rfl) ?_
  intro ρ w9 hm' hf
  exact ⟨rfl, BldG.fewer ρ w9 0 (Nat.zero_le _) hf, hm'.below⟩

noncomputable def B42 : Code := (Tryd.f42.body).getD .skip
set_option maxHeartbeats 4000000 in
set_option maxRecDepth 100000 in
theorem wstr_any {B b : Nat} {xs : List Value} (str : ByteArray) (w : World) (h : BldV 85 5 B b xs [] w) (hB : B ≤ w.heap.size) (hlen : xs.length + str.size ≤ 1000000000) :
    Calls Tryd.prog 42 #[(.pointer (some ⟨b, 0, none⟩)), .string str] w fun e w' => e = .returned (.tuple #[.int .i64 str.size, .nilIface]) ∧ BldV 85 5 B b (xs ++ Lib.strCells str) [] w' ∧ Below B w w' := by
  obtain ⟨p, A, n, c, hp, h⟩ := h
  have hn : xs.length = n * 1 := h.2.1.1.1
  refine enterF (N := B) (F := BldG 85 5 B b p (.slice A n c) A n c xs) (fn := Tryd.f42) (c := B42) [.v (.pointer (some ⟨b, 0, none⟩)), .so str] Tryd.func42 rfl rfl hB h ?_
  refine At.toJ (BldG.stable) BldG.fewer 20 300 [0, 1, 6] 0 ⟨pops B42 [1, 0] 1, [.seq (sub B42 [1, 1])], [(0, .v (.pointer (some (Addr.mk b 0 none)))), (1, .so str), (6, .v (.pointer (some (Addr.mk b 0 none))))], []⟩ (by kernel_rfl) (by kernel_rfl) ?_
  refine At.facts (G := BldG 85 5 B b (.pointer (some ⟨b, 0, none⟩)) (.slice A n c) A n c xs) 68 [.v (.pointer (some ⟨b, 0, none⟩))] (.tup []) (by kernel_rfl) (by kernel_rfl) (by kernel_rfl) (by kernel_rfl) (by kernel_rfl) rfl (fun w1 hm hf => by
    rcases hp with rfl | rfl
    · exact check_new w1 hf hm.hN
    · exact check_self w1 hf hm.hN) ?_
  refine At.toJ (BldG.stable) BldG.fewer 20 300 [1, 8, 9] 0 ⟨pops B42 [1, 1, 0] 2, [.seq (sub B42 [1, 1, 1])], [(1, .so str), (8, .v (.pointer (some (Addr.mk b 0 none)))), (9, .v (.pointer (some (Addr.mk b 0 none))))], []⟩ (by kernel_rfl) (by kernel_rfl) ?_
  refine At.nck ⟨b, 0, none⟩ (by kernel_rfl) BldG.stable ?_
  refine At.fax ⟨b, 0, none⟩ 1 (by kernel_rfl) BldG.stable ?_

  refine At.ldx ((⟨b, 0, none⟩ : Addr).add 1) (.sl A n c) (by kernel_rfl) BldG.stable (fun ρ w1 hm' hf => hf.cell1) ?_
  refine At.toJ (BldG.stable) BldG.fewer 20 300 [1, 8, 12, 13] 0 ⟨pops B42 [1, 1, 0] 6, [.seq (sub B42 [1, 1, 1])], [(1, .so str), (8, .v (.pointer (some (Addr.mk b 0 none)))), (12, .sl A n c), (13, .so str)], []⟩ (by kernel_rfl) (by kernel_rfl) ?_
  refine At.apStr 83 9 5 (.so str) str (by kernel_rfl) (fun _ => rfl) Tryd.underlying83 Tryd.underlying9 info5 (by omega) (Nat.le_refl _) (by decide) rfl (fun A' c' => ?_)
  refine At.toJ (BldG.stable) BldG.fewer 20 300 [1, 8, 14] 0 ⟨pops B42 [1, 1, 0] 7, [.seq (sub B42 [1, 1, 1])], [(1, .so str), (8, .v (.pointer (some (Addr.mk b 0 none)))), (14, .sl A' (n + str.size) c')], []⟩ (by kernel_rfl) (by kernel_rfl) ?_
  refine At.nck ⟨b, 0, none⟩ (by kernel_rfl) BldG.stable ?_
  refine At.fax ⟨b, 0, none⟩ 1 (by kernel_rfl) BldG.stable ?_

  refine At.bldSt 1 (.sl A' (n + str.size) c') (.slice A' (n + str.size) c') (by kernel_rfl) (fun _ => rfl) (by decide) rfl (by decide) (Nat.le_refl _) ?_
  refine At.toJ (BldG.stable) BldG.fewer 20 300 [4, 5] 0 ⟨.exit .ret, [], [(4, .io .i64 (↑str.size : Int)), (5, .v .nilIface)], []⟩ (by kernel_rfl) (by kernel_rfl) ?_
  refine At.ret (by kernel_rfl) (.tup [.io .i64 (↑str.size : Int), .v .nilIface]) (by kernel_rfl) ?_
  intro ρ w9 hm' hf
  exact ⟨rfl, ⟨_, A', n + str.size, c', .inr rfl, BldG.fewer ρ w9 0 (Nat.zero_le _) hf⟩, hm'.below⟩

noncomputable def B43 : Code := (Tryd.f43.body).getD .skip
set_option maxHeartbeats 4000000 in
set_option maxRecDepth 100000 in
theorem wbyte_any {B b : Nat} {xs : List Value} (x : Int) (w : World) (h : BldV 85 5 B b xs [] w) (hB : B ≤ w.heap.size) (hlen : xs.length + 1 ≤ 1000000000) :
    Calls Tryd.prog 43 #[(.pointer (some ⟨b, 0, none⟩)), .int .u8 x] w fun e w' => e = .returned .nilIface ∧ BldV 85 5 B b (xs ++ [.int .u8 x]) [] w' ∧ Below B w w' := by
  obtain ⟨p, A, n, c, hp, h⟩ := h
  have hn : xs.length = n * 1 := h.2.1.1.1
  refine enterF (N := B) (F := BldG 85 5 B b p (.slice A n c) A n c xs) (fn := Tryd.f43) (c := B43) [.v (.pointer (some ⟨b, 0, none⟩)), .io .u8 x] Tryd.func43 rfl rfl hB h ?_
  refine At.toJ (BldG.stable) BldG.fewer 20 300 [0, 1, 5] 0 ⟨pops B43 [1, 0] 1, [.seq (sub B43 [1, 1])], [(0, .v (.pointer (some (Addr.mk b 0 none)))), (1, .io IntKind.u8 x), (5, .v (.pointer (some (Addr.mk b 0 none))))], []⟩ (by kernel_rfl) (by kernel_rfl) ?_
  refine At.facts (G := BldG 85 5 B b (.pointer (some ⟨b, 0, none⟩)) (.slice A n c) A n c xs) 68 [.v (.pointer (some ⟨b, 0, none⟩))] (.tup []) (by kernel_rfl) (by kernel_rfl) (by kernel_rfl) (by kernel_rfl) (by kernel_rfl) rfl (fun w1 hm hf => by
    rcases hp with rfl | rfl
    · exact check_new w1 hf hm.hN
    · exact check_self w1 hf hm.hN) ?_
  refine At.toJ (BldG.stable) BldG.fewer 20 300 [1, 7, 8] 0 ⟨pops B43 [1, 1, 0] 2, [.seq (sub B43 [1, 1, 1])], [(1, .io IntKind.u8 x), (7, .v (.pointer (some (Addr.mk b 0 none)))), (8, .v (.pointer (some (Addr.mk b 0 none))))], []⟩ (by kernel_rfl) (by kernel_rfl) ?_
  refine At.nck ⟨b, 0, none⟩ (by kernel_rfl) BldG.stable ?_
  refine At.fax ⟨b, 0, none⟩ 1 (by kernel_rfl) BldG.stable ?_

  refine At.ldx ((⟨b, 0, none⟩ : Addr).add 1) (.sl A n c) (by kernel_rfl) BldG.stable (fun ρ w1 hm' hf => hf.cell1) ?_
  refine At.toJ (BldG.stable) BldG.fewer 20 300 [7, 11, 13] 1 ⟨pops B43 [1, 1, 0] 7, [.seq (sub B43 [1, 1, 1])], [(7, .v (.pointer (some (Addr.mk b 0 none)))), (11, .sl A n c), (13, .ls 0 0 1 1)], [([.io IntKind.u8 x], 5)]⟩ (by kernel_rfl) (by kernel_rfl) ?_
  refine At.apB 83 5 1 0 0 1 [.io .u8 x] 5 [.int .u8 x] (by kernel_rfl) (by kernel_rfl) rfl (Nat.le_refl 1) (by kernel_rfl) (by omega) (by simp only [maxLen]; omega) (Nat.le_refl _) (by decide) (fun _ => rfl) (fun A' c' => ?_)
  refine At.toJ (BldG.stable) BldG.fewer 20 300 [7, 14] 0 ⟨pops B43 [1, 1, 0] 8, [.seq (sub B43 [1, 1, 1])], [(7, .v (.pointer (some (Addr.mk b 0 none)))), (14, .sl A' (n + 1) c')], []⟩ (by kernel_rfl) (by kernel_rfl) ?_
  refine At.nck ⟨b, 0, none⟩ (by kernel_rfl) BldG.stable ?_
  refine At.fax ⟨b, 0, none⟩ 1 (by kernel_rfl) BldG.stable ?_

  refine At.bldSt 1 (.sl A' (n + 1) c') (.slice A' (n + 1) c') (by kernel_rfl) (fun _ => rfl) (by decide) rfl (by decide) (Nat.le_refl _) ?_
  refine At.toJ (BldG.stable) BldG.fewer 20 300 [4] 0 ⟨.exit .ret, [], [(4, .v .nilIface)], []⟩ (by kernel_rfl) (by kernel_rfl) ?_
  refine At.ret (by kernel_rfl) (.v .nilIface) (by kernel_rfl) ?_
  intro ρ w9 hm' hf
  exact ⟨rfl, ⟨_, A', n + 1, c', .inr rfl, BldG.fewer ρ w9 0 (Nat.zero_le _) hf⟩, hm'.below⟩

end Go.Proofs.YtkjnbafdmjakgaaDoor
