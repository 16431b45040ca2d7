import Derived.Test.YtkjnbafdmjakgaaDoorNQ
set_option linter.unusedSimpArgs false
set_option linter.unusedVariables false
namespace Go.Proofs.YtkjnbafdmjakgaaDoor
open Go.RowKit Go.Sx
noncomputable def B14 : Code := (Tryd.f14.body).getD .skip
set_option maxHeartbeats 4000000 in
set_option maxRecDepth 100000 in
theorem right_any (p : Pn) (w : World) :
    Calls Tryd.prog 14 #[p.val] w fun e w' => e = .returned p.right.val ∧ Below w.heap.size w w' := by
  refine enter (fn := Tryd.f14) (c := B14) [.agg (paneL (mkB p.key) p.st p.en p.kd p.nt p.ct p.sm p.mn p.mx)] Tryd.func14 rfl rfl ?_
  refine At.to (noF_stable) (noF_fewer) 20 300 [1, 2, 6] 2 ⟨.code (sub B14 [1, 0, 1]), [.seq (sub B14 [1, 1])], [(1, .lp 0 0), (2, .lp 1 0), (6, .bo (decide ((↑(mkB p.key).size : Int) > 256)))], [([.so (mkB p.key), .io .i64 p.st, .io .i64 p.en, .io .i64 p.kd, .io .i64 p.nt, .io .i64 p.ct, .io .i64 p.sm, .io .i64 p.mn, .io .i64 p.mx], 29), ([.v (.string (ByteArray.mk #[])), .v (.int .i64 0), .v (.int .i64 0), .v (.int .i64 0), .v (.int .i64 0), .v (.int .i64 0), .v (.int .i64 0), .v (.int .i64 0), .v (.int .i64 0)], 29)]⟩ (by kernel_rfl) (by kernel_rfl) ?_
  rcases Bool.eq_false_or_eq_true (decide ((↑(mkB p.key).size : Int) > 256)) with b0 | b0
  · refine At.res 6 (decide ((↑(mkB p.key).size : Int) > 256)) true (by kernel_rfl) b0 ?_
    refine At.to (noF_stable) (noF_fewer) 20 300 [1, 2, 8] 2 ⟨pops B14 [1, 0, 1, 2] 2, [.seq (sub B14 [1, 1])], [(1, .lp 0 0), (2, .lp 1 0), (8, .so (mkB p.key))], [([.so (mkB p.key), .io .i64 p.st, .io .i64 p.en, .io .i64 p.kd, .io .i64 p.nt, .io .i64 p.ct, .io .i64 p.sm, .io .i64 p.mn, .io .i64 p.mx], 29), ([.v (.string (ByteArray.mk #[])), .v (.int .i64 0), .v (.int .i64 0), .v (.int .i64 0), .v (.int .i64 0), .v (.int .i64 0), .v (.int .i64 0), .v (.int .i64 0), .v (.int .i64 0)], 29)]⟩ (by kernel_rfl) (by kernel_rfl) ?_
    have hl : 256 < p.key.length := by have := of_decide_eq_true b0; rw [mkB_size] at this; omega
    clear b0
    refine sslT p.key 256 (by kernel_rfl) (by omega) noF_stable ?_
    refine At.to (noF_stable) (noF_fewer) 20 300 [2] 2 ⟨.exit .ret, [], [(2, .lp 1 0)], [([.so (mkB (List.take 256 p.key)), .io .i64 p.st, .io .i64 p.en, .io .i64 (IntKind.i64.wrap (1 + (IntKind.i64.wrap (p.kd.tmod 3 + 3)).tmod 3)), .io .i64 p.nt, .io .i64 p.ct, .io .i64 p.sm, .io .i64 p.mn, .io .i64 p.mx], 29), ([.so (mkB (List.take 256 p.key)), .io .i64 p.st, .io .i64 p.en, .io .i64 (IntKind.i64.wrap (1 + (IntKind.i64.wrap (p.kd.tmod 3 + 3)).tmod 3)), .io .i64 p.nt, .io .i64 p.ct, .io .i64 p.sm, .io .i64 p.mn, .io .i64 p.mx], 29)]⟩ (by kernel_rfl) (by kernel_rfl) ?_
    refine At.ret (by kernel_rfl) (.agg [.so (mkB (List.take 256 p.key)), .io .i64 p.st, .io .i64 p.en, .io .i64 (IntKind.i64.wrap (1 + (IntKind.i64.wrap (p.kd.tmod 3 + 3)).tmod 3)), .io .i64 p.nt, .io .i64 p.ct, .io .i64 p.sm, .io .i64 p.mn, .io .i64 p.mx]) (by kernel_rfl) ?_
    intro ρ w9 hm' hf
    exact ⟨by rw [show p.right.val = (SV.agg (paneL (mkB (p.key.take 256)) p.st p.en (rightK p.kd) p.nt p.ct p.sm p.mn p.mx)).den ρ from by unfold Pn.right; rfl]; rfl, hm'.below⟩
  · refine At.res 6 (decide ((↑(mkB p.key).size : Int) > 256)) false (by kernel_rfl) b0 ?_
    refine At.to (noF_stable) (noF_fewer) 20 300 [2] 2 ⟨.exit .ret, [], [(2, .lp 1 0)], [([.so (mkB p.key), .io .i64 p.st, .io .i64 p.en, .io .i64 (IntKind.i64.wrap (1 + (IntKind.i64.wrap (p.kd.tmod 3 + 3)).tmod 3)), .io .i64 p.nt, .io .i64 p.ct, .io .i64 p.sm, .io .i64 p.mn, .io .i64 p.mx], 29), ([.so (mkB p.key), .io .i64 p.st, .io .i64 p.en, .io .i64 (IntKind.i64.wrap (1 + (IntKind.i64.wrap (p.kd.tmod 3 + 3)).tmod 3)), .io .i64 p.nt, .io .i64 p.ct, .io .i64 p.sm, .io .i64 p.mn, .io .i64 p.mx], 29)]⟩ (by kernel_rfl) (by kernel_rfl) ?_
    refine At.ret (by kernel_rfl) (.agg [.so (mkB p.key), .io .i64 p.st, .io .i64 p.en, .io .i64 (IntKind.i64.wrap (1 + (IntKind.i64.wrap (p.kd.tmod 3 + 3)).tmod 3)), .io .i64 p.nt, .io .i64 p.ct, .io .i64 p.sm, .io .i64 p.mn, .io .i64 p.mx]) (by kernel_rfl) ?_
    have hl : p.key.length ≤ 256 := by have := of_decide_eq_false b0; rw [mkB_size] at this; omega
    intro ρ w9 hm' hf
    exact ⟨by rw [show p.right.val = (SV.agg (paneL (mkB p.key) p.st p.en (rightK p.kd) p.nt p.ct p.sm p.mn p.mx)).den ρ from by unfold Pn.right; rw [List.take_of_length_le hl]; rfl]; rfl, hm'.below⟩

end Go.Proofs.YtkjnbafdmjakgaaDoor
