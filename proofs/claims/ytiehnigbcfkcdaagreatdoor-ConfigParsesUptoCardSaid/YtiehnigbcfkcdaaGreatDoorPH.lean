import Derived.Test.YtiehnigbcfkcdaaGreatDoorPG
set_option linter.unusedSimpArgs false
set_option linter.unusedVariables false
namespace Go.Proofs.YtiehnigbcfkcdaaGreatDoor
open Go.RowKit Go.Sx
noncomputable def B3 : Code := (Tryz.f3.body).getD .skip
set_option maxHeartbeats 20000000 in
set_option maxRecDepth 100000 in
theorem parses_walk (s : ByteArray) (hs : s.size ≤ 1048576) (w : World) (htab : Lib.TabIs Tryz.prog w "strings.asciiSpace" .u8 Lib.asciiSpaceTab) (htp : Lib.TabIs Tryz.prog w "internal/strconv.uint64pow10" .u64 Lib.pow10Tab)
    {tp1 tp2 : TypeId} {q1 q2 : Value} (hs1 : w.var? Tryz.prog "strconv.ErrSyntax" = some #[.iface tp1 q1]) (hs2 : w.var? Tryz.prog "strconv.ErrRange" = some #[.iface tp2 q2]) {m : Int} (hm : w.cell? ⟨6, 0, none⟩ = some (.int .i64 m)) :
    Calls Tryz.prog 3 #[.string s] w fun e w' => e = .returned (.bool true) ∧ Below w.heap.size w w' := by
  rcases parses_alike s with ⟨g, s', k, sz, sl, of, gp, lt, ea, d, h1, h2⟩ | ⟨h1, h2⟩
  · refine enter (fn := Tryz.f3) (c := B3) [.so s] Tryz.func3 rfl rfl ?_
    refine At.to (noF_stable) (noF_fewer) 20 300 [0, 8] 0 ⟨pops B3 [1, 0] 1, [.seq (sub B3 [1, 1])], [(0, .so s), (8, .so s)], []⟩ (by kernel_rfl) (by kernel_rfl) ?_
    refine At.call noF_stable 5 [.so s] (.tup [.agg (cfgL g s' k sz sl of gp lt ea d), .v (.int .i64 0)]) (by kernel_rfl) (by kernel_rfl) (by kernel_rfl) (fun ρ a w1 hi hf => ?_) ?_
    · exact (parse_any s hs w1 (tab_below htab hi.mem.below rfl) (tab_below htp hi.mem.below rfl) (var_below hs1 hi.mem.below) (var_below hs2 hi.mem.below) (cell_below hm hi.mem.below)).mono fun e w2 h => ⟨h.1.trans (by rw [h1]; rfl), h.2⟩
    refine At.to (noF_stable) (noF_fewer) 20 300 [3, 4, 13] 1 ⟨pops B3 [1, 1, 0] 1, [.seq (sub B3 [1, 1, 1])], [(3, .lp 0 0), (4, .v (.int .i64 0)), (13, .so s)], [([.io .i64 g, .io .i64 s', .io .i64 k, .io .i64 sz, .io .i64 sl, .io .i64 of, .io .i64 gp, .io .i64 lt, .io .i64 ea, .bo d], 24)]⟩ (by kernel_rfl) (by kernel_rfl) ?_
    refine At.call noF_stable 6 [.so s] (.tup [.agg (cfgL g s' k sz sl of gp lt ea d), .v (.bool true)]) (by kernel_rfl) (by kernel_rfl) (by kernel_rfl) (fun ρ a w1 hi hf => ?_) ?_
    · exact (rparse_any s hs w1 (tab_below htp hi.mem.below rfl)).mono fun e w2 h => ⟨h.1.trans (by rw [h2]; rfl), h.2⟩
    refine At.to (noF_stable) (noF_fewer) 20 300 [4, 6, 20] 0 ⟨pops B3 [1, 1, 1, 0] 4, [.seq (sub B3 [1, 1, 1, 1])], [(4, .v (.int .i64 0)), (6, .v (.bool true)), (20, .bo (g == g && (s' == s' && (k == k && (sz == sz && (sl == sl && (of == of && (gp == gp && (lt == lt && (ea == ea && (d == d && true)))))))))))], []⟩ (by kernel_rfl) (by kernel_rfl) ?_
    refine At.res 20 (g == g && (s' == s' && (k == k && (sz == sz && (sl == sl && (of == of && (gp == gp && (lt == lt && (ea == ea && (d == d && true)))))))))) true (by kernel_rfl) (by first | assumption | (simp only [*]; done) | (simp [*]; done)) ?_
    refine At.to (noF_stable) (noF_fewer) 20 300 [4, 6, 20, 21] 0 ⟨pops B3 [1, 1, 1, 0] 5, [.seq (sub B3 [1, 1, 1, 1])], [(4, .v (.int .i64 0)), (6, .v (.bool true)), (20, .v (.bool true)), (21, .v (.int .i64 0))], []⟩ (by kernel_rfl) (by kernel_rfl) ?_
    refine At.call (noF_stable) 7 [.v (.int .i64 0)] (.io .i64 0) (by kernel_rfl) (by kernel_rfl) (by kernel_rfl) (fun _ _ w _ _ => num_any (0) w) ?_
    refine At.to (noF_stable) (noF_fewer) 20 300 [4, 6, 27] 0 ⟨pops B3 [1, 1, 1, 0] 11, [.seq (sub B3 [1, 1, 1, 1])], [(4, .v (.int .i64 0)), (6, .v (.bool true)), (27, .bo true)], []⟩ (by kernel_rfl) (by kernel_rfl) ?_
    refine At.res 27 (true) true (by kernel_rfl) (by first | assumption | (simp only [*]; done) | (simp [*]; done)) ?_
    refine At.to (noF_stable) (noF_fewer) 20 300 [35] 0 ⟨pops B3 [1, 1, 1, 0] 19, [.seq (sub B3 [1, 1, 1, 1])], [(35, .v (.bool true))], []⟩ (by kernel_rfl) (by kernel_rfl) ?_
    refine At.call noF_stable 8 [] (.v (.bool true)) (by kernel_rfl) (by kernel_rfl) (by kernel_rfl) (fun _ _ w1 hi _ => works_true w1 (tab_below htab hi.mem.below rfl)) ?_
    refine At.to (noF_stable) (noF_fewer) 20 300 [2] 0 ⟨.exit .ret, [], [(2, .v (.bool true))], []⟩ (by kernel_rfl) (by kernel_rfl) ?_
    refine At.ret (by kernel_rfl) (.v (.bool true)) (by kernel_rfl) ?_
    intro ρ w9 hm' hf
    exact ⟨rfl, hm'.below⟩
  · refine enter (fn := Tryz.f3) (c := B3) [.so s] Tryz.func3 rfl rfl ?_
    refine At.to (noF_stable) (noF_fewer) 20 300 [0, 8] 0 ⟨pops B3 [1, 0] 1, [.seq (sub B3 [1, 1])], [(0, .so s), (8, .so s)], []⟩ (by kernel_rfl) (by kernel_rfl) ?_
    refine At.call noF_stable 5 [.so s] (.tup [.agg [.v (.int .i64 0), .v (.int .i64 0), .v (.int .i64 0), .v (.int .i64 0), .v (.int .i64 0), .v (.int .i64 0), .v (.int .i64 0), .v (.int .i64 0), .v (.int .i64 0), .v (.bool false)], .v (.int .i64 211)]) (by kernel_rfl) (by kernel_rfl) (by kernel_rfl) (fun ρ a w1 hi hf => ?_) ?_
    · exact (parse_any s hs w1 (tab_below htab hi.mem.below rfl) (tab_below htp hi.mem.below rfl) (var_below hs1 hi.mem.below) (var_below hs2 hi.mem.below) (cell_below hm hi.mem.below)).mono fun e w2 h => ⟨h.1.trans (by rw [h1]; rfl), h.2⟩
    refine At.to (noF_stable) (noF_fewer) 20 300 [3, 4, 13] 1 ⟨pops B3 [1, 1, 0] 1, [.seq (sub B3 [1, 1, 1])], [(3, .lp 0 0), (4, .v (.int .i64 211)), (13, .so s)], [([.v (.int .i64 0), .v (.int .i64 0), .v (.int .i64 0), .v (.int .i64 0), .v (.int .i64 0), .v (.int .i64 0), .v (.int .i64 0), .v (.int .i64 0), .v (.int .i64 0), .v (.bool false)], 24)]⟩ (by kernel_rfl) (by kernel_rfl) ?_
    refine At.call noF_stable 6 [.so s] (.tup [.agg [.v (.int .i64 0), .v (.int .i64 0), .v (.int .i64 0), .v (.int .i64 0), .v (.int .i64 0), .v (.int .i64 0), .v (.int .i64 0), .v (.int .i64 0), .v (.int .i64 0), .v (.bool false)], .v (.bool false)]) (by kernel_rfl) (by kernel_rfl) (by kernel_rfl) (fun ρ a w1 hi hf => ?_) ?_
    · exact (rparse_any s hs w1 (tab_below htp hi.mem.below rfl)).mono fun e w2 h => ⟨h.1.trans (by rw [h2]; rfl), h.2⟩
    refine At.to (noF_stable) (noF_fewer) 20 300 [4, 6, 20, 21] 0 ⟨pops B3 [1, 1, 1, 0] 5, [.seq (sub B3 [1, 1, 1, 1])], [(4, .v (.int .i64 211)), (6, .v (.bool false)), (20, .v (.bool true)), (21, .v (.int .i64 211))], []⟩ (by kernel_rfl) (by kernel_rfl) ?_
    refine At.call (noF_stable) 7 [.v (.int .i64 211)] (.io .i64 211) (by kernel_rfl) (by kernel_rfl) (by kernel_rfl) (fun _ _ w _ _ => num_any (211) w) ?_
    refine At.to (noF_stable) (noF_fewer) 20 300 [4, 6, 27] 0 ⟨pops B3 [1, 1, 1, 0] 11, [.seq (sub B3 [1, 1, 1, 1])], [(4, .v (.int .i64 211)), (6, .v (.bool false)), (27, .bo true)], []⟩ (by kernel_rfl) (by kernel_rfl) ?_
    refine At.res 27 (true) true (by kernel_rfl) (by first | assumption | (simp only [*]; done) | (simp [*]; done)) ?_
    refine At.to (noF_stable) (noF_fewer) 20 300 [27, 29, 30] 0 ⟨pops B3 [1, 1, 1, 0] 14, [.seq (sub B3 [1, 1, 1, 1])], [(27, .v (.bool true)), (29, .v (.bool false)), (30, .v (.int .i64 211))], []⟩ (by kernel_rfl) (by kernel_rfl) ?_
    refine At.call (noF_stable) 7 [.v (.int .i64 211)] (.io .i64 211) (by kernel_rfl) (by kernel_rfl) (by kernel_rfl) (fun _ _ w _ _ => num_any (211) w) ?_
    refine At.to (noF_stable) (noF_fewer) 20 300 [35] 0 ⟨pops B3 [1, 1, 1, 0] 19, [.seq (sub B3 [1, 1, 1, 1])], [(35, .bo true)], []⟩ (by kernel_rfl) (by kernel_rfl) ?_
    refine At.res 35 (true) true (by kernel_rfl) (by first | assumption | (simp only [*]; done) | (simp [*]; done)) ?_
    refine At.to (noF_stable) (noF_fewer) 20 300 [35] 0 ⟨pops B3 [1, 1, 1, 0] 19, [.seq (sub B3 [1, 1, 1, 1])], [(35, .v (.bool true))], []⟩ (by kernel_rfl) (by kernel_rfl) ?_
    refine At.call noF_stable 8 [] (.v (.bool true)) (by kernel_rfl) (by kernel_rfl) (by kernel_rfl) (fun _ _ w1 hi _ => works_true w1 (tab_below htab hi.mem.below rfl)) ?_
    refine At.to (noF_stable) (noF_fewer) 20 300 [2] 0 ⟨.exit .ret, [], [(2, .v (.bool true))], []⟩ (by kernel_rfl) (by kernel_rfl) ?_
    refine At.ret (by kernel_rfl) (.v (.bool true)) (by kernel_rfl) ?_
    intro ρ w9 hm' hf
    exact ⟨rfl, hm'.below⟩

end Go.Proofs.YtiehnigbcfkcdaaGreatDoor
