/- A job handed in by value, taken apart. -/
import Derived.Test.YtiehnigbcfkcdaaGreatDoorL
import Derived.Lib.SmallJoins
import Derived.WideKeyArgs
set_option linter.unusedSimpArgs false
set_option linter.unusedVariables false
set_option maxRecDepth 100000
namespace Go.Proofs.YtiehnigbcfkcdaaGreatDoor
open Go.Joins Go.ChangeShapes Go.WideShapes Go.RowKit Go.Deep
section
variable {H : Type} {enc : TypeId × Value → H} {w : World} {base : Nat} {spare : Nat → Bool} {held : Bool}
theorem laid_out : laidOutB Tryz.prog = true := by kernel_rfl
theorem kc2 : Tryz.prog.cellsOf 2 = 1 := by kernel_rfl
theorem kc3 : Tryz.prog.cellsOf 3 = 1 := by kernel_rfl
theorem kc4 : Tryz.prog.cellsOf 4 = 1 := by kernel_rfl
theorem kc22 : Tryz.prog.cellsOf 22 = 1 := by kernel_rfl
theorem kc24 : Tryz.prog.cellsOf 24 = 10 := by kernel_rfl
theorem open_cfg {r : Reach} {b0 : Nat} {v : Value} {d : DataW H} {p : List MemPlace} (hv : Value.okWide Tryz.prog w r b0 24 v) (h : DataW.Trod enc Tryz.prog w base spare held 24 v d p) :
    ∃ (g s k sz sl of gp lt ea : Int) (b : Bool), v = .agg #[.int .i64 g, .int .i64 s, .int .i64 k, .int .i64 sz, .int .i64 sl, .int .i64 of, .int .i64 gp, .int .i64 lt, .int .i64 ea, .bool b] ∧
      (Lit.int .i64 g).wf = true ∧ (Lit.int .i64 s).wf = true ∧ (Lit.int .i64 k).wf = true ∧ (Lit.int .i64 sz).wf = true ∧ (Lit.int .i64 sl).wf = true ∧ (Lit.int .i64 of).wf = true ∧ (Lit.int .i64 gp).wf = true ∧ (Lit.int .i64 lt).wf = true ∧ (Lit.int .i64 ea).wf = true := by
  obtain ⟨cs, rfl, hsz⟩ := okWide_struct Tryz.underlying24 hv
  obtain ⟨l⟩ := cs
  match l, hsz.trans kc24 with
  | [c0, c1, c2, c3, c4, c5, c6, c7, c8, c9], _ =>
    obtain ⟨fuel, hf⟩ := h
    obtain ⟨xs, n, _, hx, _, hlen, hg⟩ := DataW.trod_struct Tryz.underlying24 hf
    match xs, hlen with
    | [y0, y1, y2, y3, y4, y5, y6, y7, y8, y9], _ =>
      have h0 : DataW.trod enc Tryz.prog w base spare held n 3 [c0] = some y0 := by simpa [Value.cells, kc3] using hg 0 _ rfl
      have h1 : DataW.trod enc Tryz.prog w base spare held n 3 [c1] = some y1 := by simpa [Value.cells, kc3] using hg 1 _ rfl
      have h2 : DataW.trod enc Tryz.prog w base spare held n 22 [c2] = some y2 := by simpa [Value.cells, kc22] using hg 2 _ rfl
      have h3 : DataW.trod enc Tryz.prog w base spare held n 2 [c3] = some y3 := by simpa [Value.cells, kc2] using hg 3 _ rfl
      have h4 : DataW.trod enc Tryz.prog w base spare held n 2 [c4] = some y4 := by simpa [Value.cells, kc2] using hg 4 _ rfl
      have h5 : DataW.trod enc Tryz.prog w base spare held n 2 [c5] = some y5 := by simpa [Value.cells, kc2] using hg 5 _ rfl
      have h6 : DataW.trod enc Tryz.prog w base spare held n 2 [c6] = some y6 := by simpa [Value.cells, kc2] using hg 6 _ rfl
      have h7 : DataW.trod enc Tryz.prog w base spare held n 2 [c7] = some y7 := by simpa [Value.cells, kc2] using hg 7 _ rfl
      have h8 : DataW.trod enc Tryz.prog w base spare held n 3 [c8] = some y8 := by simpa [Value.cells, kc3] using hg 8 _ rfl
      have h9 : DataW.trod enc Tryz.prog w base spare held n 4 [c9] = some y9 := by simpa [Value.cells, kc4] using hg 9 _ rfl
      obtain ⟨g, e0, _, r0⟩ := DataW.trod_int Tryz.underlying3 h0
      obtain ⟨s, e1, _, r1⟩ := DataW.trod_int Tryz.underlying3 h1
      obtain ⟨k, e2, _, r2⟩ := DataW.trod_int Tryz.underlying22 h2
      obtain ⟨sz, e3, _, r3⟩ := DataW.trod_int Tryz.underlying2 h3
      obtain ⟨sl, e4, _, r4⟩ := DataW.trod_int Tryz.underlying2 h4
      obtain ⟨of, e5, _, r5⟩ := DataW.trod_int Tryz.underlying2 h5
      obtain ⟨gp, e6, _, r6⟩ := DataW.trod_int Tryz.underlying2 h6
      obtain ⟨lt, e7, _, r7⟩ := DataW.trod_int Tryz.underlying2 h7
      obtain ⟨ea, e8, _, r8⟩ := DataW.trod_int Tryz.underlying3 h8
      obtain ⟨b, e9, _⟩ := DataW.trod_bool Tryz.underlying4 h9
      simp only [List.cons.injEq, and_true] at e0 e1 e2 e3 e4 e5 e6 e7 e8 e9
      subst e0 e1 e2 e3 e4 e5 e6 e7 e8 e9
      exact ⟨g, s, k, sz, sl, of, gp, lt, ea, b, rfl, r0, r1, r2, r3, r4, r5, r6, r7, r8⟩
end
end Go.Proofs.YtiehnigbcfkcdaaGreatDoor
