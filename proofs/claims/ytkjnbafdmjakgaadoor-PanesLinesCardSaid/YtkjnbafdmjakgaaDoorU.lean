/- Panes handed in, one by value or a slice of them, taken apart. -/
import Derived.Test.YtkjnbafdmjakgaaDoorL
import Derived.Test.YtkjnbafdmjakgaaDoorBS
import Derived.Lib.SmallJoins
import Derived.WideKeyArgs
import Derived.Deep.Slices
set_option linter.unusedSimpArgs false
set_option linter.unusedVariables false
set_option maxRecDepth 100000
namespace Go.Proofs.YtkjnbafdmjakgaaDoor
open Go.Joins Go.ChangeShapes Go.WideShapes Go.RowKit Go.Deep Go.Sx
section
variable {H : Type} {enc : TypeId × Value → H} {w : World} {base : Nat} {spare : Nat → Bool} {held : Bool}
theorem laid_out : laidOutB Tryd.prog = true := by kernel_rfl
theorem kc2 : Tryd.prog.cellsOf 2 = 1 := by kernel_rfl
theorem kc9 : Tryd.prog.cellsOf 9 = 1 := by kernel_rfl
theorem kc24 : Tryd.prog.cellsOf 24 = 2 := by kernel_rfl
theorem kc25 : Tryd.prog.cellsOf 25 = 1 := by kernel_rfl
theorem kc27 : Tryd.prog.cellsOf 27 = 4 := by kernel_rfl
theorem kc29 : Tryd.prog.cellsOf 29 = 9 := by kernel_rfl
theorem kc35 : Tryd.prog.cellsOf 35 = 1 := by kernel_rfl
instance : Inhabited Pn := ⟨⟨[], 0, 0, 0, 0, 0, 0, 0, 0⟩⟩
theorem wf_in {x : Int} (h : (Lit.int .i64 x).wf = true) : in64 x := by
  simp only [Lit.wf, Bool.and_eq_true, decide_eq_true_eq] at h
  exact ⟨h.1, h.2⟩
theorem pane_of {fuel : Nat} {cs : List Value} {x : DataW H × List MemPlace} (h : DataW.trod enc Tryd.prog w base spare held fuel 29 cs = some x) : ∃ y : Pn, cs = y.cells ∧ y.in64 := by
  obtain ⟨xs, n, _, _, hl, hlen, hg⟩ := DataW.trod_struct Tryd.underlying29 h
  match cs, hl.trans kc29 with
  | [c0, c1, c2, c3, c4, c5, c6, c7, c8], _ =>
    match xs, hlen with
    | [y0, y1, y2, y3, y4], _ =>
      have h0 : DataW.trod enc Tryd.prog w base spare held n 9 [c0] = some y0 := by simpa [kc9] using hg 0 _ rfl
      have h1 : DataW.trod enc Tryd.prog w base spare held n 24 [c1, c2] = some y1 := by simpa [kc24] using hg 1 _ rfl
      have h2 : DataW.trod enc Tryd.prog w base spare held n 25 [c3] = some y2 := by simpa [kc25] using hg 2 _ rfl
      have h3 : DataW.trod enc Tryd.prog w base spare held n 2 [c4] = some y3 := by simpa [kc2] using hg 3 _ rfl
      have h4 : DataW.trod enc Tryd.prog w base spare held n 27 [c5, c6, c7, c8] = some y4 := by simpa [kc27] using hg 4 _ rfl
      obtain ⟨xs1, n1, _, _, _, hlen1, hg1⟩ := DataW.trod_struct Tryd.underlying24 h1
      obtain ⟨xs4, n4, _, _, _, hlen4, hg4⟩ := DataW.trod_struct Tryd.underlying27 h4
      match xs1, hlen1, xs4, hlen4 with
      | [z0, z1], _, [u0, u1, u2, u3], _ =>
        have k0 : DataW.trod enc Tryd.prog w base spare held n1 2 [c1] = some z0 := by simpa [kc2] using hg1 0 _ rfl
        have k1 : DataW.trod enc Tryd.prog w base spare held n1 2 [c2] = some z1 := by simpa [kc2] using hg1 1 _ rfl
        have k3 : DataW.trod enc Tryd.prog w base spare held n4 2 [c5] = some u0 := by simpa [kc2] using hg4 0 _ rfl
        have k4 : DataW.trod enc Tryd.prog w base spare held n4 2 [c6] = some u1 := by simpa [kc2] using hg4 1 _ rfl
        have k5 : DataW.trod enc Tryd.prog w base spare held n4 2 [c7] = some u2 := by simpa [kc2] using hg4 2 _ rfl
        have k6 : DataW.trod enc Tryd.prog w base spare held n4 2 [c8] = some u3 := by simpa [kc2] using hg4 3 _ rfl
        obtain ⟨key, e0, _⟩ := DataW.trod_string Tryd.underlying9 h0
        obtain ⟨st, e1, _, r1⟩ := DataW.trod_int Tryd.underlying2 k0
        obtain ⟨en, e2, _, r2⟩ := DataW.trod_int Tryd.underlying2 k1
        obtain ⟨kd, e3, _, r3⟩ := DataW.trod_int Tryd.underlying25 h2
        obtain ⟨nt, e4, _, r4⟩ := DataW.trod_int Tryd.underlying2 h3
        obtain ⟨ct, e5, _, r5⟩ := DataW.trod_int Tryd.underlying2 k3
        obtain ⟨sm, e6, _, r6⟩ := DataW.trod_int Tryd.underlying2 k4
        obtain ⟨mn, e7, _, r7⟩ := DataW.trod_int Tryd.underlying2 k5
        obtain ⟨mx, e8, _, r8⟩ := DataW.trod_int Tryd.underlying2 k6
        simp only [List.cons.injEq, and_true] at e0 e1 e2 e3 e4 e5 e6 e7 e8
        subst e0 e1 e2 e3 e4 e5 e6 e7 e8
        exact ⟨⟨key.data.toList, st, en, kd, nt, ct, sm, mn, mx⟩, rfl, wf_in r1, wf_in r2, wf_in r4, wf_in r5, wf_in r6, wf_in r7, wf_in r8⟩
theorem pv_src {a : Addr} {ls : List Pn} (h : ∀ (i : Nat) (x : Pn), ls[i]? = some x → ∀ (r : Nat) (v : Value), x.cells[r]? = some v → w.cell? ((a.add (i * 9)).add r) = some v) : Go.Sx.Src w a (pv ls) := fun j u hj => by
  have hlt := (List.getElem?_eq_some_iff.1 hj).1
  rw [pv_len] at hlt
  have hx : ls[j / 9]? = some ls[j / 9] := List.getElem?_eq_getElem (by omega)
  have hjj : j / 9 * 9 + j % 9 = j := by omega
  have hr : j % 9 < (ls[j / 9]).cells.length := by rw [cells_len]; omega
  have hg := pv_at hx (List.getElem?_eq_getElem hr)
  rw [hjj, hj] at hg
  have := h _ _ hx _ _ (List.getElem?_eq_getElem hr)
  rw [add_add, hjj] at this
  rw [this, hg]
theorem panes_of {fuel : Nat} {cs : List Value} {x : DataW H × List MemPlace} (h : DataW.trod enc Tryd.prog w base spare held fuel 35 cs = some x) :
    ∃ (A : Option Addr) (n c : Nat) (ls : List Pn), cs = [.slice A n c] ∧ SlP w A n ls ∧ (∀ p ∈ ls, p.in64) ∧ n ≤ c := by
  rcases open_slice Tryd.underlying35 h with ⟨hcs, hx⟩ | ⟨a, n, c, m, k, D, Pl, hcs, _, hl, _, hm, hx, hel⟩
  · exact ⟨none, 0, 0, [], hcs, ⟨rfl, fun _ => rfl, fun a ha => (by cases ha)⟩, fun p hp => (by cases hp), Nat.le_refl _⟩
  · have hmn : n ≤ m := by rw [hm]; split <;> omega
    obtain ⟨f, hf⟩ := choose_lt (n := n) (p := fun i (y : Pn) => w.cells? base (a.add (i * 9)) 9 = some y.cells ∧ y.in64) (fun i hi => by
      obtain ⟨cs', h1, h2⟩ := hel i (by omega)
      obtain ⟨y, rfl, hy⟩ := pane_of h2
      rw [kc29] at h1
      exact ⟨y, h1, hy⟩)
    refine ⟨some a, n, c, (List.range n).map f, hcs, ⟨by simp, fun h => (by cases h), fun a' ha => ?_⟩, fun p hp => ?_, hl⟩
    · cases ha
      refine pv_src fun i y hy r v hv => ?_
      have hi : i < n := by
        have := (List.getElem?_eq_some_iff.1 hy).1
        simpa using this
      have he : y = f i := by
        rw [List.getElem?_map, List.getElem?_range hi] at hy
        simpa using hy.symm
      subst he
      have hr := (List.getElem?_eq_some_iff.1 hv).1
      rw [cells_len] at hr
      rw [(World.cells?_some (hf i hi).1).2.2 r hr]
      exact hv
    · obtain ⟨i, hi, rfl⟩ := List.mem_map.1 hp
      exact (hf i (List.mem_range.1 hi)).2
theorem open_panes {v : Value} {d : DataW H} {p : List MemPlace} {r : Reach} {b0 : Nat} (hv : Value.okWide Tryd.prog w r b0 35 v) (h : DataW.Trod enc Tryd.prog w base spare held 35 v d p) :
    ∃ (A : Option Addr) (n c : Nat) (ls : List Pn), v = .slice A n c ∧ SlP w A n ls ∧ (∀ p ∈ ls, p.in64) ∧ n ≤ c := by
  obtain ⟨A, n, c, rfl⟩ := okWide_slice Tryd.underlying35 hv
  obtain ⟨fuel, hf⟩ := h
  have hf' : DataW.trod enc Tryd.prog w base spare held fuel 35 [.slice A n c] = some (d, p) := by simpa [Value.cells] using hf
  obtain ⟨A', n', c', ls, e, h1, h2, h3⟩ := panes_of hf'
  simp only [List.cons.injEq, and_true] at e
  exact ⟨A', n', c', ls, e, h1, h2, h3⟩
theorem open_pane {v : Value} {d : DataW H} {p : List MemPlace} {r : Reach} {b0 : Nat} (hv : Value.okWide Tryd.prog w r b0 29 v) (h : DataW.Trod enc Tryd.prog w base spare held 29 v d p) : ∃ y : Pn, v = y.val ∧ y.in64 := by
  obtain ⟨cs, rfl, hsz⟩ := okWide_struct Tryd.underlying29 hv
  obtain ⟨l⟩ := cs
  obtain ⟨fuel, hf⟩ := h
  have hf' : DataW.trod enc Tryd.prog w base spare held fuel 29 l = some (d, p) := by simpa [Value.cells] using hf
  obtain ⟨y, rfl, hy⟩ := pane_of hf'
  exact ⟨y, rfl, hy⟩
end
end Go.Proofs.YtkjnbafdmjakgaaDoor
