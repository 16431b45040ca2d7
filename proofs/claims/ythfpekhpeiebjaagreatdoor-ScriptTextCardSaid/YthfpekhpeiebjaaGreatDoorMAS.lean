/- Joined texts: U. -/
import Derived.Test.YthfpekhpeiebjaaGreatDoorMAN
import Derived.Lib.SmallJoins
import Derived.WideKeyArgs
import Derived.Deep.Slices
set_option linter.unusedSimpArgs false
set_option linter.unusedVariables false
section
/- A script handed in, taken apart. -/
set_option maxRecDepth 100000
namespace Go.Proofs.YthfpekhpeiebjaaGreatDoor
open Go.Joins Go.ChangeShapes Go.WideShapes Go.RowKit Go.Deep Go.Sx
section
variable {H : Type} {enc : TypeId × Value → H} {w : World} {base : Nat} {spare : Nat → Bool} {held : Bool}
theorem laid_out : laidOutB Tryz.prog = true := by kernel_rfl
theorem kc2 : Tryz.prog.cellsOf 2 = 1 := by kernel_rfl
theorem kc3 : Tryz.prog.cellsOf 3 = 1 := by kernel_rfl
theorem kc4 : Tryz.prog.cellsOf 4 = 1 := by kernel_rfl
theorem kc9 : Tryz.prog.cellsOf 9 = 1 := by kernel_rfl
theorem kc23 : Tryz.prog.cellsOf 23 = 1 := by kernel_rfl
theorem kc25 : Tryz.prog.cellsOf 25 = 10 := by kernel_rfl
theorem kc26 : Tryz.prog.cellsOf 26 = 1 := by kernel_rfl
theorem kc28 : Tryz.prog.cellsOf 28 = 12 := by kernel_rfl
theorem kc35 : Tryz.prog.cellsOf 35 = 1 := by kernel_rfl
theorem kc36 : Tryz.prog.cellsOf 36 = 1 := by kernel_rfl
theorem kc38 : Tryz.prog.cellsOf 38 = 5 := by kernel_rfl
theorem kc39 : Tryz.prog.cellsOf 39 = 1 := by kernel_rfl
theorem kc41 : Tryz.prog.cellsOf 41 = 10 := by kernel_rfl
instance : Inhabited St := ⟨⟨0, 0, [], 0, 0, 0, 0, 0, 0, 0⟩⟩
theorem wf_in {x : Int} (h : (Lit.int .i64 x).wf = true) : in64 x := by
 simp only [Lit.wf, Bool.and_eq_true, decide_eq_true_eq] at h
 exact ⟨h.1, h.2⟩
theorem wf_m {x : Int} (h : (Lit.int .u32 x).wf = true) : 0 ≤ x ∧ x < 4294967296 := by
 simp only [Lit.wf, Bool.and_eq_true, decide_eq_true_eq] at h
 exact ⟨h.1, Int.lt_of_le_of_lt h.2 (by decide)⟩
theorem cfg_of {fuel : Nat} {cs : List Value} {x : DataW H × List MemPlace} (h : DataW.trod enc Tryz.prog w base spare held fuel 25 cs = some x) : ∃ (g s k sz sl of gp lt ea : Int) (b : Bool), cs = [.int .i64 g, .int .i64 s, .int .i64 k, .int .i64 sz, .int .i64 sl, .int .i64 of, .int .i64 gp, .int .i64 lt, .int .i64 ea, .bool b] := by
 obtain ⟨xs, n, _, _, hl, hlen, hg⟩ := DataW.trod_struct Tryz.underlying25 h
 match cs, hl.trans kc25, xs, hlen with
 | [c0, c1, c2, c3, c4, c5, c6, c7, c8, c9], _, [y0, y1, y2, y3, y4, y5, y6, y7, y8, y9], _ =>
  have h0 : DataW.trod enc Tryz.prog w base spare held n 3 [c0] = some y0 := by simpa [kc3] using hg 0 _ rfl
  have h1 : DataW.trod enc Tryz.prog w base spare held n 3 [c1] = some y1 := by simpa [kc3] using hg 1 _ rfl
  have h2 : DataW.trod enc Tryz.prog w base spare held n 23 [c2] = some y2 := by simpa [kc23] using hg 2 _ rfl
  have h3 : DataW.trod enc Tryz.prog w base spare held n 2 [c3] = some y3 := by simpa [kc2] using hg 3 _ rfl
  have h4 : DataW.trod enc Tryz.prog w base spare held n 2 [c4] = some y4 := by simpa [kc2] using hg 4 _ rfl
  have h5 : DataW.trod enc Tryz.prog w base spare held n 2 [c5] = some y5 := by simpa [kc2] using hg 5 _ rfl
  have h6 : DataW.trod enc Tryz.prog w base spare held n 2 [c6] = some y6 := by simpa [kc2] using hg 6 _ rfl
  have h7 : DataW.trod enc Tryz.prog w base spare held n 2 [c7] = some y7 := by simpa [kc2] using hg 7 _ rfl
  have h8 : DataW.trod enc Tryz.prog w base spare held n 3 [c8] = some y8 := by simpa [kc3] using hg 8 _ rfl
  have h9 : DataW.trod enc Tryz.prog w base spare held n 4 [c9] = some y9 := by simpa [kc4] using hg 9 _ rfl
  obtain ⟨g, e0, _⟩ := DataW.trod_int Tryz.underlying3 h0
  obtain ⟨s, e1, _⟩ := DataW.trod_int Tryz.underlying3 h1
  obtain ⟨k, e2, _⟩ := DataW.trod_int Tryz.underlying23 h2
  obtain ⟨sz, e3, _⟩ := DataW.trod_int Tryz.underlying2 h3
  obtain ⟨sl, e4, _⟩ := DataW.trod_int Tryz.underlying2 h4
  obtain ⟨of, e5, _⟩ := DataW.trod_int Tryz.underlying2 h5
  obtain ⟨gp, e6, _⟩ := DataW.trod_int Tryz.underlying2 h6
  obtain ⟨lt, e7, _⟩ := DataW.trod_int Tryz.underlying2 h7
  obtain ⟨ea, e8, _⟩ := DataW.trod_int Tryz.underlying3 h8
  obtain ⟨b, e9, _⟩ := DataW.trod_bool Tryz.underlying4 h9
  simp only [List.cons.injEq, and_true] at e0 e1 e2 e3 e4 e5 e6 e7 e8 e9
  subst e0 e1 e2 e3 e4 e5 e6 e7 e8 e9
  exact ⟨g, s, k, sz, sl, of, gp, lt, ea, b, rfl⟩
theorem step_of {fuel : Nat} {cs : List Value} {x : DataW H × List MemPlace} (h : DataW.trod enc Tryz.prog w base spare held fuel 41 cs = some x) : ∃ y : St, cs = y.w ∧ y.ok := by
 obtain ⟨xs, n, _, _, hl, hlen, hg⟩ := DataW.trod_struct Tryz.underlying41 h
 match cs, hl.trans kc41, xs, hlen with
 | [c0, c1, c2, c3, c4, c5, c6, c7, c8, c9], _, [y0, y1, y2, y3, y4, y5], _ =>
  have h0 : DataW.trod enc Tryz.prog w base spare held n 35 [c0] = some y0 := by simpa [kc35] using hg 0 _ rfl
  have h1 : DataW.trod enc Tryz.prog w base spare held n 38 [c1, c2, c3, c4, c5] = some y1 := by simpa [kc38] using hg 1 _ rfl
  have h2 : DataW.trod enc Tryz.prog w base spare held n 3 [c6] = some y2 := by simpa [kc3] using hg 2 _ rfl
  have h3 : DataW.trod enc Tryz.prog w base spare held n 3 [c7] = some y3 := by simpa [kc3] using hg 3 _ rfl
  have h4 : DataW.trod enc Tryz.prog w base spare held n 3 [c8] = some y4 := by simpa [kc3] using hg 4 _ rfl
  have h5 : DataW.trod enc Tryz.prog w base spare held n 39 [c9] = some y5 := by simpa [kc39] using hg 5 _ rfl
  obtain ⟨xs1, n1, _, _, _, hlen1, hg1⟩ := DataW.trod_struct Tryz.underlying38 h1
  match xs1, hlen1 with
  | [z0, z1, z2, z3, z4], _ =>
   have k0 : DataW.trod enc Tryz.prog w base spare held n1 36 [c1] = some z0 := by simpa [kc36] using hg1 0 _ rfl
   have k1 : DataW.trod enc Tryz.prog w base spare held n1 9 [c2] = some z1 := by simpa [kc9] using hg1 1 _ rfl
   have k2 : DataW.trod enc Tryz.prog w base spare held n1 2 [c3] = some z2 := by simpa [kc2] using hg1 2 _ rfl
   have k3 : DataW.trod enc Tryz.prog w base spare held n1 2 [c4] = some z3 := by simpa [kc2] using hg1 3 _ rfl
   have k4 : DataW.trod enc Tryz.prog w base spare held n1 3 [c5] = some z4 := by simpa [kc3] using hg1 4 _ rfl
   obtain ⟨kd, e0, _, r0⟩ := DataW.trod_int Tryz.underlying35 h0
   obtain ⟨ik, e1, _, r1⟩ := DataW.trod_int Tryz.underlying36 k0
   obtain ⟨key, e2, _⟩ := DataW.trod_string Tryz.underlying9 k1
   obtain ⟨t, e3, _, r3⟩ := DataW.trod_int Tryz.underlying2 k2
   obtain ⟨v, e4, _, r4⟩ := DataW.trod_int Tryz.underlying2 k3
   obtain ⟨src, e5, _, r5⟩ := DataW.trod_int Tryz.underlying3 k4
   obtain ⟨wk, e6, _, r6⟩ := DataW.trod_int Tryz.underlying3 h2
   obtain ⟨wks, e7, _, r7⟩ := DataW.trod_int Tryz.underlying3 h3
   obtain ⟨bit, e8, _, r8⟩ := DataW.trod_int Tryz.underlying3 h4
   obtain ⟨mask, e9, _, r9⟩ := DataW.trod_int Tryz.underlying39 h5
   simp only [List.cons.injEq, and_true] at e0 e1 e2 e3 e4 e5 e6 e7 e8 e9
   subst e0 e1 e2 e3 e4 e5 e6 e7 e8 e9
   exact ⟨⟨kd, ik, key.data.toList, t, v, src, wk, wks, bit, mask⟩, rfl, ⟨wf_in r3, wf_in r4, wf_in r5, wf_in r6, wf_in r7, wf_in r8, wf_m r9⟩⟩
theorem stW_get {ls : List St} {i r : Nat} {x : St} {v : Value} (h : ls[i]? = some x) (hr : x.w[r]? = some v) : (stW ls)[i * 10 + r]? = some v := by
 induction ls generalizing i with
 | nil => cases h
 | cons y ls ih =>
  have hlt := (List.getElem?_eq_some_iff.1 hr).1
  rw [St.w_len] at hlt
  show (y.w ++ stW ls)[i * 10 + r]? = some v
  cases i with
  | zero =>
   cases h
   rw [List.getElem?_append_left (by rw [St.w_len]; omega)]
   simpa using hr
  | succ i =>
   rw [List.getElem?_append_right (by rw [St.w_len]; omega), St.w_len, show (i + 1) * 10 + r - 10 = i * 10 + r by omega]
   exact ih h
theorem stW_src {a : Addr} {ls : List St} (h : ∀ (i : Nat) (x : St), ls[i]? = some x → ∀ (r : Nat) (v : Value), x.w[r]? = some v → w.cell? ((a.add (i * 10)).add r) = some v) : Go.Sx.Src w a (stW ls) := fun j u hj => by
 have hlt := (List.getElem?_eq_some_iff.1 hj).1
 rw [stW_len] at hlt
 have hx : ls[j / 10]? = some ls[j / 10] := List.getElem?_eq_getElem (by omega)
 have hjj : j / 10 * 10 + j % 10 = j := by omega
 have hr : j % 10 < (ls[j / 10]).w.length := by rw [St.w_len]; omega
 have hg := stW_get hx (List.getElem?_eq_getElem hr)
 rw [hjj, hj] at hg
 have := h _ _ hx _ _ (List.getElem?_eq_getElem hr)
 rw [add_add, hjj] at this
 rw [this, hg]
theorem steps_of {fuel : Nat} {cs : List Value} {x : DataW H × List MemPlace} (h : DataW.trod enc Tryz.prog w base spare held fuel 26 cs = some x) :
  ∃ (A : Option Addr) (n c : Nat) (ls : List St), cs = [.slice A n c] ∧ SlS w A n ls ∧ (∀ p ∈ ls, p.ok) := by
 rcases open_slice Tryz.underlying26 h with ⟨hcs, hx⟩ | ⟨a, n, c, m, k, D, Pl, hcs, _, hl, _, hm, hx, hel⟩
 ·exact ⟨none, 0, 0, [], hcs, ⟨rfl, fun _ => rfl, fun a ha => (by cases ha)⟩, fun p hp => (by cases hp)⟩
 have hmn : n ≤ m := by rw [hm]; split <;> omega
 obtain ⟨f, hf⟩ := choose_lt (n := n) (p := fun i (y : St) => w.cells? base (a.add (i * 10)) 10 = some y.w ∧ y.ok) (fun i hi => by
  obtain ⟨cs', h1, h2⟩ := hel i (by omega)
  obtain ⟨y, rfl, hy⟩ := step_of h2
  rw [kc41] at h1
  exact ⟨y, h1, hy⟩)
 refine ⟨some a, n, c, (List.range n).map f, hcs, ⟨by simp, fun h => (by cases h), fun a' ha => ?_⟩, fun p hp => ?_⟩
 ·cases ha
  refine stW_src fun i y hy r v hv => ?_
  have hi : i < n := by
   have := (List.getElem?_eq_some_iff.1 hy).1
   simpa using this
  have he : y = f i := by
   rw [List.getElem?_map, List.getElem?_range hi] at hy
   simpa using hy.symm
  subst he
  have hr := (List.getElem?_eq_some_iff.1 hv).1
  rw [St.w_len] at hr
  rw [(World.cells?_some (hf i hi).1).2.2 r hr]
  exact hv
 obtain ⟨i, hi, rfl⟩ := List.mem_map.1 hp
 exact (hf i (List.mem_range.1 hi)).2
theorem open_script {r : Reach} {b0 : Nat} {v : Value} {d : DataW H} {p : List MemPlace} (hv : Value.okWide Tryz.prog w r b0 28 v) (h : DataW.Trod enc Tryz.prog w base spare held 28 v d p) :
  ∃ (g s k sz sl of gp lt ea : Int) (b : Bool) (wk : Int) (A : Option Addr) (n c : Nat) (xs : List St),
   v = .agg #[.int .i64 g, .int .i64 s, .int .i64 k, .int .i64 sz, .int .i64 sl, .int .i64 of, .int .i64 gp, .int .i64 lt, .int .i64 ea, .bool b, .int .i64 wk, .slice A n c] ∧ SlS w A n xs ∧ ∀ x ∈ xs, x.ok := by
 obtain ⟨cs, rfl, hsz⟩ := okWide_struct Tryz.underlying28 hv
 obtain ⟨l⟩ := cs
 obtain ⟨fuel, hf⟩ := h
 have hf' : DataW.trod enc Tryz.prog w base spare held fuel 28 l = some (d, p) := by simpa [Value.cells] using hf
 obtain ⟨xs, n, _, _, hl, hlen, hg⟩ := DataW.trod_struct Tryz.underlying28 hf'
 match l, hl.trans kc28, xs, hlen with
 | [c0, c1, c2, c3, c4, c5, c6, c7, c8, c9, c10, c11], _, [y0, y1, y2], _ =>
  have h0 : DataW.trod enc Tryz.prog w base spare held n 25 [c0, c1, c2, c3, c4, c5, c6, c7, c8, c9] = some y0 := by simpa [kc25] using hg 0 _ rfl
  have h1 : DataW.trod enc Tryz.prog w base spare held n 3 [c10] = some y1 := by simpa [kc3] using hg 1 _ rfl
  have h2 : DataW.trod enc Tryz.prog w base spare held n 26 [c11] = some y2 := by simpa [kc26] using hg 2 _ rfl
  obtain ⟨g, s, k, sz, sl, of, gp, lt, ea, b, e0⟩ := cfg_of h0
  obtain ⟨wk, e1, _⟩ := DataW.trod_int Tryz.underlying3 h1
  obtain ⟨A, m, c, ls, e2, hsl, hok⟩ := steps_of h2
  simp only [List.cons.injEq, and_true] at e0 e1 e2
  obtain ⟨rfl, rfl, rfl, rfl, rfl, rfl, rfl, rfl, rfl, rfl⟩ := e0
  subst e1 e2
  exact ⟨g, s, k, sz, sl, of, gp, lt, ea, b, wk, A, m, c, ls, rfl, hsl, hok⟩
end
end Go.Proofs.YthfpekhpeiebjaaGreatDoor
end
