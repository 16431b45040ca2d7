/- A key's state handed in by value, taken apart. -/
import Derived.Test.YtiehnigbcfkcdaaDoorU
import Derived.Test.YtiehnigbcfkcdaaDoorX
import Derived.Deep.Slices
set_option linter.unusedSimpArgs false
set_option linter.unusedVariables false
set_option maxRecDepth 100000
namespace Go.Proofs.YtiehnigbcfkcdaaDoor
open Go.Joins Go.ChangeShapes Go.WideShapes Go.RowKit Go.Deep
section
variable {H : Type} {enc : TypeId × Value → H} {w : World} {base : Nat} {spare : Nat → Bool} {held : Bool}
theorem kc50 : Tryd.prog.cellsOf 50 = 3 := by kernel_rfl
theorem kc48 : Tryd.prog.cellsOf 48 = 1 := by kernel_rfl
theorem kc85 : Tryd.prog.cellsOf 85 = 2 := by kernel_rfl
theorem kc87 : Tryd.prog.cellsOf 87 = 4 := by kernel_rfl
theorem kc89 : Tryd.prog.cellsOf 89 = 9 := by kernel_rfl
theorem kb89 : Tryd.prog.bytesOf 89 = 72 := by kernel_rfl
instance : Inhabited Wn := ⟨⟨0, 0, 0, 0, 0, 0, 0, 0, 0⟩⟩
theorem win_of {fuel : Nat} {cs : List Value} {x : DataW H × List MemPlace} (h : DataW.trod enc Tryd.prog w base spare held fuel 89 cs = some x) : ∃ y : Wn, cs = wC y := by
  obtain ⟨xs, n, _, _, hl, hlen, hg⟩ := DataW.trod_struct Tryd.underlying89 h
  match cs, hl.trans kc89 with
  | [c0, c1, c2, c3, c4, c5, c6, c7, c8], _ =>
    match xs, hlen with
    | [y0, y1, y2, y3, y4], _ =>
      have h0 : DataW.trod enc Tryd.prog w base spare held n 85 [c0, c1] = some y0 := by simpa [kc85] using hg 0 _ rfl
      have h1 : DataW.trod enc Tryd.prog w base spare held n 2 [c2] = some y1 := by simpa [kc2] using hg 1 _ rfl
      have h2 : DataW.trod enc Tryd.prog w base spare held n 87 [c3, c4, c5, c6] = some y2 := by simpa [kc87] using hg 2 _ rfl
      have h3 : DataW.trod enc Tryd.prog w base spare held n 2 [c7] = some y3 := by simpa [kc2] using hg 3 _ rfl
      have h4 : DataW.trod enc Tryd.prog w base spare held n 2 [c8] = some y4 := by simpa [kc2] using hg 4 _ rfl
      obtain ⟨xs0, n0, _, _, _, hlen0, hg0⟩ := DataW.trod_struct Tryd.underlying85 h0
      obtain ⟨xs2, n2, _, _, _, hlen2, hg2⟩ := DataW.trod_struct Tryd.underlying87 h2
      match xs0, hlen0, xs2, hlen2 with
      | [z0, z1], _, [u0, u1, u2, u3], _ =>
        have k0 : DataW.trod enc Tryd.prog w base spare held n0 2 [c0] = some z0 := by simpa [kc2] using hg0 0 _ rfl
        have k1 : DataW.trod enc Tryd.prog w base spare held n0 2 [c1] = some z1 := by simpa [kc2] using hg0 1 _ rfl
        have k3 : DataW.trod enc Tryd.prog w base spare held n2 2 [c3] = some u0 := by simpa [kc2] using hg2 0 _ rfl
        have k4 : DataW.trod enc Tryd.prog w base spare held n2 2 [c4] = some u1 := by simpa [kc2] using hg2 1 _ rfl
        have k5 : DataW.trod enc Tryd.prog w base spare held n2 2 [c5] = some u2 := by simpa [kc2] using hg2 2 _ rfl
        have k6 : DataW.trod enc Tryd.prog w base spare held n2 2 [c6] = some u3 := by simpa [kc2] using hg2 3 _ rfl
        obtain ⟨a0, e0, _, _⟩ := DataW.trod_int Tryd.underlying2 k0
        obtain ⟨a1, e1, _, _⟩ := DataW.trod_int Tryd.underlying2 k1
        obtain ⟨a2, e2, _, _⟩ := DataW.trod_int Tryd.underlying2 h1
        obtain ⟨a3, e3, _, _⟩ := DataW.trod_int Tryd.underlying2 k3
        obtain ⟨a4, e4, _, _⟩ := DataW.trod_int Tryd.underlying2 k4
        obtain ⟨a5, e5, _, _⟩ := DataW.trod_int Tryd.underlying2 k5
        obtain ⟨a6, e6, _, _⟩ := DataW.trod_int Tryd.underlying2 k6
        obtain ⟨a7, e7, _, _⟩ := DataW.trod_int Tryd.underlying2 h3
        obtain ⟨a8, e8, _, _⟩ := DataW.trod_int Tryd.underlying2 h4
        simp only [List.cons.injEq, and_true] at e0 e1 e2 e3 e4 e5 e6 e7 e8
        subst e0 e1 e2 e3 e4 e5 e6 e7 e8
        exact ⟨⟨a0, a1, a2, a3, a4, a5, a6, a7, a8⟩, rfl⟩
theorem wv_src {a : Addr} {ws : List Wn} (h : ∀ (i : Nat) (x : Wn), ws[i]? = some x → ∀ (r : Nat) (v : Value), (wC x)[r]? = some v → w.cell? ((a.add (i * 9)).add r) = some v) : Go.Sx.Src w a (wv ws) := fun j u hj => by
  have hlt := (List.getElem?_eq_some_iff.1 hj).1
  rw [wv_len] at hlt
  have hq : j / 9 < ws.length := by omega
  have hx : ws[j / 9]? = some ws[j / 9] := List.getElem?_eq_getElem hq
  have hjj : j = j / 9 * 9 + j % 9 := by omega
  have hg := wv_get ws (j / 9) _ hx (j % 9) (by omega)
  rw [← hjj, hj] at hg
  have := h _ _ hx _ _ hg.symm
  rw [add_add, ← hjj] at this
  exact this
theorem wins_of {fuel : Nat} {cs : List Value} {x : DataW H × List MemPlace} (h : DataW.trod enc Tryd.prog w base spare held fuel 48 cs = some x) :
    ∃ (A : Option Addr) (n c : Nat) (ws : List Wn), cs = [.slice A n c] ∧ SlW w A n ws ∧ n ≤ c ∧ ((∀ z ∈ x.1.weights Tryd.prog 48, z ≤ reachBytes) → n * 72 ≤ reachBytes) := by
  rcases open_slice Tryd.underlying48 h with ⟨hcs, hx⟩ | ⟨a, n, c, m, k, D, Pl, hcs, _, hl, _, hm, hx, hel⟩
  · exact ⟨none, 0, 0, [], hcs, ⟨rfl, fun _ => rfl, fun a ha => (by cases ha)⟩, Nat.le_refl _, fun _ => by omega⟩
  · have hmn : n ≤ m := by rw [hm]; split <;> omega
    obtain ⟨f, hf⟩ := choose_lt (n := n) (p := fun i (y : Wn) => w.cells? base (a.add (i * 9)) 9 = some (wC y)) (fun i hi => by
      obtain ⟨cs', h1, h2⟩ := hel i (by omega)
      obtain ⟨y, rfl⟩ := win_of h2
      rw [kc89] at h1
      exact ⟨y, h1⟩)
    refine ⟨some a, n, c, (List.range n).map f, hcs, ⟨by simp, fun h => (by cases h), fun a' ha => ?_⟩, hl, fun hw => ?_⟩
    · cases ha
      refine wv_src fun i y hy r v hv => ?_
      have hi : i < n := by
        have := (List.getElem?_eq_some_iff.1 hy).1
        simpa using this
      have he : y = f i := by
        rw [List.getElem?_map, List.getElem?_range hi] at hy
        simpa using hy.symm
      subst he
      have hr := (List.getElem?_eq_some_iff.1 hv).1
      rw [wC_len] at hr
      rw [(World.cells?_some (hf i hi)).2.2 r hr]
      exact hv
    · subst hx
      have := hw ((((List.range n).map D).length + ((List.range (m - n)).map fun j => D (n + j)).length) * Tryd.prog.bytesOf 89) (by simp only [DataW.weights, Tryd.underlying48]; exact List.mem_cons_self)
      rw [kb89] at this
      simp only [List.length_map, List.length_range] at this
      omega
theorem key_of {fuel : Nat} {cs : List Value} {x : DataW H × List MemPlace} (h : DataW.trod enc Tryd.prog w base spare held fuel 50 cs = some x) :
    ∃ (key : ByteArray) (dr : Int) (A : Option Addr) (n c : Nat) (ws : List Wn), cs = [.string key, .int .i64 dr, .slice A n c] ∧ SlW w A n ws ∧ n ≤ c ∧ ((∀ z ∈ x.1.weights Tryd.prog 50, z ≤ reachBytes) → n * 72 ≤ reachBytes) := by
  obtain ⟨xs, k, _, hx, hl, hlen, hg⟩ := DataW.trod_struct Tryd.underlying50 h
  match cs, hl.trans kc50 with
  | [c0, c1, c2], _ =>
    match xs, hlen with
    | [y0, y1, y2], _ =>
      have h0 : DataW.trod enc Tryd.prog w base spare held k 9 [c0] = some y0 := by simpa [kc9] using hg 0 _ rfl
      have h1 : DataW.trod enc Tryd.prog w base spare held k 2 [c1] = some y1 := by simpa [kc2] using hg 1 _ rfl
      have h2 : DataW.trod enc Tryd.prog w base spare held k 48 [c2] = some y2 := by simpa [kc48] using hg 2 _ rfl
      obtain ⟨key, e0, _⟩ := DataW.trod_string Tryd.underlying9 h0
      obtain ⟨dr, e1, _⟩ := DataW.trod_int Tryd.underlying2 h1
      simp only [List.cons.injEq, and_true] at e0 e1
      subst e0 e1
      obtain ⟨A, n, c, ws, e2, hs, hnc, hw⟩ := wins_of h2
      simp only [List.cons.injEq, and_true] at e2
      subst e2
      refine ⟨key, dr, A, n, c, ws, rfl, hs, hnc, fun hz => hw fun z hzm => hz z ?_⟩
      subst hx
      simp only [DataW.weights, Tryd.underlying50, DataW.weightsEach, List.map_cons, List.map_nil, List.mem_append]
      exact .inr (.inr (.inl hzm))
theorem open_key {ts : List TypeId} {ds : List (DataW H)} {j : Nat} {d : DataW H} {v : Value} {p : List MemPlace} {r : Reach} {b0 : Nat} (hv : Value.okWide Tryd.prog w r b0 50 v) (ht : ts[j]? = some 50) (hd : ds[j]? = some d) (hsz : (DataW.weightsEach Tryd.prog ts ds).all (· ≤ reachBytes) = true)
    (h : DataW.Trod enc Tryd.prog w base spare held 50 v d p) : ∃ (key : ByteArray) (dr : Int) (A : Option Addr) (n c : Nat) (ws : List Wn), v = .agg #[.string key, .int .i64 dr, .slice A n c] ∧ SlW w A n ws ∧ n ≤ c ∧ n * 72 ≤ 140737488351232 := by
  obtain ⟨cs, rfl, hs⟩ := okWide_struct Tryd.underlying50 hv
  obtain ⟨l⟩ := cs
  obtain ⟨fuel, hf⟩ := h
  have hf' : DataW.trod enc Tryd.prog w base spare held fuel 50 l = some (d, p) := by simpa [Value.cells] using hf
  obtain ⟨key, dr, A, n, c, ws, e, h1, h2, h3⟩ := key_of hf'
  subst e
  exact ⟨key, dr, A, n, c, ws, rfl, h1, h2, h3 fun z hz => by
    have := List.all_eq_true.1 hsz _ (DataW.weights_mem_each ht hd z hz)
    simpa using this⟩
end
end Go.Proofs.YtiehnigbcfkcdaaDoor
