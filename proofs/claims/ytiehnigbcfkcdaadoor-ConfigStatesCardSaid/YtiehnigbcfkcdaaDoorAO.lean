/- A state handed in by value, taken apart. -/
import Derived.Test.YtiehnigbcfkcdaaDoorAE
import Derived.Test.YtiehnigbcfkcdaaDoorAG
set_option linter.unusedSimpArgs false
set_option linter.unusedVariables false
set_option maxRecDepth 100000
namespace Go.Proofs.YtiehnigbcfkcdaaDoor
open Go.Joins Go.ChangeShapes Go.WideShapes Go.RowKit Go.Deep
section
variable {H : Type} {enc : TypeId × Value → H} {w : World} {base : Nat} {spare : Nat → Bool} {held : Bool}
theorem kc58 : Tryd.prog.cellsOf 58 = 12 := by kernel_rfl
theorem kc55 : Tryd.prog.cellsOf 55 = 1 := by kernel_rfl
theorem kc56 : Tryd.prog.cellsOf 56 = 1 := by kernel_rfl
theorem kb2 : Tryd.prog.bytesOf 2 = 8 := by kernel_rfl
theorem kb50 : Tryd.prog.bytesOf 50 = 48 := by kernel_rfl
instance : Inhabited Ky := ⟨⟨⟨#[]⟩, 0, none, 0, 0, []⟩⟩
theorem cfg_of {fuel : Nat} {cs : List Value} {x : DataW H × List MemPlace} (h : DataW.trod enc Tryd.prog w base spare held fuel 24 cs = some x) :
    ∃ (g s k sz sl of gp lt ea : Int) (b : Bool), cs = [.int .i64 g, .int .i64 s, .int .i64 k, .int .i64 sz, .int .i64 sl, .int .i64 of, .int .i64 gp, .int .i64 lt, .int .i64 ea, .bool b] := by
  obtain ⟨xs, n, _, hx, hl, hlen, hg⟩ := DataW.trod_struct Tryd.underlying24 h
  match cs, hl.trans kc24 with
  | [c0, c1, c2, c3, c4, c5, c6, c7, c8, c9], _ =>
    match xs, hlen with
    | [y0, y1, y2, y3, y4, y5, y6, y7, y8, y9], _ =>
      have h0 : DataW.trod enc Tryd.prog w base spare held n 3 [c0] = some y0 := by simpa [kc3] using hg 0 _ rfl
      have h1 : DataW.trod enc Tryd.prog w base spare held n 3 [c1] = some y1 := by simpa [kc3] using hg 1 _ rfl
      have h2 : DataW.trod enc Tryd.prog w base spare held n 22 [c2] = some y2 := by simpa [kc22] using hg 2 _ rfl
      have h3 : DataW.trod enc Tryd.prog w base spare held n 2 [c3] = some y3 := by simpa [kc2] using hg 3 _ rfl
      have h4 : DataW.trod enc Tryd.prog w base spare held n 2 [c4] = some y4 := by simpa [kc2] using hg 4 _ rfl
      have h5 : DataW.trod enc Tryd.prog w base spare held n 2 [c5] = some y5 := by simpa [kc2] using hg 5 _ rfl
      have h6 : DataW.trod enc Tryd.prog w base spare held n 2 [c6] = some y6 := by simpa [kc2] using hg 6 _ rfl
      have h7 : DataW.trod enc Tryd.prog w base spare held n 2 [c7] = some y7 := by simpa [kc2] using hg 7 _ rfl
      have h8 : DataW.trod enc Tryd.prog w base spare held n 3 [c8] = some y8 := by simpa [kc3] using hg 8 _ rfl
      have h9 : DataW.trod enc Tryd.prog w base spare held n 4 [c9] = some y9 := by simpa [kc4] using hg 9 _ rfl
      obtain ⟨g, e0, _, _⟩ := DataW.trod_int Tryd.underlying3 h0
      obtain ⟨s, e1, _, _⟩ := DataW.trod_int Tryd.underlying3 h1
      obtain ⟨k, e2, _, _⟩ := DataW.trod_int Tryd.underlying22 h2
      obtain ⟨sz, e3, _, _⟩ := DataW.trod_int Tryd.underlying2 h3
      obtain ⟨sl, e4, _, _⟩ := DataW.trod_int Tryd.underlying2 h4
      obtain ⟨of, e5, _, _⟩ := DataW.trod_int Tryd.underlying2 h5
      obtain ⟨gp, e6, _, _⟩ := DataW.trod_int Tryd.underlying2 h6
      obtain ⟨lt, e7, _, _⟩ := DataW.trod_int Tryd.underlying2 h7
      obtain ⟨ea, e8, _, _⟩ := DataW.trod_int Tryd.underlying3 h8
      obtain ⟨b, e9, _⟩ := DataW.trod_bool Tryd.underlying4 h9
      simp only [List.cons.injEq, and_true] at e0 e1 e2 e3 e4 e5 e6 e7 e8 e9
      subst e0 e1 e2 e3 e4 e5 e6 e7 e8 e9
      exact ⟨g, s, k, sz, sl, of, gp, lt, ea, b, rfl⟩
theorem ints_of {fuel : Nat} {cs : List Value} {x : DataW H × List MemPlace} (h : DataW.trod enc Tryd.prog w base spare held fuel 55 cs = some x) :
    ∃ (A : Option Addr) (n c : Nat) (ms : List Int), cs = [.slice A n c] ∧ SlI w A n ms ∧ ((∀ z ∈ x.1.weights Tryd.prog 55, z ≤ reachBytes) → n * 8 ≤ reachBytes) := by
  rcases open_ints Tryd.underlying55 Tryd.underlying2 kc2 h with ⟨hcs, hx⟩ | ⟨a, n, c, zs, hcs, _, hl, hm, hz, hx, hcell, _⟩
  · exact ⟨none, 0, 0, [], hcs, ⟨rfl, fun _ => rfl, fun a ha => (by cases ha)⟩, fun _ => by omega⟩
  · have hlen : n ≤ zs.length := by rw [hz]; split <;> omega
    refine ⟨some a, n, c, zs.take n, hcs, ⟨by rw [List.length_take]; omega, fun h => (by cases h), fun a' ha j u hj => ?_⟩, fun hw => ?_⟩
    · cases ha
      simp only [iv, List.getElem?_map, Option.map_eq_some_iff] at hj
      obtain ⟨z, hz1, rfl⟩ := hj
      have hi := (List.getElem?_eq_some_iff.1 hz1).1
      simp only [List.length_take] at hi
      rw [List.getElem?_take_of_lt (by omega)] at hz1
      rw [hcell j (by omega), List.getD_eq_getElem?_getD, hz1]
      rfl
    · subst hx
      have := hw (((lits IntKind.i64 (zs.take n)).length + (lits IntKind.i64 (zs.drop n)).length) * Tryd.prog.bytesOf 2) (by simp only [DataW.weights, Tryd.underlying55]; exact List.mem_cons_self)
      rw [kb2] at this
      simp only [lits, List.length_map, List.length_take, List.length_drop] at this
      omega
theorem kv_src {a : Addr} {ks : List Ky} (h : ∀ (i : Nat) (x : Ky), ks[i]? = some x → ∀ (r : Nat) (v : Value), (kC x)[r]? = some v → w.cell? ((a.add (i * 3)).add r) = some v) : Go.Sx.Src w a (kv ks) := fun j u hj => by
  have hlt := (List.getElem?_eq_some_iff.1 hj).1
  rw [kv_len] at hlt
  have hq : j / 3 < ks.length := by omega
  have hx : ks[j / 3]? = some ks[j / 3] := List.getElem?_eq_getElem hq
  have hjj : j = j / 3 * 3 + j % 3 := by omega
  have hg := kv_get ks (j / 3) _ hx (j % 3) (by omega)
  rw [← hjj, hj] at hg
  have := h _ _ hx _ _ hg.symm
  rw [add_add, ← hjj] at this
  exact this
theorem weights_all {e : TypeId} : ∀ {l : List (DataW H)} {d : DataW H}, d ∈ l → ∀ z ∈ d.weights Tryd.prog e, z ∈ DataW.weightsAll Tryd.prog e l
  | d' :: r, d, hd, z, hz => by
    simp only [DataW.weightsAll, List.mem_append]
    rcases List.mem_cons.1 hd with rfl | h
    · exact .inl hz
    · exact .inr (weights_all h z hz)
theorem keys_of {fuel : Nat} {cs : List Value} {x : DataW H × List MemPlace} (h : DataW.trod enc Tryd.prog w base spare held fuel 56 cs = some x) :
    ∃ (A : Option Addr) (n c : Nat) (ks : List Ky), cs = [.slice A n c] ∧ SlK w A n ks ∧ ((∀ z ∈ x.1.weights Tryd.prog 56, z ≤ reachBytes) → n * 48 ≤ reachBytes ∧ ∀ y ∈ ks, y.n * 72 ≤ reachBytes) := by
  rcases open_slice Tryd.underlying56 h with ⟨hcs, hx⟩ | ⟨a, n, c, m, k, D, Pl, hcs, _, hl, _, hm, hx, hel⟩
  · exact ⟨none, 0, 0, [], hcs, ⟨rfl, fun _ => rfl, fun a ha => (by cases ha), fun _ hy => (by cases hy)⟩, fun _ => ⟨by omega, fun _ hy => (by cases hy)⟩⟩
  · have hmn : n ≤ m := by rw [hm]; split <;> omega
    obtain ⟨f, hf⟩ := choose_lt (n := n) (p := fun i (y : Ky) => w.cells? base (a.add (i * 3)) 3 = some (kC y) ∧ SlW w y.A y.n y.ws ∧ ((∀ z ∈ (D i).weights Tryd.prog 50, z ≤ reachBytes) → y.n * 72 ≤ reachBytes)) (fun i hi => by
      obtain ⟨cs', h1, h2⟩ := hel i (by omega)
      obtain ⟨key, dr, A, n', c', ws, rfl, hs, _, hw⟩ := key_of h2
      rw [kc50] at h1
      exact ⟨⟨key, dr, A, n', c', ws⟩, h1, hs, hw⟩)
    refine ⟨some a, n, c, (List.range n).map f, hcs, ⟨by simp, fun h => (by cases h), fun a' ha => ?_, fun y hy => ?_⟩, fun hw => ⟨?_, fun y hy => ?_⟩⟩
    · cases ha
      refine kv_src fun i y hy r v hv => ?_
      have hi : i < n := by
        have := (List.getElem?_eq_some_iff.1 hy).1
        simpa using this
      have he : y = f i := by
        rw [List.getElem?_map, List.getElem?_range hi] at hy
        simpa using hy.symm
      subst he
      have hr := (List.getElem?_eq_some_iff.1 hv).1
      rw [kC_len] at hr
      rw [(World.cells?_some (hf i hi).1).2.2 r hr]
      exact hv
    · obtain ⟨i, hi, rfl⟩ := List.mem_map.1 hy
      exact (hf i (List.mem_range.1 hi)).2.1
    · subst hx
      have := hw ((((List.range n).map D).length + ((List.range (m - n)).map fun j => D (n + j)).length) * Tryd.prog.bytesOf 50) (by simp only [DataW.weights, Tryd.underlying56]; exact List.mem_cons_self)
      rw [kb50] at this
      simp only [List.length_map, List.length_range] at this
      omega
    · obtain ⟨i, hi, rfl⟩ := List.mem_map.1 hy
      refine (hf i (List.mem_range.1 hi)).2.2 fun z hz => hw z ?_
      subst hx
      simp only [DataW.weights, Tryd.underlying56, List.mem_cons, List.mem_append]
      exact .inr (.inl (weights_all (List.mem_map.2 ⟨i, hi, rfl⟩) z hz))
theorem open_state {ts : List TypeId} {ds : List (DataW H)} {j : Nat} {d : DataW H} {v : Value} {p : List MemPlace} {r : Reach} {b0 : Nat} (hv : Value.okWide Tryd.prog w r b0 58 v) (ht : ts[j]? = some 58) (hd : ds[j]? = some d) (hsz : (DataW.weightsEach Tryd.prog ts ds).all (· ≤ reachBytes) = true)
    (h : DataW.Trod enc Tryd.prog w base spare held 58 v d p) : ∃ (g s k sz sl of gp lt ea : Int) (b : Bool) (Bm : Option Addr) (nm cm : Nat) (ms : List Int) (Bk : Option Addr) (nk ck : Nat) (ks : List Ky),
      v = .agg #[.int .i64 g, .int .i64 s, .int .i64 k, .int .i64 sz, .int .i64 sl, .int .i64 of, .int .i64 gp, .int .i64 lt, .int .i64 ea, .bool b, .slice Bm nm cm, .slice Bk nk ck] ∧ SlI w Bm nm ms ∧ SlK w Bk nk ks ∧ nm * 8 ≤ 140737488351232 ∧ nk * 48 ≤ 140737488351232 ∧ ∀ x ∈ ks, x.n * 72 ≤ 140737488351232 := by
  obtain ⟨cs, rfl, hs⟩ := okWide_struct Tryd.underlying58 hv
  obtain ⟨l⟩ := cs
  obtain ⟨fuel, hf⟩ := h
  have hf' : DataW.trod enc Tryd.prog w base spare held fuel 58 l = some (d, p) := by simpa [Value.cells] using hf
  obtain ⟨xs, n, _, hx, hl, hlen, hg⟩ := DataW.trod_struct Tryd.underlying58 hf'
  match l, hl.trans kc58 with
  | [c0, c1, c2, c3, c4, c5, c6, c7, c8, c9, c10, c11], _ =>
    match xs, hlen with
    | [y0, y1, y2], _ =>
      have h0 : DataW.trod enc Tryd.prog w base spare held n 24 [c0, c1, c2, c3, c4, c5, c6, c7, c8, c9] = some y0 := by simpa [kc24] using hg 0 _ rfl
      have h1 : DataW.trod enc Tryd.prog w base spare held n 55 [c10] = some y1 := by simpa [kc55] using hg 1 _ rfl
      have h2 : DataW.trod enc Tryd.prog w base spare held n 56 [c11] = some y2 := by simpa [kc56] using hg 2 _ rfl
      obtain ⟨g, s, k, sz, sl, of, gp, lt, ea, b, e0⟩ := cfg_of h0
      obtain ⟨Bm, nm, cm, ms, e1, hms, hmw⟩ := ints_of h1
      obtain ⟨Bk, nk, ck, ks, e2, hks, hkw⟩ := keys_of h2
      simp only [List.cons.injEq, and_true] at e0 e1 e2
      obtain ⟨rfl, rfl, rfl, rfl, rfl, rfl, rfl, rfl, rfl, rfl⟩ := e0
      subst e1 e2
      have hd2 : d = .agg ([y0, y1, y2].map (·.1)) := congrArg Prod.fst hx
      have hall : ∀ z ∈ d.weights Tryd.prog 58, z ≤ reachBytes := fun z hz => by
        have := List.all_eq_true.1 hsz _ (DataW.weights_mem_each ht hd z hz)
        simpa using this
      subst hd2
      have k1 := hmw fun z hz => hall z (by
        simp only [DataW.weights, Tryd.underlying58, DataW.weightsEach, List.map_cons, List.map_nil, List.mem_append]
        exact .inr (.inl hz))
      have k2 := hkw fun z hz => hall z (by
        simp only [DataW.weights, Tryd.underlying58, DataW.weightsEach, List.map_cons, List.map_nil, List.mem_append]
        exact .inr (.inr (.inl hz)))
      exact ⟨g, s, k, sz, sl, of, gp, lt, ea, b, Bm, nm, cm, ms, Bk, nk, ck, ks, rfl, hms, hks, k1, k2.1, k2.2⟩
end
end Go.Proofs.YtiehnigbcfkcdaaDoor
