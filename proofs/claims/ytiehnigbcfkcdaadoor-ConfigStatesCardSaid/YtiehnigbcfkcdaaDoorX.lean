import Derived.Test.YtiehnigbcfkcdaaDoorK
import Derived.Test.YtiehnigbcfkcdaaDoorSxY
set_option linter.unusedSimpArgs false
set_option linter.unusedVariables false
namespace Go.Proofs.YtiehnigbcfkcdaaDoor
open Go.RowKit Go.Sx

/-- A window's nine numbers. -/
structure Wn where
  st : Int
  en : Int
  ho : Int
  co : Int
  su : Int
  mi : Int
  ma : Int
  si : Int
  pa : Int
def wL (x : Wn) : List SV := [.io .i64 x.st, .io .i64 x.en, .io .i64 x.ho, .io .i64 x.co, .io .i64 x.su, .io .i64 x.mi, .io .i64 x.ma, .io .i64 x.si, .io .i64 x.pa]
def wC (x : Wn) : List Value := [.int .i64 x.st, .int .i64 x.en, .int .i64 x.ho, .int .i64 x.co, .int .i64 x.su, .int .i64 x.mi, .int .i64 x.ma, .int .i64 x.si, .int .i64 x.pa]
def wv : List Wn → List Value
  | [] => []
  | x :: l => wC x ++ wv l
theorem wv_append : ∀ (l m : List Wn), wv (l ++ m) = wv l ++ wv m
  | [], m => rfl
  | x :: l, m => by rw [List.cons_append, wv, wv, wv_append l m, List.append_assoc]
theorem wC_len (x : Wn) : (wC x).length = 9 := rfl
theorem wv_len : ∀ l : List Wn, (wv l).length = l.length * 9
  | [] => rfl
  | x :: l => by rw [wv, List.length_append, wC_len, wv_len l, List.length_cons]; omega
theorem wv_one : ∀ l : List Wn, ∀ u ∈ wv l, u.oneCell' = true
  | [], u, h => by cases h
  | x :: l, u, h => by
    rw [wv, List.mem_append] at h
    rcases h with h | h
    · simp only [wC, List.mem_cons, List.not_mem_nil, or_false] at h
      rcases h with rfl | rfl | rfl | rfl | rfl | rfl | rfl | rfl | rfl <;> rfl
    · exact wv_one l u h
theorem wv_get : ∀ (l : List Wn) (j : Nat) (x : Wn), l[j]? = some x → ∀ i, i < 9 → (wv l)[j * 9 + i]? = (wC x)[i]?
  | [], j, x, h, _, _ => by simp at h
  | y :: l, 0, x, h, i, hi => by
    simp only [List.getElem?_cons_zero, Option.some.injEq] at h
    subst h
    rw [wv, List.getElem?_append_left (by rw [wC_len]; omega), Nat.zero_mul, Nat.zero_add]
  | y :: l, j + 1, x, h, i, hi => by
    simp only [List.getElem?_cons_succ] at h
    rw [wv, List.getElem?_append_right (by rw [wC_len]; omega), wC_len, show (j + 1) * 9 + i - 9 = j * 9 + i by omega]
    exact wv_get l j x h i hi
/-- A slice holds these windows. -/
def SlW (w : World) (A : Option Addr) (n : Nat) (ws : List Wn) : Prop := ws.length = n ∧ (A = none → ws = []) ∧ ∀ a, A = some a → Src w a (wv ws)
theorem SlW.below {w w' : World} {A : Option Addr} {n : Nat} {ws : List Wn} (h : SlW w A n ws) (hb : Below w.heap.size w w') : SlW w' A n ws :=
  ⟨h.1, h.2.1, fun a ha => src_low (h.2.2 a ha) hb⟩
theorem SlW.cell {w : World} {a : Addr} {n : Nat} {ws : List Wn} (h : SlW w (some a) n ws) {j : Nat} {x : Wn} (hx : ws[j]? = some x) : ∀ (i : Nat) (v : Value), (wC x)[i]? = some v → w.cell? ((a.add (j * 9)).add i) = some v := fun i v hv => by
  have hi := (List.getElem?_eq_some_iff.1 hv).1
  rw [wC_len] at hi
  rw [add_add]
  exact h.2.2 a rfl _ _ (by rw [wv_get ws j x hx i hi]; exact hv)
theorem SlW.head {w : World} {a : Addr} {n m : Nat} {ws zs : List Wn} (h : SlW w (some a) m (ws ++ zs)) (hl : ws.length = n) : SlW w (some a) n ws :=
  ⟨hl, fun h => by (cases h), fun a' ha j u hj => h.2.2 a' ha j u (by
    have := (List.getElem?_eq_some_iff.1 hj).1
    rw [wv_append, List.getElem?_append_left this]
    exact hj)⟩
theorem row_src {base e size n c : Nat} {a : Addr} {xs : List Value} {ρ : List Nat} {w : World} (h : Row base e size (some a) n c xs ρ w) : Src w a xs := fun j u hj => by
  have hj' := (List.getElem?_eq_some_iff.1 hj).1
  obtain ⟨g, hg, hc⟩ := h.cell (j := j) ((h.1.1 : xs.length = n * size) ▸ hj')
  injection hg with hg
  subst hg
  rw [add_ok, Nat.zero_add, hc]
  exact hj
theorem row_slW {base n c : Nat} {a : Addr} {ws : List Wn} {ρ : List Nat} {w : World} (h : Row base 89 9 (some a) n c (wv ws) ρ w) : SlW w (some a) n ws :=
  ⟨by have := h.1.1; rw [wv_len] at this; omega, fun h => by (cases h), fun a' ha => by cases ha; exact row_src h⟩
def markW (i : Int) : Wn := ⟨0, 0, -77, 0, 0, 0, 0, i, 0⟩

noncomputable def B44 : Code := (Tryd.f44.body).getD .skip
set_option maxHeartbeats 4000000 in
set_option maxRecDepth 100000 in
theorem mark_any (i : Int) (w : World) : Calls Tryd.prog 44 #[.int .i64 i] w fun e w' => e = .returned (.agg #[.int .i64 0, .int .i64 0, .int .i64 (-77), .int .i64 0, .int .i64 0, .int .i64 0, .int .i64 0, .int .i64 i, .int .i64 0]) ∧ Below w.heap.size w w' := by
  refine enter (fn := Tryd.f44) (c := B44) [.io .i64 i] Tryd.func44 rfl rfl ?_
  refine At.to noF_stable noF_fewer 20 400 [2] 1 ⟨.exit .ret, [], [(2, .lp 0 0)], [([.v (.int .i64 0), .v (.int .i64 0), .v (.int .i64 (-77)), .v (.int .i64 0), .v (.int .i64 0), .v (.int .i64 0), .v (.int .i64 0), .io .i64 i, .v (.int .i64 0)], 89)]⟩ (by kernel_rfl) (by kernel_rfl) ?_
  refine At.ret (by kernel_rfl) (.agg [.v (.int .i64 0), .v (.int .i64 0), .v (.int .i64 (-77)), .v (.int .i64 0), .v (.int .i64 0), .v (.int .i64 0), .v (.int .i64 0), .io .i64 i, .v (.int .i64 0)]) (by kernel_rfl) ?_
  intro ρ w9 hw9 _
  exact ⟨rfl, hw9.below⟩

end Go.Proofs.YtiehnigbcfkcdaaDoor
