/- Joined texts: TZ, U. -/
import Derived.Test.YtkjnbafdmjakgaaDoorXAO
import Derived.Test.YtkjnbafdmjakgaaDoorXAA
import Derived.Test.YtkjnbafdmjakgaaDoorXAL
import Derived.Lib.SmallJoins
import Derived.WideKeyArgs
import Derived.Deep.Slices
set_option linter.unusedSimpArgs false
set_option linter.unusedVariables false
namespace Go.Sx
open Go
def pAP0 : List Nat := [1, 1, 1, 1, 1, 1, 1, 1, 1, 0, 1, 4, 4, 1, 0, 4, 1]
def pAP1 : List Nat := [1, 1, 1, 1, 1, 1, 1, 1, 1, 0, 1, 4, 4, 1, 1]
def pAP2 : List Nat := [1, 1, 1, 1, 0, 1, 4, 4, 1, 0, 4, 1]
def pAP3 : List Nat := [1, 1, 1, 1, 0, 1, 4, 4, 1, 1]
def pAP4 : List Nat := [1, 1, 1, 1, 1, 1, 1, 1, 1, 1]
def pAP5 : List Nat := [1, 1, 1, 1, 1, 1, 1, 0, 0]
def pAP6 : List Nat := [1, 1, 1, 1, 1, 1, 1, 0, 1]
def pAP7 : List Nat := [1, 1, 1, 1, 1, 1, 1, 1]
def pAP8 : List Nat := [1, 1, 1, 1, 1, 0, 0]
def pAP9 : List Nat := [1, 1, 1, 1, 1, 0, 1]
def pAP10 : List Nat := [1, 1, 1, 1, 1, 1, 0]
def pAP11 : List Nat := [1, 1, 1, 1, 1, 1]
def pAP12 : List Nat := [1, 1, 1, 1, 1]
end Go.Sx
section
--@TZ
namespace Go.Proofs.YtkjnbafdmjakgaaDoor
open Go.RowKit Go.Sx
theorem rws_lift {N : Nat} {w0 w w' : World} {ρ : List Nat} {loc : Sx.Loc} {L : List Sx.Rw} (hm : WInv N w0 ρ loc w) (h : Rws w.heap.size L [] w') (hb : Below w.heap.size w w') : Rws N L ρ w' := by
 refine ⟨fun x hx => ?_, h.2⟩
 have hr := h.1 x hx
 refine ⟨own_base' hr.1 hm.hN, fun g hg hmm => ?_⟩
 have h5 := (hr.1.lt g hg).1
 have h6 := (hm.ge g hmm).2
 omega
theorem rowF_below {w w' : World} {e size : Nat} {A : Option Addr} {n c : Nat} {xs : List Value} (h : RowF w (fun _ => False) [] w.heap.size e size A n c xs [] w') : Below w.heap.size w w' := ⟨h.2.1.1.os, h.2.1.1.tape, h.2.1.1.output, h.2.1.1.size, fun k hk => h.2.1.1.block k hk (fun h => h)⟩
theorem rowF_rws {w w' : World} {e size : Nat} {A : Option Addr} {n c : Nat} {xs : List Value} (h : RowF w (fun _ => False) [] w.heap.size e size A n c xs [] w') : Rws w.heap.size [⟨e, size, A, n, c, xs⟩] [] w' :=
 ⟨fun x hx => by
  rw [List.mem_singleton] at hx
  subst hx
  exact h.1.1, List.pairwise_singleton _ _⟩
theorem rws_slp {b : Nat} {L : List Sx.Rw} {ρ : List Nat} {w : World} (h : Rws b L ρ w) {A : Option Addr} {n c : Nat} {ps : List Pn} (hx : (⟨29, 9, A, n, c, pv ps⟩ : Sx.Rw) ∈ L) (hn : n = ps.length) : SlP w A n ps :=
 ⟨hn.symm, fun hA => by
  have := (h.isNil hx hA).1
  exact List.eq_nil_of_length_eq_zero (by simp only at this; omega), fun a ha => h.src hx ha⟩
theorem outL1_at : ∀ {E : List En} {i : Nat} {k : List UInt8} {g : List Pn} {B : Option Addr} {d : Nat}, E[i]? = some (k, g, B, d) → (outL1 E)[(i : Int).toNat * 2 + 0]? = some (.string (mkB k)) ∧ (outL1 E)[(i : Int).toNat * 2 + 1]? = some (.slice B g.length d)
 | [], i, _, _, _, _, h => by simp at h
 | e :: E, 0, k, g, B, d, h => by
  simp only [List.getElem?_cons_zero, Option.some.injEq] at h
  subst h
  exact ⟨rfl, rfl⟩
 | e :: E, i + 1, k, g, B, d, h => by
  have ih := outL1_at (E := E) (i := i) (by simpa using h)
  have h2 : outL1 (e :: E) = .string (mkB e.1) :: .slice e.2.2.1 e.2.1.length e.2.2.2 :: outL1 E := by simp [outL1]
  rw [h2]
  simp only [Int.toNat_natCast, Nat.add_zero] at ih ⊢
  rw [show (i + 1) * 2 = i * 2 + 1 + 1 by omega, show i * 2 + 1 + 1 + 1 = (i * 2 + 1) + 1 + 1 by omega]
  simp only [List.getElem?_cons_succ]
  exact ih
theorem drop_all {E : List En} {K : List (List UInt8 × List Pn)} (h : E.map (fun e => (e.1, e.2.1)) = K) : backK (K.drop E.length) = [] := by
 rw [← h, List.drop_eq_nil_of_le (by rw [List.length_map]; exact Nat.le_refl _)]
 rfl
theorem backK_drop {K : List (List UInt8 × List Pn)} {i : Nat} {k : List UInt8} {g : List Pn} (h : K[i]? = some (k, g)) : backK (K.drop i) = backK (K.drop (i + 1)) ++ g := by
 rw [drop_at h, backK_cons]
theorem srt_at {κ ν : Type} {cmp : κ → κ → Int} {l : List (κ × ν)} (h : Srt cmp l) {i j : Nat} {x y : κ × ν} (hx : l[i]? = some x) (hy : l[j]? = some y) (hij : i < j) : cmp x.1 y.1 < 0 := by
 obtain ⟨h1, h2⟩ := List.getElem?_eq_some_iff.1 hx
 obtain ⟨h3, h4⟩ := List.getElem?_eq_some_iff.1 hy
 have := List.pairwise_iff_getElem.1 h i j h1 h3 hij
 rw [h2, h4] at this
 exact this
theorem pv_append (a b : List Pn) : pv (a ++ b) = pv a ++ pv b := by simp [pv]
theorem back_le (K : List (List UInt8 × List Pn)) (i : Nat) : (backK (K.drop i)).length ≤ (backK K).length := by
 induction i with
 | zero => exact Nat.le_refl _
 | succ i ih =>
  refine Nat.le_trans ?_ ih
  rcases Nat.lt_or_ge i K.length with h | h
  ·obtain ⟨⟨k, g⟩, hk⟩ : ∃ e, K[i]? = some e := ⟨_, List.getElem?_eq_getElem h⟩
   rw [backK_drop hk, List.length_append]
   omega
  ·rw [List.drop_eq_nil_of_le (by omega)]
   exact Nat.zero_le _
theorem slp_nil (w : World) : SlP w none 0 [] := ⟨rfl, fun _ => rfl, fun a h => by cases h⟩
structure LI where
 i : Nat
def frLI (aA bA : Option Addr) (N ac bc : Nat) : LI → Fr
 | ⟨i⟩ => [(9, .sl aA N ac), (10, .sl bA N bc), (11, .io .i64 (i : Int))]
def locLI (_ : LI) : Sx.Loc := []
theorem span_at {p : Pn} {ρ : List Nat} {j : Nat} {u : Value} (hj : (SV.denL ρ [.io .i64 p.st, .io .i64 p.en])[j]? = some u) : p.cells[1 + j]? = some u := by
 have h1 := (List.getElem?_eq_some_iff.1 hj).1
 rw [show (SV.denL ρ [.io .i64 p.st, .io .i64 p.en]).length = 2 from rfl] at h1
 have : j = 0 ∨ j = 1 := by omega
 rcases this with rfl | rfl <;> exact hj
structure AY where
 j : Nat
 A : Option Addr
 n : Nat
 c : Nat
def frAY (Al : Option Addr) (nl cl : Nat) (kA : Option Addr) (kn kc : Nat) : AY → Fr
 | ⟨j, A, n, c⟩ => [(0, .sl Al nl cl), (3, .lp 0 0), (5, .sl A n c), (6, .sl kA kn kc), (7, .io .i64 ((j : Int) - 1))]
def locAY (more : Pn) (_ : AY) : Sx.Loc := [([.so (mkB more.key), .io .i64 more.st, .io .i64 more.en, .io .i64 more.kd, .io .i64 more.nt, .io .i64 more.ct, .io .i64 more.sm, .io .i64 more.mn, .io .i64 more.mx], 29)]
def GAY (w0 : World) (ls : List Pn) (kA : Option Addr) (kc : Nat) (E : List En) : AY → List Nat → World → Prop
 | ⟨j, A, n, c⟩, ρ, w => Rws w0.heap.size (⟨29, 9, A, n, c, pv (backK ((keysM ls).drop j))⟩ :: ⟨57, 2, kA, E.length, kc, outL1 E⟩ :: cl1 E) ρ w ∧ (j ≤ E.length ∧ n = (backK ((keysM ls).drop j)).length)
noncomputable def B6 : Code := (Tryd.f6.body).getD .skip
set_option maxHeartbeats 20000000 in
set_option maxRecDepth 100000 in
theorem alike_ok (Al : Option Addr) (nl cl : Nat) (ls : List Pn) (more : Pn) (w : World) (hl : SlP w Al nl ls) (htp : Lib.TabIs Tryd.prog w "internal/strconv.uint64pow10" .u64 Lib.pow10Tab)
    {tp1 tp2 : TypeId} {q1 q2 : Value} (hs1 : w.var? Tryd.prog "strconv.ErrSyntax" = some #[.iface tp1 q1]) (hs2 : w.var? Tryd.prog "strconv.ErrRange" = some #[.iface tp2 q2]) {m : Int} (hm : w.cell? ⟨3, 0, none⟩ = some (.int .i64 m)) :
    Calls Tryd.prog 6 #[.slice Al nl cl, more.val] w fun e w' => e = .returned (.bool true) ∧ Below w.heap.size w w' := by
  have hnl := hl.1
  refine enter (fn := Tryd.f6) (c := B6) [.sl Al nl cl, .agg [.so (mkB more.key), .io .i64 more.st, .io .i64 more.en, .io .i64 more.kd, .io .i64 more.nt, .io .i64 more.ct, .io .i64 more.sm, .io .i64 more.mn, .io .i64 more.mx]] Tryd.func6 rfl rfl ?_
  refine At.to (noF_stable) (noF_fewer) 0 300 [0, 3, 14] 1 ⟨.code (sub B6 [1, 0, 1]), [.seq (sub B6 [1, 1])], [(0, .sl Al nl cl), (3, .lp 0 0), (14, .bo (decide ((↑nl : Int) > 200)))], [([.so (mkB more.key), .io .i64 more.st, .io .i64 more.en, .io .i64 more.kd, .io .i64 more.nt, .io .i64 more.ct, .io .i64 more.sm, .io .i64 more.mn, .io .i64 more.mx], 29)]⟩ (by kernel_rfl) (by kernel_rfl) ?_
  rcases Bool.eq_false_or_eq_true (decide ((↑nl : Int) > 200)) with b0 | b0
  · refine At.res 14 (decide ((↑nl : Int) > 200)) true (by kernel_rfl) b0 ?_
    refine At.to (noF_stable) (noF_fewer) 0 300 [] 0 ⟨pops B6 [1, 0, 1, 2, 0] 0, [.seq (sub B6 [1, 0, 1, 2, 1]), .seq (sub B6 [1, 1])], [], []⟩ (by kernel_rfl) (by kernel_rfl) ?_
    refine At.call noF_stable 7 [] (.v (.bool true)) (by kernel_rfl) (by kernel_rfl) (by kernel_rfl) (fun _ _ w1 hi _ => known_any w1 (tab_below htp hi.mem.below rfl) (var_below hs1 hi.mem.below) (var_below hs2 hi.mem.below) (cell_below hm hi.mem.below)) ?_
    refine At.to (noF_stable) (noF_fewer) 0 300 [4] 0 ⟨.exit .ret, [], [(4, .v (.bool true))], []⟩ (by kernel_rfl) (by kernel_rfl) ?_
    refine At.ret (by kernel_rfl) (.v (.bool true)) (by kernel_rfl) ?_
    intro ρ w9 hm' hf
    exact ⟨rfl, hm'.below⟩
  · refine At.res 14 (decide ((↑nl : Int) > 200)) false (by kernel_rfl) b0 ?_
    refine At.to (noF_stable) (noF_fewer) 0 300 [0, 3, 5, 16] 1 ⟨pops B6 [1, 1, 1, 0] 1, [.seq (sub B6 [1, 1, 1, 1])], [(0, .sl Al nl cl), (3, .lp 0 0), (5, .v (.slice none 0 0)), (16, .sl Al nl cl)], [([.so (mkB more.key), .io .i64 more.st, .io .i64 more.en, .io .i64 more.kd, .io .i64 more.nt, .io .i64 more.ct, .io .i64 more.sm, .io .i64 more.mn, .io .i64 more.mx], 29)]⟩ (by kernel_rfl) (by kernel_rfl) ?_
    have hbig : nl ≤ 200 := by
      have := of_decide_eq_false b0
      omega
    clear b0
    refine At.callx noF_stable (X := Option Addr × Nat × Nat × List En) 23 [.sl Al nl cl] (fun x => .sl x.1 x.2.1 x.2.2.1) (fun x ρ w1 => Rws w.heap.size (⟨57, 2, x.1, x.2.1, x.2.2.1, outL1 x.2.2.2⟩ :: cl1 x.2.2.2) ρ w1 ∧ (x.2.1 = x.2.2.2.length ∧ x.2.2.2.map (fun e => (e.1, e.2.1)) = keysM ls)) (fun x => Stable.andP Rws.stable) (by kernel_rfl) (by kernel_rfl) (by kernel_rfl) (by kernel_rfl) (fun ρ a w1 hi hf => (keys_any w1 (hl.below hi.mem.below) hbig).mono fun e w2 h => ?_) (fun x => ?_)
    · obtain ⟨A, n, c, E, h1, h2, h3, h4, h5⟩ := h
      exact ⟨(A, n, c, E), h1, h5, rws_lift hi.mem h4 h5, h2, h3⟩
    obtain ⟨kA, kn, kc, E⟩ := x
    dsimp only
    refine At.mono (F' := fun ρ w1 => Rws w.heap.size (⟨57, 2, kA, kn, kc, outL1 E⟩ :: cl1 E) ρ w1 ∧ (kn = E.length ∧ E.map (fun e => (e.1, e.2.1)) = keysM ls)) (fun ρ w1 h => h.2) (At.pure fun ⟨hkn, hE⟩ => ?_)
    subst hkn
    have hEl : E.length ≤ 200 := by
      have h8 := congrArg List.length hE
      have h9 := keysM_len ls
      rw [List.length_map] at h8
      omega
    have hw0 : IntKind.i64.wrap ((E.length : Int) - 1) = (E.length : Int) - 1 := wrap_id ⟨by omega, by omega⟩
    refine At.toJ (Rws.stable) Rws.fewer 0 300 [0, 3, 5, 6, 7] 1 ⟨.code (sub B6 [1, 1, 1, 1, 0, 1, 4]), [.block 0, .seq (sub B6 pAP12)], [(0, .sl Al nl cl), (3, .lp 0 0), (5, .v (.slice none 0 0)), (6, .sl kA E.length kc), (7, .io .i64 (IntKind.i64.wrap ((↑E.length : Int) - 1)))], [([.so (mkB more.key), .io .i64 more.st, .io .i64 more.en, .io .i64 more.kd, .io .i64 more.nt, .io .i64 more.ct, .io .i64 more.sm, .io .i64 more.mn, .io .i64 more.mx], 29)]⟩ (by kernel_rfl) (by kernel_rfl) ?_
    refine At.slFr _ rfl ?_
    refine At.slLoc _ rfl ?_
    refine At.loop (σ := AY) (sub B6 [1, 1, 1, 1, 0, 1, 4, 4]) (frAY Al nl cl kA E.length kc) (locAY more) (GAY w ls kA kc E) (fun x => x.j) ⟨E.length, none, 0, 0⟩ (by kernel_rfl) (by unfold subFr; simp only [frAY, hw0]; kernel_rfl) (by kernel_rfl) (fun _ _ _ _ h => ⟨?_, Nat.le_refl _, ?_⟩) ?_
    · rw [drop_all hE]
      exact Rws.nil h 29 9
    · rw [drop_all hE]
      rfl
    rintro ⟨j, A, n, c⟩
    refine At.pure fun ⟨h1, h2⟩ => ?_
    refine At.toJ (Rws.stable) Rws.fewer 0 300 [0, 3, 5, 6, 7, 22] 1 ⟨.code (sub B6 [1, 1, 1, 1, 0, 1, 4, 4, 0, 1]), [.seq (sub B6 [1, 1, 1, 1, 0, 1, 4, 4, 1]), .next (Sx.Next w.heap.size w Tryd.f6.ntmps (frAY Al nl cl kA E.length kc) (locAY more) (GAY w ls kA kc E) (fun x => x.j) (AY.mk j A n c)), .block 0, .seq (sub B6 pAP12)], [(0, .sl Al nl cl), (3, .lp 0 0), (5, .sl A n c), (6, .sl kA E.length kc), (7, .io .i64 ((↑j : Int) - 1)), (22, .bo (decide ((↑j : Int) - 1 ≥ 0)))], [([.so (mkB more.key), .io .i64 more.st, .io .i64 more.en, .io .i64 more.kd, .io .i64 more.nt, .io .i64 more.ct, .io .i64 more.sm, .io .i64 more.mn, .io .i64 more.mx], 29)]⟩ (by kernel_rfl) (by kernel_rfl) ?_
    rcases Bool.eq_false_or_eq_true (decide ((↑j : Int) - 1 ≥ 0)) with b0 | b0
    · refine At.res 22 (decide ((↑j : Int) - 1 ≥ 0)) true (by kernel_rfl) b0 ?_
      refine At.toJ (Rws.stable) Rws.fewer 0 300 [0, 3, 5, 6, 7] 1 ⟨.any (opsOf (sub B6 [1, 1, 1, 1, 0, 1, 4, 4, 1, 0, 4, 0, 0])) 41 [], [.seq (sub B6 [1, 1, 1, 1, 0, 1, 4, 4, 1, 0, 4, 0, 1]), .seq (sub B6 pAP2), .block 1, .seq (sub B6 pAP3), .next (Sx.Next w.heap.size w Tryd.f6.ntmps (frAY Al nl cl kA E.length kc) (locAY more) (GAY w ls kA kc E) (fun x => x.j) (AY.mk j A n c)), .block 0, .seq (sub B6 pAP12)], [(0, .sl Al nl cl), (3, .lp 0 0), (5, .sl A n c), (6, .sl kA E.length kc), (7, .io .i64 ((↑j : Int) - 1))], [([.so (mkB more.key), .io .i64 more.st, .io .i64 more.en, .io .i64 more.kd, .io .i64 more.nt, .io .i64 more.ct, .io .i64 more.sm, .io .i64 more.mn, .io .i64 more.mx], 29)]⟩ (by kernel_rfl) (by kernel_rfl) ?_
      obtain ⟨i, rfl⟩ : ∃ i, j = i + 1 := ⟨j - 1, by have := of_decide_eq_true b0; omega⟩
      clear b0
      have hji : (((i + 1 : Nat) : Int) - 1) = (i : Int) := by omega
      rw [hji]
      obtain ⟨⟨k, g, B, d⟩, he⟩ : ∃ e, E[i]? = some e := ⟨_, List.getElem?_eq_getElem (by omega)⟩
      have hmem : (⟨29, 9, B, g.length, d, pv g⟩ : Sx.Rw) ∈ (⟨29, 9, A, n, c, pv (backK ((keysM ls).drop (i + 1)))⟩ :: ⟨57, 2, kA, E.length, kc, outL1 E⟩ :: cl1 E) := List.mem_cons_of_mem _ (List.mem_cons_of_mem _ (List.mem_map.2 ⟨_, List.mem_of_getElem? he, rfl⟩))
      have hKi : (keysM ls)[i]? = some (k, g) := by
        rw [← hE, List.getElem?_map, he]
        rfl
      obtain ⟨hgk, hgn⟩ := keysOf_mem (keysM_of ls) (List.mem_of_getElem? hKi)
      have hsame : ∀ {ρ : List Nat} {w1 : World}, Kn.ok (.eq (.v (.bool true))) ρ w1 (.bool (decide (g = grp k ls))) := by
        intro ρ w1
        show Value.bool (decide (g = grp k ls)) = .bool true
        rw [decide_eq_true hgk]
      have hgl : g.length ≤ 200 := by
        have := grp_le k ls
        have := hl.1
        rw [hgk]
        omega
      refine At.know (p := ∃ a, kA = some a) (fun ρ w1 hf => hf.some (List.mem_cons_of_mem _ (List.mem_cons_self ..)) (show 0 < E.length by omega)) fun ⟨ka, hka⟩ => ?_
      subst hka
      have hG0 : ∀ {ρ : List Nat} {w1 : World}, Rws w.heap.size (⟨29, 9, A, n, c, pv (backK ((keysM ls).drop (i + 1)))⟩ :: ⟨57, 2, some ka, E.length, kc, outL1 E⟩ :: cl1 E) ρ w1 → w1.cell? ((ka.add ((i : Int).toNat * 2)).add 0) = some (.string (mkB k)) := fun hf => by
        rw [add_add]
        exact hf.src (List.mem_cons_of_mem _ (List.mem_cons_self ..)) rfl _ _ (outL1_at he).1
      have hG1 : ∀ {ρ : List Nat} {w1 : World}, Rws w.heap.size (⟨29, 9, A, n, c, pv (backK ((keysM ls).drop (i + 1)))⟩ :: ⟨57, 2, some ka, E.length, kc, outL1 E⟩ :: cl1 E) ρ w1 → w1.cell? ((ka.add ((i : Int).toNat * 2)).add 1) = some (.slice B g.length d) := fun hf => by
        rw [add_add]
        exact hf.src (List.mem_cons_of_mem _ (List.mem_cons_self ..)) rfl _ _ (outL1_at he).2
      have hg0 : ((g.length : Int) == 0) = false := by
        cases g with
        | nil => exact absurd rfl hgn
        | cons x y => rw [beq_eq_false_iff_ne]; simp only [List.length_cons]; omega
      refine At.canon _ rfl ?_
      rcases Nat.eq_zero_or_pos i with hi0 | hi0
      · have hip : decide ((i : Int) > 0) = false := decide_eq_false (by omega)
        refine At.drawn0W [(0, .eq (.sl (some ka) E.length kc)), (1, .eq (.io .i64 (i : Int))), (2, .eq (.v (.pointer (some (ka.add (((i : Int) : Int).toNat * 2)))))), (3, .eq (.v (.pointer (some ((ka.add (((i : Int) : Int).toNat * 2)).add 1))))), (4, .eq (.sl B g.length d)), (5, .eq (.io .i64 (g.length : Int))), (6, .eq (.v (.bool false))), (7, .eq (.v (.bool false))), (8, .eq (.io .i64 (i : Int))), (9, .eq (.v (.bool false))), (10, .eq (.v (.bool false))), (11, .eq (.v undef)), (12, .eq (.v undef)), (13, .eq (.v undef)), (14, .eq (.v undef)), (15, .eq (.v undef)), (16, .eq (.v undef)), (17, .eq (.v undef)), (18, .eq (.v undef)), (19, .eq (.v undef)), (20, .eq (.v undef)), (21, .eq (.v undef)), (22, .eq (.v undef)), (23, .eq (.v (.bool false))), (24, .eq (.v (.bool false))), (25, .eq (.v (.bool false))), (26, .eq (.sl (some ka) E.length kc)), (27, .eq (.io .i64 (i : Int))), (28, .eq (.v (.pointer (some (ka.add (((i : Int) : Int).toNat * 2)))))), (29, .eq (.v (.pointer (some ((ka.add (((i : Int) : Int).toNat * 2)).add 1))))), (30, .eq (.sl B g.length d)), (31, .eq (.sl Al nl cl)), (32, .eq (.sl (some ka) E.length kc)), (33, .eq (.io .i64 (i : Int))), (34, .eq (.v (.pointer (some (ka.add (((i : Int) : Int).toNat * 2)))))), (35, .eq (.v (.pointer (some ((ka.add (((i : Int) : Int).toNat * 2)).add 0))))), (36, .eq (.so (mkB k))), (37, .ex (Option Addr × Nat) (fun x => .sl x.1 (grp k ls).length x.2) (fun x ρ w1 => Rws w.heap.size [⟨29, 9, x.1, (grp k ls).length, x.2, pv (grp k ls)⟩] ρ w1)), (38, .eq (.v (.bool true))), (39, .eq (.v (.bool false))), (40, .eq (.v (.bool false)))] [0, 1, 2, 3, 4, 5, 6, 7, 8, 9, 10, 11, 12, 13, 14, 15, 16, 17, 18, 19, 20, 21, 22, 23, 24, 25, 26, 27, 28, 29, 30, 31, 32, 33, 34, 35, 36, 37, 38, 39, 40] [(0, .sl Al nl cl), (3, .lp 0 0), (5, .sl A n c), (6, .sl (some ka) E.length kc), (7, .io .i64 (i : Int)), (65, .v (.bool false))] rfl (by kernel_rfl) (by kernel_rfl) Rws.stable (by exact ⟨trivial, trivial, trivial, trivial, trivial, trivial, trivial, trivial, trivial, trivial, trivial, trivial, trivial, trivial, trivial, trivial, trivial, trivial, trivial, trivial, trivial, trivial, trivial, trivial, trivial, trivial, trivial, trivial, trivial, trivial, trivial, trivial, trivial, trivial, trivial, trivial, trivial, fun b => Rws.stable, trivial, trivial, trivial, trivial⟩) (by exact ⟨.inl (StepK.pure (by kernel_rfl) rfl),
          .inl (StepK.pure (by kernel_rfl) rfl),
          .inl (StepK.idx ka E.length 2 ((i : Int)) (by kernel_rfl) rfl (by omega) (by omega) (fun _ => rfl)),
          .inl (StepK.fax (ka.add (((i : Int) : Int).toNat * 2)) 1 (by kernel_rfl) rfl),
          .inl (StepK.ldx ((ka.add (((i : Int) : Int).toNat * 2)).add 1) (by kernel_rfl) rfl (fun ρ w1 hm hf => hG1 hf)),
          .inl (StepK.pure (by kernel_rfl) rfl),
          .inl (StepK.pureE (.bo ((g.length : Int) == 0)) (by kernel_rfl) rfl (fun _ => congrArg Value.bool hg0)),
          .inl (StepK.pure (by kernel_rfl) rfl),
          .inl (StepK.pure (by kernel_rfl) rfl),
          .inl (StepK.pureE (.bo (decide ((i : Int) > 0))) (by kernel_rfl) rfl (fun _ => congrArg Value.bool hip)),
          .inl (StepK.pure (by kernel_rfl) rfl),
          StepW.skip (by kernel_rfl) rfl,
          StepW.skip (by kernel_rfl) rfl,
          StepW.skip (by kernel_rfl) rfl,
          StepW.skip (by kernel_rfl) rfl,
          StepW.skip (by kernel_rfl) rfl,
          StepW.skip (by kernel_rfl) rfl,
          StepW.skip (by kernel_rfl) rfl,
          StepW.skip (by kernel_rfl) rfl,
          StepW.skip (by kernel_rfl) rfl,
          StepW.skip (by kernel_rfl) rfl,
          StepW.skip (by kernel_rfl) rfl,
          StepW.skip (by kernel_rfl) rfl,
          .inl (StepK.pure (by kernel_rfl) rfl),
          .inl (StepK.pure (by kernel_rfl) rfl),
          .inl (StepK.pure (by kernel_rfl) rfl),
          .inl (StepK.pure (by kernel_rfl) rfl),
          .inl (StepK.pure (by kernel_rfl) rfl),
          .inl (StepK.idx ka E.length 2 ((i : Int)) (by kernel_rfl) rfl (by omega) (by omega) (fun _ => rfl)),
          .inl (StepK.fax (ka.add (((i : Int) : Int).toNat * 2)) 1 (by kernel_rfl) rfl),
          .inl (StepK.ldx ((ka.add (((i : Int) : Int).toNat * 2)).add 1) (by kernel_rfl) rfl (fun ρ w1 hm hf => hG1 hf)),
          .inl (StepK.pure (by kernel_rfl) rfl),
          .inl (StepK.pure (by kernel_rfl) rfl),
          .inl (StepK.pure (by kernel_rfl) rfl),
          .inl (StepK.idx ka E.length 2 ((i : Int)) (by kernel_rfl) rfl (by omega) (by omega) (fun _ => rfl)),
          .inl (StepK.fax (ka.add (((i : Int) : Int).toNat * 2)) 0 (by kernel_rfl) rfl),
          .inl (StepK.ldx ((ka.add (((i : Int) : Int).toNat * 2)).add 0) (by kernel_rfl) rfl (fun ρ w1 hm hf => hG0 hf)),
          .inl (StepK.call 24 [.sl Al nl cl, .so (mkB k)] (by kernel_rfl) rfl (by kernel_rfl) (fun ρ w1 hm hf => (of_any k w1 (hl.below hm.below) hbig).mono fun e w2 h => by
            obtain ⟨A9, c9, h1, h2⟩ := h
            have hb2 := rowF_below h2
            exact ⟨_, h1, ⟨(A9, c9), rfl, rws_lift hm (rowF_rws h2) hb2⟩, hb2⟩)),
          .inl (StepK.callX (X := Option Addr × Nat) (r := fun x => .sl x.1 (grp k ls).length x.2) (G := fun x ρ w1 => Rws w.heap.size [⟨29, 9, x.1, (grp k ls).length, x.2, pv (grp k ls)⟩] ρ w1) 37 62 12 (fun x => [.sl B g.length d, .sl x.1 (grp k ls).length x.2]) (by kernel_rfl) (by kernel_rfl) rfl (fun x => by kernel_rfl) rfl (by kernel_rfl) (fun x ρ w1 hm hf hx => (same_sl (A := B) (B := x.1) (n := g.length) (m := (grp k ls).length) (c := d) (d := x.2) (ps := g) (qs := grp k ls) w1 (rws_slp (A := B) (n := g.length) (c := d) (ps := g) hf hmem rfl) (rws_slp (A := x.1) (n := (grp k ls).length) (c := x.2) (ps := grp k ls) hx (List.mem_singleton.2 rfl) rfl) (by omega)).mono fun e w2 h => ⟨.bool (decide (g = grp k ls)), h.1, hsame, h.2⟩)),
          .inl (StepK.pure (by kernel_rfl) rfl),
          .inl (StepK.pure (by kernel_rfl) rfl), trivial⟩) (by unfold subFr; kernel_rfl) ?_
        refine At.toJ (Rws.stable) Rws.fewer 0 300 [0, 3, 6, 7, 66, 67, 68] 1 ⟨pops B6 pAP2 3, [.block 1, .seq (sub B6 pAP3), .next (Sx.Next w.heap.size w Tryd.f6.ntmps (frAY Al nl cl (some ka) E.length kc) (locAY more) (GAY w ls (some ka) kc E) (fun x => x.j) (AY.mk (i + 1) A n c)), .block 0, .seq (sub B6 pAP12)], [(0, .sl Al nl cl), (3, .lp 0 0), (6, .sl (some ka) E.length kc), (7, .io .i64 (↑i : Int)), (66, .sl A n c), (67, .sl (some ka) E.length kc), (68, .io .i64 (↑i : Int))], [([.so (mkB more.key), .io .i64 more.st, .io .i64 more.en, .io .i64 more.kd, .io .i64 more.nt, .io .i64 more.ct, .io .i64 more.sm, .io .i64 more.mn, .io .i64 more.mx], 29)]⟩ (by kernel_rfl) (by kernel_rfl) ?_
        refine At.idx ka E.length 2 (i : Int) (by kernel_rfl) (by omega) (by omega) Rws.stable ?_
        refine At.fax (ka.add ((i : Int).toNat * 2)) 1 (by kernel_rfl) Rws.stable ?_
        refine At.ldx ((ka.add ((i : Int).toNat * 2)).add 1) (.sl B g.length d) (by kernel_rfl) Rws.stable (fun ρ w1 hm' hf => hG1 hf) ?_
        refine At.toJ (Rws.stable) Rws.fewer 0 300 [0, 3, 6, 7, 66, 71] 1 ⟨pops B6 pAP2 6, [.block 1, .seq (sub B6 pAP3), .next (Sx.Next w.heap.size w Tryd.f6.ntmps (frAY Al nl cl (some ka) E.length kc) (locAY more) (GAY w ls (some ka) kc E) (fun x => x.j) (AY.mk (i + 1) A n c)), .block 0, .seq (sub B6 pAP12)], [(0, .sl Al nl cl), (3, .lp 0 0), (6, .sl (some ka) E.length kc), (7, .io .i64 (↑i : Int)), (66, .sl A n c), (71, .sl B g.length d)], [([.so (mkB more.key), .io .i64 more.st, .io .i64 more.en, .io .i64 more.kd, .io .i64 more.nt, .io .i64 more.ct, .io .i64 more.sm, .io .i64 more.mn, .io .i64 more.mx], 29)]⟩ (by kernel_rfl) (by kernel_rfl) ?_
        have hback := backK_drop hKi
        have hbl : n ≤ 200 := by
          have h8 := len_of_eq (back_alike ls)
          have h9 := back_le (keysM ls) (i + 1)
          omega
        refine At.know (p := B = none → g.length = 0) (fun ρ w1 hf hB => (hf.isNil hmem hB).1) fun hnoB => ?_
        refine At.appR 29 9 80 A n c B g.length d (pv (backK ((keysM ls).drop (i + 1)))) (pv g) (⟨57, 2, some ka, E.length, kc, outL1 E⟩ :: cl1 E) (by kernel_rfl) (by rw [pv_len]) (pv_one g) (fun hB => hnoB hB) (fun b hb ρ w1 hm hf => hf.src hmem hb) (by omega) (by simp only [maxLen]; omega) (fun A' c' _ => ?_)
        refine At.toJ (Rws.stable) Rws.fewer 0 300 [0, 3, 5, 6, 7] 1 ⟨.exit .normal, [.next (Sx.Next w.heap.size w Tryd.f6.ntmps (frAY Al nl cl (some ka) E.length kc) (locAY more) (GAY w ls (some ka) kc E) (fun x => x.j) (AY.mk (i + 1) A n c)), .block 0, .seq (sub B6 pAP12)], [(0, .sl Al nl cl), (3, .lp 0 0), (5, .sl A' (n + g.length) c'), (6, .sl (some ka) E.length kc), (7, .io .i64 (IntKind.i64.wrap ((↑i : Int) - 1)))], [([.so (mkB more.key), .io .i64 more.st, .io .i64 more.en, .io .i64 more.kd, .io .i64 more.nt, .io .i64 more.ct, .io .i64 more.sm, .io .i64 more.mn, .io .i64 more.mx], 29)]⟩ (by kernel_rfl) (by kernel_rfl) ?_
        have hwi : IntKind.i64.wrap ((i : Int) - 1) = (i : Int) - 1 := wrap_id ⟨by omega, by omega⟩
        rw [hwi]
        refine At.next (σ := AY) ⟨i, A', n + g.length, c'⟩ rfl rfl (by unfold subFr; kernel_rfl) (by kernel_rfl) (fun ρ a' w' hi' hf => ⟨?_, by omega, ?_⟩) ?_
        · rw [hback, pv_append]
          exact hf
        · rw [hback, List.length_append, ← h2]
        · show i < i + 1
          omega
      · have hip : decide ((i : Int) > 0) = true := decide_eq_true (by omega)
        have hi1 : IntKind.i64.wrap ((i : Int) - 1) = ((i - 1 : Nat) : Int) := by
          rw [wrap63 (by omega) (by omega)]
          omega
        obtain ⟨⟨k0, g0, B0, d0⟩, he0⟩ : ∃ e, E[i - 1]? = some e := ⟨_, List.getElem?_eq_getElem (by omega)⟩
        have hG2 : ∀ {ρ : List Nat} {w1 : World}, Rws w.heap.size (⟨29, 9, A, n, c, pv (backK ((keysM ls).drop (i + 1)))⟩ :: ⟨57, 2, some ka, E.length, kc, outL1 E⟩ :: cl1 E) ρ w1 → w1.cell? ((ka.add (((i - 1 : Nat) : Int).toNat * 2)).add 0) = some (.string (mkB k0)) := fun hf => by
          rw [add_add]
          exact hf.src (List.mem_cons_of_mem _ (List.mem_cons_self ..)) rfl _ _ (outL1_at he0).1
        have hlt : (!Op.bytesLess (mkB k0).toList (mkB k).toList) = false := by
          rw [mkB_list, mkB_list]
          have h8 := srt_at (keysM_of ls).1 (show (keysM ls)[i - 1]? = some (k0, g0) by rw [← hE, List.getElem?_map, he0]; rfl) hKi (by omega)
          rw [cmp1_lt.1 h8]
          rfl
        refine At.drawn0W [(0, .eq (.sl (some ka) E.length kc)), (1, .eq (.io .i64 (i : Int))), (2, .eq (.v (.pointer (some (ka.add (((i : Int) : Int).toNat * 2)))))), (3, .eq (.v (.pointer (some ((ka.add (((i : Int) : Int).toNat * 2)).add 1))))), (4, .eq (.sl B g.length d)), (5, .eq (.io .i64 (g.length : Int))), (6, .eq (.v (.bool false))), (7, .eq (.v (.bool false))), (8, .eq (.io .i64 (i : Int))), (9, .eq (.v (.bool true))), (10, .eq (.v (.bool true))), (11, .eq (.sl (some ka) E.length kc)), (12, .eq (.io .i64 (i : Int))), (13, .eq (.io .i64 ((i - 1 : Nat) : Int))), (14, .eq (.v (.pointer (some (ka.add ((((i - 1 : Nat) : Int) : Int).toNat * 2)))))), (15, .eq (.v (.pointer (some ((ka.add ((((i - 1 : Nat) : Int) : Int).toNat * 2)).add 0))))), (16, .eq (.so (mkB k0))), (17, .eq (.sl (some ka) E.length kc)), (18, .eq (.io .i64 (i : Int))), (19, .eq (.v (.pointer (some (ka.add (((i : Int) : Int).toNat * 2)))))), (20, .eq (.v (.pointer (some ((ka.add (((i : Int) : Int).toNat * 2)).add 0))))), (21, .eq (.so (mkB k))), (22, .eq (.v (.bool false))), (23, .eq (.v (.bool false))), (24, .eq (.v (.bool false))), (25, .eq (.v (.bool false))), (26, .eq (.sl (some ka) E.length kc)), (27, .eq (.io .i64 (i : Int))), (28, .eq (.v (.pointer (some (ka.add (((i : Int) : Int).toNat * 2)))))), (29, .eq (.v (.pointer (some ((ka.add (((i : Int) : Int).toNat * 2)).add 1))))), (30, .eq (.sl B g.length d)), (31, .eq (.sl Al nl cl)), (32, .eq (.sl (some ka) E.length kc)), (33, .eq (.io .i64 (i : Int))), (34, .eq (.v (.pointer (some (ka.add (((i : Int) : Int).toNat * 2)))))), (35, .eq (.v (.pointer (some ((ka.add (((i : Int) : Int).toNat * 2)).add 0))))), (36, .eq (.so (mkB k))), (37, .ex (Option Addr × Nat) (fun x => .sl x.1 (grp k ls).length x.2) (fun x ρ w1 => Rws w.heap.size [⟨29, 9, x.1, (grp k ls).length, x.2, pv (grp k ls)⟩] ρ w1)), (38, .eq (.v (.bool true))), (39, .eq (.v (.bool false))), (40, .eq (.v (.bool false)))] [0, 1, 2, 3, 4, 5, 6, 7, 8, 9, 10, 11, 12, 13, 14, 15, 16, 17, 18, 19, 20, 21, 22, 23, 24, 25, 26, 27, 28, 29, 30, 31, 32, 33, 34, 35, 36, 37, 38, 39, 40] [(0, .sl Al nl cl), (3, .lp 0 0), (5, .sl A n c), (6, .sl (some ka) E.length kc), (7, .io .i64 (i : Int)), (65, .v (.bool false))] rfl (by kernel_rfl) (by kernel_rfl) Rws.stable (by exact ⟨trivial, trivial, trivial, trivial, trivial, trivial, trivial, trivial, trivial, trivial, trivial, trivial, trivial, trivial, trivial, trivial, trivial, trivial, trivial, trivial, trivial, trivial, trivial, trivial, trivial, trivial, trivial, trivial, trivial, trivial, trivial, trivial, trivial, trivial, trivial, trivial, trivial, fun b => Rws.stable, trivial, trivial, trivial, trivial⟩) (by exact ⟨.inl (StepK.pure (by kernel_rfl) rfl),
          .inl (StepK.pure (by kernel_rfl) rfl),
          .inl (StepK.idx ka E.length 2 ((i : Int)) (by kernel_rfl) rfl (by omega) (by omega) (fun _ => rfl)),
          .inl (StepK.fax (ka.add (((i : Int) : Int).toNat * 2)) 1 (by kernel_rfl) rfl),
          .inl (StepK.ldx ((ka.add (((i : Int) : Int).toNat * 2)).add 1) (by kernel_rfl) rfl (fun ρ w1 hm hf => hG1 hf)),
          .inl (StepK.pure (by kernel_rfl) rfl),
          .inl (StepK.pureE (.bo ((g.length : Int) == 0)) (by kernel_rfl) rfl (fun _ => congrArg Value.bool hg0)),
          .inl (StepK.pure (by kernel_rfl) rfl),
          .inl (StepK.pure (by kernel_rfl) rfl),
          .inl (StepK.pureE (.bo (decide ((i : Int) > 0))) (by kernel_rfl) rfl (fun _ => congrArg Value.bool hip)),
          .inl (StepK.pure (by kernel_rfl) rfl),
          .inl (StepK.pure (by kernel_rfl) rfl),
          .inl (StepK.pure (by kernel_rfl) rfl),
          .inl (StepK.pureE (.io .i64 (IntKind.i64.wrap ((i : Int) - 1))) (by kernel_rfl) rfl (fun _ => congrArg (Value.int .i64) hi1)),
          .inl (StepK.idx ka E.length 2 (((i - 1 : Nat) : Int)) (by kernel_rfl) rfl (by omega) (by omega) (fun _ => rfl)),
          .inl (StepK.fax (ka.add ((((i - 1 : Nat) : Int) : Int).toNat * 2)) 0 (by kernel_rfl) rfl),
          .inl (StepK.ldx ((ka.add ((((i - 1 : Nat) : Int) : Int).toNat * 2)).add 0) (by kernel_rfl) rfl (fun ρ w1 hm hf => hG2 hf)),
          .inl (StepK.pure (by kernel_rfl) rfl),
          .inl (StepK.pure (by kernel_rfl) rfl),
          .inl (StepK.idx ka E.length 2 ((i : Int)) (by kernel_rfl) rfl (by omega) (by omega) (fun _ => rfl)),
          .inl (StepK.fax (ka.add (((i : Int) : Int).toNat * 2)) 0 (by kernel_rfl) rfl),
          .inl (StepK.ldx ((ka.add (((i : Int) : Int).toNat * 2)).add 0) (by kernel_rfl) rfl (fun ρ w1 hm hf => hG0 hf)),
          .inl (StepK.pureE (.bo (!Op.bytesLess (mkB k0).toList (mkB k).toList)) (by kernel_rfl) rfl (fun _ => congrArg Value.bool hlt)),
          .inl (StepK.pure (by kernel_rfl) rfl),
          .inl (StepK.pure (by kernel_rfl) rfl),
          .inl (StepK.pure (by kernel_rfl) rfl),
          .inl (StepK.pure (by kernel_rfl) rfl),
          .inl (StepK.pure (by kernel_rfl) rfl),
          .inl (StepK.idx ka E.length 2 ((i : Int)) (by kernel_rfl) rfl (by omega) (by omega) (fun _ => rfl)),
          .inl (StepK.fax (ka.add (((i : Int) : Int).toNat * 2)) 1 (by kernel_rfl) rfl),
          .inl (StepK.ldx ((ka.add (((i : Int) : Int).toNat * 2)).add 1) (by kernel_rfl) rfl (fun ρ w1 hm hf => hG1 hf)),
          .inl (StepK.pure (by kernel_rfl) rfl),
          .inl (StepK.pure (by kernel_rfl) rfl),
          .inl (StepK.pure (by kernel_rfl) rfl),
          .inl (StepK.idx ka E.length 2 ((i : Int)) (by kernel_rfl) rfl (by omega) (by omega) (fun _ => rfl)),
          .inl (StepK.fax (ka.add (((i : Int) : Int).toNat * 2)) 0 (by kernel_rfl) rfl),
          .inl (StepK.ldx ((ka.add (((i : Int) : Int).toNat * 2)).add 0) (by kernel_rfl) rfl (fun ρ w1 hm hf => hG0 hf)),
          .inl (StepK.call 24 [.sl Al nl cl, .so (mkB k)] (by kernel_rfl) rfl (by kernel_rfl) (fun ρ w1 hm hf => (of_any k w1 (hl.below hm.below) hbig).mono fun e w2 h => by
            obtain ⟨A9, c9, h1, h2⟩ := h
            have hb2 := rowF_below h2
            exact ⟨_, h1, ⟨(A9, c9), rfl, rws_lift hm (rowF_rws h2) hb2⟩, hb2⟩)),
          .inl (StepK.callX (X := Option Addr × Nat) (r := fun x => .sl x.1 (grp k ls).length x.2) (G := fun x ρ w1 => Rws w.heap.size [⟨29, 9, x.1, (grp k ls).length, x.2, pv (grp k ls)⟩] ρ w1) 37 62 12 (fun x => [.sl B g.length d, .sl x.1 (grp k ls).length x.2]) (by kernel_rfl) (by kernel_rfl) rfl (fun x => by kernel_rfl) rfl (by kernel_rfl) (fun x ρ w1 hm hf hx => (same_sl (A := B) (B := x.1) (n := g.length) (m := (grp k ls).length) (c := d) (d := x.2) (ps := g) (qs := grp k ls) w1 (rws_slp (A := B) (n := g.length) (c := d) (ps := g) hf hmem rfl) (rws_slp (A := x.1) (n := (grp k ls).length) (c := x.2) (ps := grp k ls) hx (List.mem_singleton.2 rfl) rfl) (by omega)).mono fun e w2 h => ⟨.bool (decide (g = grp k ls)), h.1, hsame, h.2⟩)),
          .inl (StepK.pure (by kernel_rfl) rfl),
          .inl (StepK.pure (by kernel_rfl) rfl), trivial⟩) (by unfold subFr; kernel_rfl) ?_
        refine At.toJ (Rws.stable) Rws.fewer 0 300 [0, 3, 6, 7, 66, 67, 68] 1 ⟨pops B6 pAP2 3, [.block 1, .seq (sub B6 pAP3), .next (Sx.Next w.heap.size w Tryd.f6.ntmps (frAY Al nl cl (some ka) E.length kc) (locAY more) (GAY w ls (some ka) kc E) (fun x => x.j) (AY.mk (i + 1) A n c)), .block 0, .seq (sub B6 pAP12)], [(0, .sl Al nl cl), (3, .lp 0 0), (6, .sl (some ka) E.length kc), (7, .io .i64 (↑i : Int)), (66, .sl A n c), (67, .sl (some ka) E.length kc), (68, .io .i64 (↑i : Int))], [([.so (mkB more.key), .io .i64 more.st, .io .i64 more.en, .io .i64 more.kd, .io .i64 more.nt, .io .i64 more.ct, .io .i64 more.sm, .io .i64 more.mn, .io .i64 more.mx], 29)]⟩ (by kernel_rfl) (by kernel_rfl) ?_
        refine At.idx ka E.length 2 (i : Int) (by kernel_rfl) (by omega) (by omega) Rws.stable ?_
        refine At.fax (ka.add ((i : Int).toNat * 2)) 1 (by kernel_rfl) Rws.stable ?_
        refine At.ldx ((ka.add ((i : Int).toNat * 2)).add 1) (.sl B g.length d) (by kernel_rfl) Rws.stable (fun ρ w1 hm' hf => hG1 hf) ?_
        refine At.toJ (Rws.stable) Rws.fewer 0 300 [0, 3, 6, 7, 66, 71] 1 ⟨pops B6 pAP2 6, [.block 1, .seq (sub B6 pAP3), .next (Sx.Next w.heap.size w Tryd.f6.ntmps (frAY Al nl cl (some ka) E.length kc) (locAY more) (GAY w ls (some ka) kc E) (fun x => x.j) (AY.mk (i + 1) A n c)), .block 0, .seq (sub B6 pAP12)], [(0, .sl Al nl cl), (3, .lp 0 0), (6, .sl (some ka) E.length kc), (7, .io .i64 (↑i : Int)), (66, .sl A n c), (71, .sl B g.length d)], [([.so (mkB more.key), .io .i64 more.st, .io .i64 more.en, .io .i64 more.kd, .io .i64 more.nt, .io .i64 more.ct, .io .i64 more.sm, .io .i64 more.mn, .io .i64 more.mx], 29)]⟩ (by kernel_rfl) (by kernel_rfl) ?_
        have hback := backK_drop hKi
        have hbl : n ≤ 200 := by
          have h8 := len_of_eq (back_alike ls)
          have h9 := back_le (keysM ls) (i + 1)
          omega
        refine At.know (p := B = none → g.length = 0) (fun ρ w1 hf hB => (hf.isNil hmem hB).1) fun hnoB => ?_
        refine At.appR 29 9 80 A n c B g.length d (pv (backK ((keysM ls).drop (i + 1)))) (pv g) (⟨57, 2, some ka, E.length, kc, outL1 E⟩ :: cl1 E) (by kernel_rfl) (by rw [pv_len]) (pv_one g) (fun hB => hnoB hB) (fun b hb ρ w1 hm hf => hf.src hmem hb) (by omega) (by simp only [maxLen]; omega) (fun A' c' _ => ?_)
        refine At.toJ (Rws.stable) Rws.fewer 0 300 [0, 3, 5, 6, 7] 1 ⟨.exit .normal, [.next (Sx.Next w.heap.size w Tryd.f6.ntmps (frAY Al nl cl (some ka) E.length kc) (locAY more) (GAY w ls (some ka) kc E) (fun x => x.j) (AY.mk (i + 1) A n c)), .block 0, .seq (sub B6 pAP12)], [(0, .sl Al nl cl), (3, .lp 0 0), (5, .sl A' (n + g.length) c'), (6, .sl (some ka) E.length kc), (7, .io .i64 (IntKind.i64.wrap ((↑i : Int) - 1)))], [([.so (mkB more.key), .io .i64 more.st, .io .i64 more.en, .io .i64 more.kd, .io .i64 more.nt, .io .i64 more.ct, .io .i64 more.sm, .io .i64 more.mn, .io .i64 more.mx], 29)]⟩ (by kernel_rfl) (by kernel_rfl) ?_
        have hwi : IntKind.i64.wrap ((i : Int) - 1) = (i : Int) - 1 := wrap_id ⟨by omega, by omega⟩
        rw [hwi]
        refine At.next (σ := AY) ⟨i, A', n + g.length, c'⟩ rfl rfl (by unfold subFr; kernel_rfl) (by kernel_rfl) (fun ρ a' w' hi' hf => ⟨?_, by omega, ?_⟩) ?_
        · rw [hback, pv_append]
          exact hf
        · rw [hback, List.length_append, ← h2]
        · show i < i + 1
          omega
    · refine At.res 22 (decide ((↑j : Int) - 1 ≥ 0)) false (by kernel_rfl) b0 ?_
      refine At.toJ (Rws.stable) Rws.fewer 0 300 [0, 3, 5, 78] 1 ⟨pops B6 pAP8 6, [.seq (sub B6 pAP9), .seq (sub B6 pAP11)], [(0, .sl Al nl cl), (3, .lp 0 0), (5, .sl A n c), (78, .bo ((↑n : Int) != (↑nl : Int)))], [([.so (mkB more.key), .io .i64 more.st, .io .i64 more.en, .io .i64 more.kd, .io .i64 more.nt, .io .i64 more.ct, .io .i64 more.sm, .io .i64 more.mn, .io .i64 more.mx], 29)]⟩ (by kernel_rfl) (by kernel_rfl) ?_
      rcases Bool.eq_false_or_eq_true ((↑n : Int) != (↑nl : Int)) with b1 | b1
      · refine At.res 78 ((↑n : Int) != (↑nl : Int)) true (by kernel_rfl) b1 ?_
        refine At.toJ (Rws.stable) Rws.fewer 0 300 [4] 0 ⟨.exit .ret, [], [(4, .v (.bool false))], []⟩ (by kernel_rfl) (by kernel_rfl) ?_
        refine At.ret (by kernel_rfl) (.v (.bool false)) (by kernel_rfl) ?_
        exfalso
        have hj : j = 0 := by have := of_decide_eq_false b0; omega
        subst hj
        rw [List.drop_zero] at h2
        have h9 := len_of_eq (back_alike ls)
        have h8 : n ≠ nl := fun e => by
          rw [e] at b1
          simp at b1
        omega
      · refine At.res 78 ((↑n : Int) != (↑nl : Int)) false (by kernel_rfl) b1 ?_
        refine At.toJ (Rws.stable) Rws.fewer 0 300 [0, 3, 5, 78, 79, 80] 1 ⟨pops B6 pAP8 8, [.seq (sub B6 pAP9), .seq (sub B6 pAP11)], [(0, .sl Al nl cl), (3, .lp 0 0), (5, .sl A n c), (78, .v (.bool false)), (79, .sl Al nl cl), (80, .sl A n c)], [([.so (mkB more.key), .io .i64 more.st, .io .i64 more.en, .io .i64 more.kd, .io .i64 more.nt, .io .i64 more.ct, .io .i64 more.sm, .io .i64 more.mn, .io .i64 more.mx], 29)]⟩ (by kernel_rfl) (by kernel_rfl) ?_
        have hj : j = 0 := by have := of_decide_eq_false b0; omega
        subst hj
        clear b0 b1
        rw [List.drop_zero] at h2
        obtain ⟨mm, hmm⟩ : ∃ mm, backK (keysM ls) = mm := ⟨_, rfl⟩
        have hal : ∀ k, grp k mm = grp k ls := fun k => hmm ▸ back_alike ls k
        have hml := len_of_eq hal
        rw [hmm] at h2
        refine At.mono (F' := Rws w.heap.size [⟨29, 9, A, n, c, pv mm⟩]) (fun ρ w1 hf => ?_) ?_
        · rw [List.drop_zero, hmm] at hf
          exact hf.sub (List.Sublist.cons_cons _ (List.nil_sublist _))
        have hr0 : ∀ {ρ : List Nat} {w1 : World}, Rws w.heap.size [⟨29, 9, A, n, c, pv mm⟩] ρ w1 → SlP w1 A n mm := fun hf => rws_slp (A := A) (n := n) (c := c) (ps := mm) hf (List.mem_cons_self ..) h2
        have hlm : begB ls mm = true := begB_iff.2 (beg_of_eq fun k => (hal k).symm)
        have hml2 : begB mm ls = true := begB_iff.2 (beg_of_eq hal)
        have hll : begB ls ls = true := begB_iff.2 (Beg.refl ls)
        have hnl0 : begB [] ls = true := rfl
        refine At.call Rws.stable 25 [.sl Al nl cl, .sl A n c] (.v (.bool true)) (by kernel_rfl) (by kernel_rfl) (by kernel_rfl) (fun ρ _ w1 hi hf => (alike_any (va := ls) (vb := mm) w1 (hl.below hi.mem.below) (hr0 hf) (by omega) (by omega)).mono fun e w2 h => ⟨h.1.trans (by rw [decide_eq_true hml.symm, hlm]; rfl), h.2⟩) ?_
        refine At.toJ (Rws.stable) Rws.fewer 0 300 [0, 3, 5, 84, 85, 86] 1 ⟨pops B6 pAP8 14, [.seq (sub B6 pAP9), .seq (sub B6 pAP11)], [(0, .sl Al nl cl), (3, .lp 0 0), (5, .sl A n c), (84, .v (.bool false)), (85, .sl A n c), (86, .sl Al nl cl)], [([.so (mkB more.key), .io .i64 more.st, .io .i64 more.en, .io .i64 more.kd, .io .i64 more.nt, .io .i64 more.ct, .io .i64 more.sm, .io .i64 more.mn, .io .i64 more.mx], 29)]⟩ (by kernel_rfl) (by kernel_rfl) ?_
        refine At.call Rws.stable 25 [.sl A n c, .sl Al nl cl] (.v (.bool true)) (by kernel_rfl) (by kernel_rfl) (by kernel_rfl) (fun ρ _ w1 hi hf => (alike_any (va := mm) (vb := ls) w1 (hr0 hf) (hl.below hi.mem.below) (by omega) (by omega)).mono fun e w2 h => ⟨h.1.trans (by rw [decide_eq_true hml, hml2]; rfl), h.2⟩) ?_
        refine At.toJ (Rws.stable) Rws.fewer 0 300 [0, 3, 5, 90, 91, 92] 1 ⟨pops B6 pAP8 20, [.seq (sub B6 pAP9), .seq (sub B6 pAP11)], [(0, .sl Al nl cl), (3, .lp 0 0), (5, .sl A n c), (90, .v (.bool false)), (91, .sl Al nl cl), (92, .sl Al nl cl)], [([.so (mkB more.key), .io .i64 more.st, .io .i64 more.en, .io .i64 more.kd, .io .i64 more.nt, .io .i64 more.ct, .io .i64 more.sm, .io .i64 more.mn, .io .i64 more.mx], 29)]⟩ (by kernel_rfl) (by kernel_rfl) ?_
        refine At.call Rws.stable 25 [.sl Al nl cl, .sl Al nl cl] (.v (.bool true)) (by kernel_rfl) (by kernel_rfl) (by kernel_rfl) (fun ρ _ w1 hi hf => (alike_any (va := ls) (vb := ls) w1 (hl.below hi.mem.below) (hl.below hi.mem.below) (by omega) (by omega)).mono fun e w2 h => ⟨h.1.trans (by rw [decide_eq_true rfl, hll]; rfl), h.2⟩) ?_
        refine At.toJ (Rws.stable) Rws.fewer 0 300 [0, 3, 5, 96, 97, 98] 1 ⟨pops B6 pAP8 26, [.seq (sub B6 pAP9), .seq (sub B6 pAP11)], [(0, .sl Al nl cl), (3, .lp 0 0), (5, .sl A n c), (96, .v (.bool false)), (97, .sl Al nl cl), (98, .sl A n c)], [([.so (mkB more.key), .io .i64 more.st, .io .i64 more.en, .io .i64 more.kd, .io .i64 more.nt, .io .i64 more.ct, .io .i64 more.sm, .io .i64 more.mn, .io .i64 more.mx], 29)]⟩ (by kernel_rfl) (by kernel_rfl) ?_
        refine At.call Rws.stable 26 [.sl Al nl cl, .sl A n c] (.v (.bool true)) (by kernel_rfl) (by kernel_rfl) (by kernel_rfl) (fun ρ _ w1 hi hf => (begins_any (va := ls) (vb := mm) w1 (hl.below hi.mem.below) (hr0 hf) (by omega) (by omega)).mono fun e w2 h => ⟨h.1.trans (by rw [hlm]; rfl), h.2⟩) ?_
        refine At.toJ (Rws.stable) Rws.fewer 0 300 [0, 3, 5, 102, 103, 104] 1 ⟨pops B6 pAP8 32, [.seq (sub B6 pAP9), .seq (sub B6 pAP11)], [(0, .sl Al nl cl), (3, .lp 0 0), (5, .sl A n c), (102, .v (.bool false)), (103, .sl A n c), (104, .sl Al nl cl)], [([.so (mkB more.key), .io .i64 more.st, .io .i64 more.en, .io .i64 more.kd, .io .i64 more.nt, .io .i64 more.ct, .io .i64 more.sm, .io .i64 more.mn, .io .i64 more.mx], 29)]⟩ (by kernel_rfl) (by kernel_rfl) ?_
        refine At.call Rws.stable 26 [.sl A n c, .sl Al nl cl] (.v (.bool true)) (by kernel_rfl) (by kernel_rfl) (by kernel_rfl) (fun ρ _ w1 hi hf => (begins_any (va := mm) (vb := ls) w1 (hr0 hf) (hl.below hi.mem.below) (by omega) (by omega)).mono fun e w2 h => ⟨h.1.trans (by rw [hml2]; rfl), h.2⟩) ?_
        refine At.toJ (Rws.stable) Rws.fewer 0 300 [0, 3, 5, 108, 109] 1 ⟨pops B6 pAP8 37, [.seq (sub B6 pAP9), .seq (sub B6 pAP11)], [(0, .sl Al nl cl), (3, .lp 0 0), (5, .sl A n c), (108, .v (.bool false)), (109, .sl Al nl cl)], [([.so (mkB more.key), .io .i64 more.st, .io .i64 more.en, .io .i64 more.kd, .io .i64 more.nt, .io .i64 more.ct, .io .i64 more.sm, .io .i64 more.mn, .io .i64 more.mx], 29)]⟩ (by kernel_rfl) (by kernel_rfl) ?_
        refine At.call Rws.stable 26 [.v (.slice none 0 0), .sl Al nl cl] (.v (.bool true)) (by kernel_rfl) (by kernel_rfl) (by kernel_rfl) (fun ρ _ w1 hi hf => (begins_any (va := []) (vb := ls) w1 (slp_nil w1) (hl.below hi.mem.below) (by omega) (by omega)).mono fun e w2 h => ⟨h.1.trans (by rw [hnl0]; rfl), h.2⟩) ?_
        refine At.toJ (Rws.stable) Rws.fewer 0 300 [0, 3, 5] 1 ⟨.any (opsOf (sub B6 pAP10)) 6 [], [.seq (sub B6 [1, 1, 1, 1, 1, 1, 1])], [(0, .sl Al nl cl), (3, .lp 0 0), (5, .sl A n c)], [([.so (mkB more.key), .io .i64 more.st, .io .i64 more.en, .io .i64 more.kd, .io .i64 more.nt, .io .i64 more.ct, .io .i64 more.sm, .io .i64 more.mn, .io .i64 more.mx], 29)]⟩ (by kernel_rfl) (by kernel_rfl) ?_
        refine At.know (p := A = none → n = 0) (fun ρ w1 hf hA => (hf.isNil (List.mem_cons_self ..) hA).1) fun hnone => ?_
        refine At.cutN (σ := Option Addr × Nat) (fun x => [(0, .sl Al nl cl), (5, .sl A n c), (8, .sl x.1 (n + 1) x.2)]) (fun x => []) (fun x => Rws w.heap.size [⟨29, 9, x.1, n + 1, x.2, pv (mm ++ [more])⟩, ⟨29, 9, A, n, c, pv mm⟩]) rfl ?_ (fun x => ?_)
        · refine At.purify0 (fun e a w h => h.1) 20 ?_
          refine At.toJ (Rws.stable) Rws.fewer 0 300 [0, 3, 5, 113] 1 ⟨.any (opsOf (sub B6 pAP10)) 5 [0], [], [(0, .sl Al nl cl), (3, .lp 0 0), (5, .sl A n c), (113, .sl A n c)], [([.so (mkB more.key), .io .i64 more.st, .io .i64 more.en, .io .i64 more.kd, .io .i64 more.nt, .io .i64 more.ct, .io .i64 more.sm, .io .i64 more.mn, .io .i64 more.mx], 29)]⟩ (by kernel_rfl) (by kernel_rfl) ?_
          refine At.fork [1, 2] rfl (by kernel_rfl) rfl (allOf.cons ?_ (allOf.cons ?_ allOf.nil))
          · refine At.toJ (Rws.stable) Rws.fewer 0 300 [0, 3, 5, 113] 1 ⟨.ops (opsOf (sub B6 pAP10)) (((opsOf (sub B6 pAP10)).toList.drop 1).take 1), [.any (opsOf (sub B6 pAP10)) 4 [1, 0]], [(0, .sl Al nl cl), (3, .lp 0 0), (5, .sl A n c), (113, .sl A n c)], [([.so (mkB more.key), .io .i64 more.st, .io .i64 more.en, .io .i64 more.kd, .io .i64 more.nt, .io .i64 more.ct, .io .i64 more.sm, .io .i64 more.mn, .io .i64 more.mx], 29)]⟩ (by kernel_rfl) (by kernel_rfl) ?_
            refine At.mono (F' := Rws w.heap.size (⟨29, 9, none, 0, 0, []⟩ :: [⟨29, 9, A, n, c, pv mm⟩])) (fun ρ w1 hf => hf.nil 29 9) ?_
            refine At.appR 29 9 80 none 0 0 A n c [] (pv mm) [⟨29, 9, A, n, c, pv mm⟩] (by kernel_rfl) (by rw [pv_len, h2]) (pv_one mm) (fun hA => hnone hA) (fun b hb ρ w1 hm hf => hf.src (List.mem_cons_of_mem _ (List.mem_cons_self ..)) hb) (by omega) (by simp only [maxLen]; omega) (fun A' c' _ => ?_)
            rw [Nat.zero_add, List.nil_append]
            refine At.toJ (Rws.stable) Rws.fewer 0 300 [0, 3, 5, 114, 116] 2 ⟨.ops (opsOf (sub B6 pAP10)) (((opsOf (sub B6 pAP10)).toList.drop 4).take 1), [.any (opsOf (sub B6 pAP10)) 1 [4, 3, 2, 1, 0]], [(0, .sl Al nl cl), (3, .lp 0 0), (5, .sl A n c), (114, .sl A' n c'), (116, .ls 1 0 1 1)], [([.so (mkB more.key), .io .i64 more.st, .io .i64 more.en, .io .i64 more.kd, .io .i64 more.nt, .io .i64 more.ct, .io .i64 more.sm, .io .i64 more.mn, .io .i64 more.mx], 29), ([.so (mkB more.key), .io .i64 more.st, .io .i64 more.en, .io .i64 more.kd, .io .i64 more.nt, .io .i64 more.ct, .io .i64 more.sm, .io .i64 more.mn, .io .i64 more.mx], 29)]⟩ (by kernel_rfl) (by kernel_rfl) ?_
            refine At.appV 35 29 9 80 A' n c' 1 [.so (mkB more.key), .io .i64 more.st, .io .i64 more.en, .io .i64 more.kd, .io .i64 more.nt, .io .i64 more.ct, .io .i64 more.sm, .io .i64 more.mn, .io .i64 more.mx] (pv mm) more.cells [⟨29, 9, A, n, c, pv mm⟩] (by kernel_rfl) (fun _ => rfl) (by omega) (by simp only [maxLen]; omega) (fun A8 c8 _ => ?_)
            refine At.toJ (Rws.stable) Rws.fewer 0 300 [0, 5, 8] 0 ⟨.exit .normal, [], [(0, .sl Al nl cl), (5, .sl A n c), (8, .sl A8 (n + 1) c8)], []⟩ (by kernel_rfl) (by kernel_rfl) ?_
            exact At.fin (A8, c8) rfl rfl (by unfold subFr; kernel_rfl) rfl (fun ρ a w1 hi hf => by rw [pv_app]; exact hf)
          · refine At.toJ (Rws.stable) Rws.fewer 0 300 [0, 3, 5, 113, 115] 1 ⟨.any (opsOf (sub B6 pAP10)) 4 [2, 0], [], [(0, .sl Al nl cl), (3, .lp 0 0), (5, .sl A n c), (113, .sl A n c), (115, .agg [.so (mkB more.key), .io .i64 more.st, .io .i64 more.en, .io .i64 more.kd, .io .i64 more.nt, .io .i64 more.ct, .io .i64 more.sm, .io .i64 more.mn, .io .i64 more.mx])], [([.so (mkB more.key), .io .i64 more.st, .io .i64 more.en, .io .i64 more.kd, .io .i64 more.nt, .io .i64 more.ct, .io .i64 more.sm, .io .i64 more.mn, .io .i64 more.mx], 29)]⟩ (by kernel_rfl) (by kernel_rfl) ?_
            refine At.fork [1, 3] rfl (by kernel_rfl) rfl (allOf.cons ?_ (allOf.cons ?_ allOf.nil))
            · refine At.toJ (Rws.stable) Rws.fewer 0 300 [0, 3, 5, 113, 115] 1 ⟨.ops (opsOf (sub B6 pAP10)) (((opsOf (sub B6 pAP10)).toList.drop 1).take 1), [.any (opsOf (sub B6 pAP10)) 3 [1, 2, 0]], [(0, .sl Al nl cl), (3, .lp 0 0), (5, .sl A n c), (113, .sl A n c), (115, .agg [.so (mkB more.key), .io .i64 more.st, .io .i64 more.en, .io .i64 more.kd, .io .i64 more.nt, .io .i64 more.ct, .io .i64 more.sm, .io .i64 more.mn, .io .i64 more.mx])], [([.so (mkB more.key), .io .i64 more.st, .io .i64 more.en, .io .i64 more.kd, .io .i64 more.nt, .io .i64 more.ct, .io .i64 more.sm, .io .i64 more.mn, .io .i64 more.mx], 29)]⟩ (by kernel_rfl) (by kernel_rfl) ?_
              refine At.mono (F' := Rws w.heap.size (⟨29, 9, none, 0, 0, []⟩ :: [⟨29, 9, A, n, c, pv mm⟩])) (fun ρ w1 hf => hf.nil 29 9) ?_
              refine At.appR 29 9 80 none 0 0 A n c [] (pv mm) [⟨29, 9, A, n, c, pv mm⟩] (by kernel_rfl) (by rw [pv_len, h2]) (pv_one mm) (fun hA => hnone hA) (fun b hb ρ w1 hm hf => hf.src (List.mem_cons_of_mem _ (List.mem_cons_self ..)) hb) (by omega) (by simp only [maxLen]; omega) (fun A' c' _ => ?_)
              rw [Nat.zero_add, List.nil_append]
              refine At.toJ (Rws.stable) Rws.fewer 0 300 [0, 3, 5, 114, 116] 2 ⟨.ops (opsOf (sub B6 pAP10)) (((opsOf (sub B6 pAP10)).toList.drop 4).take 1), [.any (opsOf (sub B6 pAP10)) 1 [4, 3, 1, 2, 0]], [(0, .sl Al nl cl), (3, .lp 0 0), (5, .sl A n c), (114, .sl A' n c'), (116, .ls 1 0 1 1)], [([.so (mkB more.key), .io .i64 more.st, .io .i64 more.en, .io .i64 more.kd, .io .i64 more.nt, .io .i64 more.ct, .io .i64 more.sm, .io .i64 more.mn, .io .i64 more.mx], 29), ([.so (mkB more.key), .io .i64 more.st, .io .i64 more.en, .io .i64 more.kd, .io .i64 more.nt, .io .i64 more.ct, .io .i64 more.sm, .io .i64 more.mn, .io .i64 more.mx], 29)]⟩ (by kernel_rfl) (by kernel_rfl) ?_
              refine At.appV 35 29 9 80 A' n c' 1 [.so (mkB more.key), .io .i64 more.st, .io .i64 more.en, .io .i64 more.kd, .io .i64 more.nt, .io .i64 more.ct, .io .i64 more.sm, .io .i64 more.mn, .io .i64 more.mx] (pv mm) more.cells [⟨29, 9, A, n, c, pv mm⟩] (by kernel_rfl) (fun _ => rfl) (by omega) (by simp only [maxLen]; omega) (fun A8 c8 _ => ?_)
              refine At.toJ (Rws.stable) Rws.fewer 0 300 [0, 5, 8] 0 ⟨.exit .normal, [], [(0, .sl Al nl cl), (5, .sl A n c), (8, .sl A8 (n + 1) c8)], []⟩ (by kernel_rfl) (by kernel_rfl) ?_
              exact At.fin (A8, c8) rfl rfl (by unfold subFr; kernel_rfl) rfl (fun ρ a w1 hi hf => by rw [pv_app]; exact hf)
            · refine At.toJ (Rws.stable) Rws.fewer 0 300 [0, 3, 5, 113, 116] 2 ⟨.ops (opsOf (sub B6 pAP10)) (((opsOf (sub B6 pAP10)).toList.drop 1).take 1), [.any (opsOf (sub B6 pAP10)) 2 [1, 3, 2, 0]], [(0, .sl Al nl cl), (3, .lp 0 0), (5, .sl A n c), (113, .sl A n c), (116, .ls 1 0 1 1)], [([.so (mkB more.key), .io .i64 more.st, .io .i64 more.en, .io .i64 more.kd, .io .i64 more.nt, .io .i64 more.ct, .io .i64 more.sm, .io .i64 more.mn, .io .i64 more.mx], 29), ([.so (mkB more.key), .io .i64 more.st, .io .i64 more.en, .io .i64 more.kd, .io .i64 more.nt, .io .i64 more.ct, .io .i64 more.sm, .io .i64 more.mn, .io .i64 more.mx], 29)]⟩ (by kernel_rfl) (by kernel_rfl) ?_
              refine At.mono (F' := Rws w.heap.size (⟨29, 9, none, 0, 0, []⟩ :: [⟨29, 9, A, n, c, pv mm⟩])) (fun ρ w1 hf => hf.nil 29 9) ?_
              refine At.appR 29 9 80 none 0 0 A n c [] (pv mm) [⟨29, 9, A, n, c, pv mm⟩] (by kernel_rfl) (by rw [pv_len, h2]) (pv_one mm) (fun hA => hnone hA) (fun b hb ρ w1 hm hf => hf.src (List.mem_cons_of_mem _ (List.mem_cons_self ..)) hb) (by omega) (by simp only [maxLen]; omega) (fun A' c' _ => ?_)
              rw [Nat.zero_add, List.nil_append]
              refine At.toJ (Rws.stable) Rws.fewer 0 300 [0, 3, 5, 114, 116] 2 ⟨.ops (opsOf (sub B6 pAP10)) (((opsOf (sub B6 pAP10)).toList.drop 4).take 1), [.any (opsOf (sub B6 pAP10)) 1 [4, 1, 3, 2, 0]], [(0, .sl Al nl cl), (3, .lp 0 0), (5, .sl A n c), (114, .sl A' n c'), (116, .ls 1 0 1 1)], [([.so (mkB more.key), .io .i64 more.st, .io .i64 more.en, .io .i64 more.kd, .io .i64 more.nt, .io .i64 more.ct, .io .i64 more.sm, .io .i64 more.mn, .io .i64 more.mx], 29), ([.so (mkB more.key), .io .i64 more.st, .io .i64 more.en, .io .i64 more.kd, .io .i64 more.nt, .io .i64 more.ct, .io .i64 more.sm, .io .i64 more.mn, .io .i64 more.mx], 29)]⟩ (by kernel_rfl) (by kernel_rfl) ?_
              refine At.appV 35 29 9 80 A' n c' 1 [.so (mkB more.key), .io .i64 more.st, .io .i64 more.en, .io .i64 more.kd, .io .i64 more.nt, .io .i64 more.ct, .io .i64 more.sm, .io .i64 more.mn, .io .i64 more.mx] (pv mm) more.cells [⟨29, 9, A, n, c, pv mm⟩] (by kernel_rfl) (fun _ => rfl) (by omega) (by simp only [maxLen]; omega) (fun A8 c8 _ => ?_)
              refine At.toJ (Rws.stable) Rws.fewer 0 300 [0, 5, 8] 0 ⟨.exit .normal, [], [(0, .sl Al nl cl), (5, .sl A n c), (8, .sl A8 (n + 1) c8)], []⟩ (by kernel_rfl) (by kernel_rfl) ?_
              exact At.fin (A8, c8) rfl rfl (by unfold subFr; kernel_rfl) rfl (fun ρ a w1 hi hf => by rw [pv_app]; exact hf)
        · obtain ⟨A8, c8⟩ := x
          dsimp only
          have hr8 : ∀ {ρ : List Nat} {w1 : World}, Rws w.heap.size [⟨29, 9, A8, n + 1, c8, pv (mm ++ [more])⟩, ⟨29, 9, A, n, c, pv mm⟩] ρ w1 → SlP w1 A8 (n + 1) (mm ++ [more]) := fun hf => rws_slp (A := A8) (n := n + 1) (c := c8) (ps := mm ++ [more]) hf (List.mem_cons_self ..) (by simp [h2])
          have hll8 : begB ls (mm ++ [more]) = true := beg_longer (fun k => (hal k).symm) more
          have h8l : begB (mm ++ [more]) ls = false := longer_beg (fun k => (hal k).symm) more
          have hne8 : ¬ ls.length = (mm ++ [more]).length := by simp; omega
          refine At.toJ (Rws.stable) Rws.fewer 0 300 [0, 5, 8, 118, 119] 0 ⟨pops B6 pAP5 2, [.seq (sub B6 pAP6), .seq (sub B6 pAP7)], [(0, .sl Al nl cl), (5, .sl A n c), (8, .sl A8 (n + 1) c8), (118, .sl Al nl cl), (119, .sl A8 (n + 1) c8)], []⟩ (by kernel_rfl) (by kernel_rfl) ?_
          refine At.call Rws.stable 26 [.sl Al nl cl, .sl A8 (n + 1) c8] (.v (.bool true)) (by kernel_rfl) (by kernel_rfl) (by kernel_rfl) (fun ρ _ w1 hi hf => (begins_any (va := ls) (vb := (mm ++ [more])) w1 (hl.below hi.mem.below) (hr8 hf) (by omega) (by omega)).mono fun e w2 h => ⟨h.1.trans (by rw [hll8]; rfl), h.2⟩) ?_
          refine At.toJ (Rws.stable) Rws.fewer 0 300 [0, 5, 8, 122, 123, 124] 0 ⟨pops B6 pAP5 7, [.seq (sub B6 pAP6), .seq (sub B6 pAP7)], [(0, .sl Al nl cl), (5, .sl A n c), (8, .sl A8 (n + 1) c8), (122, .v (.bool false)), (123, .sl A8 (n + 1) c8), (124, .sl Al nl cl)], []⟩ (by kernel_rfl) (by kernel_rfl) ?_
          refine At.call Rws.stable 26 [.sl A8 (n + 1) c8, .sl Al nl cl] (.v (.bool false)) (by kernel_rfl) (by kernel_rfl) (by kernel_rfl) (fun ρ _ w1 hi hf => (begins_any (va := (mm ++ [more])) (vb := ls) w1 (hr8 hf) (hl.below hi.mem.below) (by omega) (by omega)).mono fun e w2 h => ⟨h.1.trans (by rw [h8l]; rfl), h.2⟩) ?_
          refine At.toJ (Rws.stable) Rws.fewer 0 300 [0, 5, 127, 128, 129] 0 ⟨pops B6 pAP5 12, [.seq (sub B6 pAP6), .seq (sub B6 pAP7)], [(0, .sl Al nl cl), (5, .sl A n c), (127, .v (.bool false)), (128, .sl Al nl cl), (129, .sl A8 (n + 1) c8)], []⟩ (by kernel_rfl) (by kernel_rfl) ?_
          refine At.call Rws.stable 25 [.sl Al nl cl, .sl A8 (n + 1) c8] (.v (.bool false)) (by kernel_rfl) (by kernel_rfl) (by kernel_rfl) (fun ρ _ w1 hi hf => (alike_any (va := ls) (vb := (mm ++ [more])) w1 (hl.below hi.mem.below) (hr8 hf) (by omega) (by omega)).mono fun e w2 h => ⟨h.1.trans (by rw [decide_eq_false hne8]; rfl), h.2⟩) ?_
          refine At.toJ (Rws.stable) Rws.fewer 0 300 [5, 132] 0 ⟨pops B6 [1, 1, 1, 1, 1, 1, 1, 1, 0] 1, [.seq (sub B6 [1, 1, 1, 1, 1, 1, 1, 1, 1])], [(5, .sl A n c), (132, .sl Al nl cl)], []⟩ (by kernel_rfl) (by kernel_rfl) ?_
          have hLm : lastM mm = lastM ls := lastM_same hal
          refine Go.Sx.At.rowCall (e := 29) (size := 9) 27 [.sl Al nl cl] (pv ((lastM ls).map (·.2))) (fun A n c => .sl A n c) (by kernel_rfl) (by kernel_rfl) (by kernel_rfl) (by kernel_rfl) (fun ρ w1 hm hf => (last_any w1 (hl.below hm.below) hbig).mono fun e w2 h => ?_) (fun aA an ac han => ?_)
          · obtain ⟨A', c', h1, h2⟩ := h
            exact ⟨A', _, c', h1, h2⟩
          obtain rfl : an = (lastM ls).length := by rw [pv_len, List.length_map] at han; omega
          refine At.toJ (Rws.stable) Rws.fewer 0 300 [133, 134] 0 ⟨pops B6 [1, 1, 1, 1, 1, 1, 1, 1, 0] 3, [.seq (sub B6 [1, 1, 1, 1, 1, 1, 1, 1, 1])], [(133, .sl aA (lastM ls).length ac), (134, .sl A n c)], []⟩ (by kernel_rfl) (by kernel_rfl) ?_
          refine Go.Sx.At.rowCall (e := 29) (size := 9) 27 [.sl A n c] (pv ((lastM ls).map (·.2))) (fun A n c => .sl A n c) (by kernel_rfl) (by kernel_rfl) (by kernel_rfl) (by kernel_rfl) (fun ρ w1 hm hf => (last_any (ls := mm) w1 (rws_slp (A := A) (n := n) (c := c) (ps := mm) hf (.tail _ (.tail _ (.head _))) h2) (by omega)).mono fun e w2 h => ?_) (fun bA bn bc hbn => ?_)
          · obtain ⟨A', c', h1, h2⟩ := h
            rw [hLm] at h1 h2
            exact ⟨A', _, c', h1, h2⟩
          obtain rfl : bn = (lastM ls).length := by rw [pv_len, List.length_map] at hbn; omega
          have hLl := lastM_len ls
          refine At.mono (F' := Rws w.heap.size [⟨29, 9, bA, (lastM ls).length, bc, (pv ((lastM ls).map (·.2)))⟩, ⟨29, 9, aA, (lastM ls).length, ac, (pv ((lastM ls).map (·.2)))⟩]) (fun ρ w1 hf => hf.sub (List.Sublist.cons_cons _ (List.Sublist.cons_cons _ (List.nil_sublist _)))) ?_
          refine At.toJ (Rws.stable) Rws.fewer 0 300 [9, 10, 11] 0 ⟨.code (sub B6 [1, 1, 1, 1, 1, 1, 1, 1, 1, 0, 1, 4]), [.block 2, .seq (sub B6 pAP4)], [(9, .sl aA (lastM ls).length ac), (10, .sl bA (lastM ls).length bc), (11, .v (.int .i64 1))], []⟩ (by kernel_rfl) (by kernel_rfl) ?_
          refine At.canon _ rfl ?_
          refine At.slFr _ rfl ?_
          refine At.loop (σ := LI) (sub B6 [1, 1, 1, 1, 1, 1, 1, 1, 1, 0, 1, 4, 4]) (frLI aA bA (lastM ls).length ac bc) locLI (fun x ρ w1 => Rws w.heap.size [⟨29, 9, bA, (lastM ls).length, bc, (pv ((lastM ls).map (·.2)))⟩, ⟨29, 9, aA, (lastM ls).length, ac, (pv ((lastM ls).map (·.2)))⟩] ρ w1 ∧ 1 ≤ x.i) (fun x => (lastM ls).length - x.i) ⟨1⟩ (by kernel_rfl) (by unfold subFr; kernel_rfl) (by kernel_rfl) (fun _ _ _ _ h => ⟨h, Nat.le_refl _⟩) ?_
          rintro ⟨i⟩
          refine At.pure fun hi1 => ?_
          dsimp only at hi1
          refine At.toJ (Rws.stable) Rws.fewer 0 300 [9, 10, 11, 139] 0 ⟨.code (sub B6 [1, 1, 1, 1, 1, 1, 1, 1, 1, 0, 1, 4, 4, 0, 1]), [.seq (sub B6 [1, 1, 1, 1, 1, 1, 1, 1, 1, 0, 1, 4, 4, 1]), .next (Sx.Next w.heap.size w Tryd.f6.ntmps (frLI aA bA (lastM ls).length ac bc) locLI (fun x ρ w1 => Rws w.heap.size [Rw.mk 29 9 bA (lastM ls).length bc (pv (List.map (fun x => x.snd) (lastM ls))), Rw.mk 29 9 aA (lastM ls).length ac (pv (List.map (fun x => x.snd) (lastM ls)))] ρ w1 ∧ 1 ≤ x.i) (fun x => (lastM ls).length - x.i) (LI.mk i)), .block 2, .seq (sub B6 pAP4)], [(9, .sl aA (lastM ls).length ac), (10, .sl bA (lastM ls).length bc), (11, .io .i64 (↑i : Int)), (139, .bo (decide ((↑i : Int) < (↑(lastM ls).length : Int))))], []⟩ (by kernel_rfl) (by kernel_rfl) ?_
          rcases Bool.eq_false_or_eq_true (decide ((↑i : Int) < (↑(lastM ls).length : Int))) with b0 | b0
          · refine At.res 139 (decide ((↑i : Int) < (↑(lastM ls).length : Int))) true (by kernel_rfl) b0 ?_
            refine At.toJ (Rws.stable) Rws.fewer 0 300 [9, 10, 11, 142, 144] 0 ⟨pqops B6 [1, 1, 1, 1, 1, 1, 1, 1, 1, 0, 1, 4, 4, 1, 0, 4, 0] 3, [.seq (sub B6 pAP0), .block 3, .seq (sub B6 pAP1), .next (Sx.Next w.heap.size w Tryd.f6.ntmps (frLI aA bA (lastM ls).length ac bc) locLI (fun x ρ w1 => Rws w.heap.size [Rw.mk 29 9 bA (lastM ls).length bc (pv (List.map (fun x => x.snd) (lastM ls))), Rw.mk 29 9 aA (lastM ls).length ac (pv (List.map (fun x => x.snd) (lastM ls)))] ρ w1 ∧ 1 ≤ x.i) (fun x => (lastM ls).length - x.i) (LI.mk i)), .block 2, .seq (sub B6 pAP4)], [(9, .sl aA (lastM ls).length ac), (10, .sl bA (lastM ls).length bc), (11, .io .i64 (↑i : Int)), (142, .sl aA (lastM ls).length ac), (144, .io .i64 (IntKind.i64.wrap ((↑i : Int) - 1)))], []⟩ (by kernel_rfl) (by kernel_rfl) ?_
            have hil : i < (lastM ls).length := by have := of_decide_eq_true b0; omega
            refine At.know (p := ∃ a, aA = some a) (fun ρ w1 hf => hf.some (.tail _ (.head _)) (show 0 < (lastM ls).length by omega)) fun ⟨a0, ha0⟩ => ?_
            subst ha0
            obtain ⟨⟨kx, px⟩, hx⟩ : ∃ e, (lastM ls)[i - 1]? = some e := ⟨_, List.getElem?_eq_getElem (by omega)⟩
            obtain ⟨⟨ky, py⟩, hy⟩ : ∃ e, (lastM ls)[i]? = some e := ⟨_, List.getElem?_eq_getElem hil⟩
            obtain rfl : kx = atOf px := lastM_at ls _ (List.mem_of_getElem? hx)
            obtain rfl : ky = atOf py := lastM_at ls _ (List.mem_of_getElem? hy)
            have hcmp : cmp2 (atOf px) (atOf py) < 0 := srt_at (lastM_srt ls) hx hy (by omega)
            rw [cmp2_lt, cmp1_lt] at hcmp
            simp only [atOf] at hcmp
            have hx1 : ((lastM ls).map (·.2))[((i - 1 : Nat) : Int).toNat]? = some px := by rw [Int.toNat_natCast, List.getElem?_map, hx]; rfl
            have hy1 : ((lastM ls).map (·.2))[((i : Nat) : Int).toNat]? = some py := by rw [Int.toNat_natCast, List.getElem?_map, hy]; rfl
            have hw1 : IntKind.i64.wrap ((i : Int) - 1) = ((i - 1 : Nat) : Int) := by
              rw [wrap63 (by omega) (by omega)]
              omega
            rw [hw1]
            refine At.idx a0 (lastM ls).length 9 (((i - 1 : Nat) : Int)) (by kernel_rfl) (by omega) (by omega) Rws.stable ?_
            refine At.toJ (Rws.stable) Rws.fewer 0 300 [9, 10, 11, 144, 145] 0 ⟨pqops B6 [1, 1, 1, 1, 1, 1, 1, 1, 1, 0, 1, 4, 4, 1, 0, 4, 0] 4, [.seq (sub B6 pAP0), .block 3, .seq (sub B6 pAP1), .next (Sx.Next w.heap.size w Tryd.f6.ntmps (frLI (some a0) bA (lastM ls).length ac bc) locLI (fun x ρ w1 => Rws w.heap.size [Rw.mk 29 9 bA (lastM ls).length bc (pv (List.map (fun x => x.snd) (lastM ls))), Rw.mk 29 9 (some a0) (lastM ls).length ac (pv (List.map (fun x => x.snd) (lastM ls)))] ρ w1 ∧ 1 ≤ x.i) (fun x => (lastM ls).length - x.i) (LI.mk i)), .block 2, .seq (sub B6 pAP4)], [(9, .sl (some a0) (lastM ls).length ac), (10, .sl bA (lastM ls).length bc), (11, .io .i64 (↑i : Int)), (144, .io .i64 (↑(i - 1) : Int)), (145, .v (.pointer (some (a0.add ((↑(i - 1) : Int).toNat * 9)))))], []⟩ (by kernel_rfl) (by kernel_rfl) ?_
            refine At.fax (a0.add ((((i - 1 : Nat) : Int) : Int).toNat * 9)) 0 (by kernel_rfl) Rws.stable ?_
            refine At.toJ (Rws.stable) Rws.fewer 0 300 [9, 10, 11, 144, 146] 0 ⟨pqops B6 [1, 1, 1, 1, 1, 1, 1, 1, 1, 0, 1, 4, 4, 1, 0, 4, 0] 5, [.seq (sub B6 pAP0), .block 3, .seq (sub B6 pAP1), .next (Sx.Next w.heap.size w Tryd.f6.ntmps (frLI (some a0) bA (lastM ls).length ac bc) locLI (fun x ρ w1 => Rws w.heap.size [Rw.mk 29 9 bA (lastM ls).length bc (pv (List.map (fun x => x.snd) (lastM ls))), Rw.mk 29 9 (some a0) (lastM ls).length ac (pv (List.map (fun x => x.snd) (lastM ls)))] ρ w1 ∧ 1 ≤ x.i) (fun x => (lastM ls).length - x.i) (LI.mk i)), .block 2, .seq (sub B6 pAP4)], [(9, .sl (some a0) (lastM ls).length ac), (10, .sl bA (lastM ls).length bc), (11, .io .i64 (↑i : Int)), (144, .io .i64 (↑(i - 1) : Int)), (146, .v (.pointer (some ((a0.add ((↑(i - 1) : Int).toNat * 9)).add 0))))], []⟩ (by kernel_rfl) (by kernel_rfl) ?_
            refine At.ldx ((a0.add ((((i - 1 : Nat) : Int) : Int).toNat * 9)).add 0) (.so (mkB px.key)) (by kernel_rfl) Rws.stable (fun ρ w1 hm' hf => by rw [add_add]; exact hf.src (.tail _ (.head _)) rfl _ _ (pv_at hx1 rfl)) ?_
            refine At.toJ (Rws.stable) Rws.fewer 0 300 [9, 10, 11, 144, 147, 148, 149] 0 ⟨pqops B6 [1, 1, 1, 1, 1, 1, 1, 1, 1, 0, 1, 4, 4, 1, 0, 4, 0] 8, [.seq (sub B6 pAP0), .block 3, .seq (sub B6 pAP1), .next (Sx.Next w.heap.size w Tryd.f6.ntmps (frLI (some a0) bA (lastM ls).length ac bc) locLI (fun x ρ w1 => Rws w.heap.size [Rw.mk 29 9 bA (lastM ls).length bc (pv (List.map (fun x => x.snd) (lastM ls))), Rw.mk 29 9 (some a0) (lastM ls).length ac (pv (List.map (fun x => x.snd) (lastM ls)))] ρ w1 ∧ 1 ≤ x.i) (fun x => (lastM ls).length - x.i) (LI.mk i)), .block 2, .seq (sub B6 pAP4)], [(9, .sl (some a0) (lastM ls).length ac), (10, .sl bA (lastM ls).length bc), (11, .io .i64 (↑i : Int)), (144, .io .i64 (↑(i - 1) : Int)), (147, .so (mkB px.key)), (148, .sl (some a0) (lastM ls).length ac), (149, .io .i64 (↑i : Int))], []⟩ (by kernel_rfl) (by kernel_rfl) ?_
            refine At.idx a0 (lastM ls).length 9 ((i : Int)) (by kernel_rfl) (by omega) (by omega) Rws.stable ?_
            refine At.toJ (Rws.stable) Rws.fewer 0 300 [9, 10, 11, 144, 147, 150] 0 ⟨pqops B6 [1, 1, 1, 1, 1, 1, 1, 1, 1, 0, 1, 4, 4, 1, 0, 4, 0] 9, [.seq (sub B6 pAP0), .block 3, .seq (sub B6 pAP1), .next (Sx.Next w.heap.size w Tryd.f6.ntmps (frLI (some a0) bA (lastM ls).length ac bc) locLI (fun x ρ w1 => Rws w.heap.size [Rw.mk 29 9 bA (lastM ls).length bc (pv (List.map (fun x => x.snd) (lastM ls))), Rw.mk 29 9 (some a0) (lastM ls).length ac (pv (List.map (fun x => x.snd) (lastM ls)))] ρ w1 ∧ 1 ≤ x.i) (fun x => (lastM ls).length - x.i) (LI.mk i)), .block 2, .seq (sub B6 pAP4)], [(9, .sl (some a0) (lastM ls).length ac), (10, .sl bA (lastM ls).length bc), (11, .io .i64 (↑i : Int)), (144, .io .i64 (↑(i - 1) : Int)), (147, .so (mkB px.key)), (150, .v (.pointer (some (a0.add ((↑i : Int).toNat * 9)))))], []⟩ (by kernel_rfl) (by kernel_rfl) ?_
            refine At.fax (a0.add (((i : Int) : Int).toNat * 9)) 0 (by kernel_rfl) Rws.stable ?_
            refine At.toJ (Rws.stable) Rws.fewer 0 300 [9, 10, 11, 144, 147, 151] 0 ⟨pqops B6 [1, 1, 1, 1, 1, 1, 1, 1, 1, 0, 1, 4, 4, 1, 0, 4, 0] 10, [.seq (sub B6 pAP0), .block 3, .seq (sub B6 pAP1), .next (Sx.Next w.heap.size w Tryd.f6.ntmps (frLI (some a0) bA (lastM ls).length ac bc) locLI (fun x ρ w1 => Rws w.heap.size [Rw.mk 29 9 bA (lastM ls).length bc (pv (List.map (fun x => x.snd) (lastM ls))), Rw.mk 29 9 (some a0) (lastM ls).length ac (pv (List.map (fun x => x.snd) (lastM ls)))] ρ w1 ∧ 1 ≤ x.i) (fun x => (lastM ls).length - x.i) (LI.mk i)), .block 2, .seq (sub B6 pAP4)], [(9, .sl (some a0) (lastM ls).length ac), (10, .sl bA (lastM ls).length bc), (11, .io .i64 (↑i : Int)), (144, .io .i64 (↑(i - 1) : Int)), (147, .so (mkB px.key)), (151, .v (.pointer (some ((a0.add ((↑i : Int).toNat * 9)).add 0))))], []⟩ (by kernel_rfl) (by kernel_rfl) ?_
            refine At.ldx ((a0.add (((i : Int) : Int).toNat * 9)).add 0) (.so (mkB py.key)) (by kernel_rfl) Rws.stable (fun ρ w1 hm' hf => by rw [add_add]; exact hf.src (.tail _ (.head _)) rfl _ _ (pv_at hy1 rfl)) ?_
            refine At.toJ (Rws.stable) Rws.fewer 0 300 [9, 10, 11, 144, 153, 154] 0 ⟨pqops B6 [1, 1, 1, 1, 1, 1, 1, 1, 1, 0, 1, 4, 4, 1, 0, 4, 0] 13, [.seq (sub B6 pAP0), .block 3, .seq (sub B6 pAP1), .next (Sx.Next w.heap.size w Tryd.f6.ntmps (frLI (some a0) bA (lastM ls).length ac bc) locLI (fun x ρ w1 => Rws w.heap.size [Rw.mk 29 9 bA (lastM ls).length bc (pv (List.map (fun x => x.snd) (lastM ls))), Rw.mk 29 9 (some a0) (lastM ls).length ac (pv (List.map (fun x => x.snd) (lastM ls)))] ρ w1 ∧ 1 ≤ x.i) (fun x => (lastM ls).length - x.i) (LI.mk i)), .block 2, .seq (sub B6 pAP4)], [(9, .sl (some a0) (lastM ls).length ac), (10, .sl bA (lastM ls).length bc), (11, .io .i64 (↑i : Int)), (144, .io .i64 (↑(i - 1) : Int)), (153, .bo !(Op.bytesLess (mkB px.key).toList (mkB py.key).toList || (mkB px.key).toList == (mkB py.key).toList)), (154, .bo !(Op.bytesLess (mkB px.key).toList (mkB py.key).toList || (mkB px.key).toList == (mkB py.key).toList))], []⟩ (by kernel_rfl) (by kernel_rfl) ?_
            rcases Bool.eq_false_or_eq_true (!(Op.bytesLess (mkB px.key).toList (mkB py.key).toList || (mkB px.key).toList == (mkB py.key).toList)) with b0 | b0
            · refine At.res 154 (!(Op.bytesLess (mkB px.key).toList (mkB py.key).toList || (mkB px.key).toList == (mkB py.key).toList)) true (by kernel_rfl) b0 ?_
              refine At.toJ (Rws.stable) Rws.fewer 0 300 [4] 0 ⟨.exit .ret, [], [(4, .v (.bool false))], []⟩ (by kernel_rfl) (by kernel_rfl) ?_
              refine At.ret (by kernel_rfl) (.v (.bool false)) (by kernel_rfl) ?_
              exfalso
              try simp only [mkB_list] at b0
              first
                | (rcases hcmp with h | ⟨h, _⟩
                   · simp [h] at b0
                   · simp [h] at b0)
                | (have e2 := eq_of_beq hkeq
                   rw [mkB_list, mkB_list] at e2
                   rcases hcmp with h | ⟨_, h⟩
                   · rw [e2, less_irr] at h; cases h
                   · simp only [Bool.and_eq_true, beq_iff_eq] at b0
                     omega)
            · refine At.res 154 (!(Op.bytesLess (mkB px.key).toList (mkB py.key).toList || (mkB px.key).toList == (mkB py.key).toList)) false (by kernel_rfl) b0 ?_
              refine At.toJ (Rws.stable) Rws.fewer 0 300 [9, 10, 11, 144, 153, 154, 155, 157] 0 ⟨pqops B6 [1, 1, 1, 1, 1, 1, 1, 1, 1, 0, 1, 4, 4, 1, 0, 4, 0] 16, [.seq (sub B6 pAP0), .block 3, .seq (sub B6 pAP1), .next (Sx.Next w.heap.size w Tryd.f6.ntmps (frLI (some a0) bA (lastM ls).length ac bc) locLI (fun x ρ w1 => Rws w.heap.size [Rw.mk 29 9 bA (lastM ls).length bc (pv (List.map (fun x => x.snd) (lastM ls))), Rw.mk 29 9 (some a0) (lastM ls).length ac (pv (List.map (fun x => x.snd) (lastM ls)))] ρ w1 ∧ 1 ≤ x.i) (fun x => (lastM ls).length - x.i) (LI.mk i)), .block 2, .seq (sub B6 pAP4)], [(9, .sl (some a0) (lastM ls).length ac), (10, .sl bA (lastM ls).length bc), (11, .io .i64 (↑i : Int)), (144, .io .i64 (↑(i - 1) : Int)), (153, .bo !(Op.bytesLess (mkB px.key).toList (mkB py.key).toList || (mkB px.key).toList == (mkB py.key).toList)), (154, .v (.bool false)), (155, .sl (some a0) (lastM ls).length ac), (157, .io .i64 (IntKind.i64.wrap ((↑i : Int) - 1)))], []⟩ (by kernel_rfl) (by kernel_rfl) ?_
              rw [hw1]
              try have hkeq := (b0 : ((mkB px.key).toList == (mkB py.key).toList) = true)
              refine At.idx a0 (lastM ls).length 9 (((i - 1 : Nat) : Int)) (by kernel_rfl) (by omega) (by omega) Rws.stable ?_
              refine At.toJ (Rws.stable) Rws.fewer 0 300 [9, 10, 11, 144, 153, 154, 157, 158] 0 ⟨pqops B6 [1, 1, 1, 1, 1, 1, 1, 1, 1, 0, 1, 4, 4, 1, 0, 4, 0] 17, [.seq (sub B6 pAP0), .block 3, .seq (sub B6 pAP1), .next (Sx.Next w.heap.size w Tryd.f6.ntmps (frLI (some a0) bA (lastM ls).length ac bc) locLI (fun x ρ w1 => Rws w.heap.size [Rw.mk 29 9 bA (lastM ls).length bc (pv (List.map (fun x => x.snd) (lastM ls))), Rw.mk 29 9 (some a0) (lastM ls).length ac (pv (List.map (fun x => x.snd) (lastM ls)))] ρ w1 ∧ 1 ≤ x.i) (fun x => (lastM ls).length - x.i) (LI.mk i)), .block 2, .seq (sub B6 pAP4)], [(9, .sl (some a0) (lastM ls).length ac), (10, .sl bA (lastM ls).length bc), (11, .io .i64 (↑i : Int)), (144, .io .i64 (↑(i - 1) : Int)), (153, .bo !(Op.bytesLess (mkB px.key).toList (mkB py.key).toList || (mkB px.key).toList == (mkB py.key).toList)), (154, .v (.bool false)), (157, .io .i64 (↑(i - 1) : Int)), (158, .v (.pointer (some (a0.add ((↑(i - 1) : Int).toNat * 9)))))], []⟩ (by kernel_rfl) (by kernel_rfl) ?_
              refine At.fax (a0.add ((((i - 1 : Nat) : Int) : Int).toNat * 9)) 0 (by kernel_rfl) Rws.stable ?_
              refine At.toJ (Rws.stable) Rws.fewer 0 300 [9, 10, 11, 144, 153, 154, 157, 159] 0 ⟨pqops B6 [1, 1, 1, 1, 1, 1, 1, 1, 1, 0, 1, 4, 4, 1, 0, 4, 0] 18, [.seq (sub B6 pAP0), .block 3, .seq (sub B6 pAP1), .next (Sx.Next w.heap.size w Tryd.f6.ntmps (frLI (some a0) bA (lastM ls).length ac bc) locLI (fun x ρ w1 => Rws w.heap.size [Rw.mk 29 9 bA (lastM ls).length bc (pv (List.map (fun x => x.snd) (lastM ls))), Rw.mk 29 9 (some a0) (lastM ls).length ac (pv (List.map (fun x => x.snd) (lastM ls)))] ρ w1 ∧ 1 ≤ x.i) (fun x => (lastM ls).length - x.i) (LI.mk i)), .block 2, .seq (sub B6 pAP4)], [(9, .sl (some a0) (lastM ls).length ac), (10, .sl bA (lastM ls).length bc), (11, .io .i64 (↑i : Int)), (144, .io .i64 (↑(i - 1) : Int)), (153, .bo !(Op.bytesLess (mkB px.key).toList (mkB py.key).toList || (mkB px.key).toList == (mkB py.key).toList)), (154, .v (.bool false)), (157, .io .i64 (↑(i - 1) : Int)), (159, .v (.pointer (some ((a0.add ((↑(i - 1) : Int).toNat * 9)).add 0))))], []⟩ (by kernel_rfl) (by kernel_rfl) ?_
              refine At.ldx ((a0.add ((((i - 1 : Nat) : Int) : Int).toNat * 9)).add 0) (.so (mkB px.key)) (by kernel_rfl) Rws.stable (fun ρ w1 hm' hf => by rw [add_add]; exact hf.src (.tail _ (.head _)) rfl _ _ (pv_at hx1 rfl)) ?_
              refine At.toJ (Rws.stable) Rws.fewer 0 300 [9, 10, 11, 144, 153, 154, 157, 160, 161, 162] 0 ⟨pqops B6 [1, 1, 1, 1, 1, 1, 1, 1, 1, 0, 1, 4, 4, 1, 0, 4, 0] 21, [.seq (sub B6 pAP0), .block 3, .seq (sub B6 pAP1), .next (Sx.Next w.heap.size w Tryd.f6.ntmps (frLI (some a0) bA (lastM ls).length ac bc) locLI (fun x ρ w1 => Rws w.heap.size [Rw.mk 29 9 bA (lastM ls).length bc (pv (List.map (fun x => x.snd) (lastM ls))), Rw.mk 29 9 (some a0) (lastM ls).length ac (pv (List.map (fun x => x.snd) (lastM ls)))] ρ w1 ∧ 1 ≤ x.i) (fun x => (lastM ls).length - x.i) (LI.mk i)), .block 2, .seq (sub B6 pAP4)], [(9, .sl (some a0) (lastM ls).length ac), (10, .sl bA (lastM ls).length bc), (11, .io .i64 (↑i : Int)), (144, .io .i64 (↑(i - 1) : Int)), (153, .bo !(Op.bytesLess (mkB px.key).toList (mkB py.key).toList || (mkB px.key).toList == (mkB py.key).toList)), (154, .v (.bool false)), (157, .io .i64 (↑(i - 1) : Int)), (160, .so (mkB px.key)), (161, .sl (some a0) (lastM ls).length ac), (162, .io .i64 (↑i : Int))], []⟩ (by kernel_rfl) (by kernel_rfl) ?_
              refine At.idx a0 (lastM ls).length 9 ((i : Int)) (by kernel_rfl) (by omega) (by omega) Rws.stable ?_
              refine At.toJ (Rws.stable) Rws.fewer 0 300 [9, 10, 11, 144, 153, 154, 157, 160, 163] 0 ⟨pqops B6 [1, 1, 1, 1, 1, 1, 1, 1, 1, 0, 1, 4, 4, 1, 0, 4, 0] 22, [.seq (sub B6 pAP0), .block 3, .seq (sub B6 pAP1), .next (Sx.Next w.heap.size w Tryd.f6.ntmps (frLI (some a0) bA (lastM ls).length ac bc) locLI (fun x ρ w1 => Rws w.heap.size [Rw.mk 29 9 bA (lastM ls).length bc (pv (List.map (fun x => x.snd) (lastM ls))), Rw.mk 29 9 (some a0) (lastM ls).length ac (pv (List.map (fun x => x.snd) (lastM ls)))] ρ w1 ∧ 1 ≤ x.i) (fun x => (lastM ls).length - x.i) (LI.mk i)), .block 2, .seq (sub B6 pAP4)], [(9, .sl (some a0) (lastM ls).length ac), (10, .sl bA (lastM ls).length bc), (11, .io .i64 (↑i : Int)), (144, .io .i64 (↑(i - 1) : Int)), (153, .bo !(Op.bytesLess (mkB px.key).toList (mkB py.key).toList || (mkB px.key).toList == (mkB py.key).toList)), (154, .v (.bool false)), (157, .io .i64 (↑(i - 1) : Int)), (160, .so (mkB px.key)), (163, .v (.pointer (some (a0.add ((↑i : Int).toNat * 9)))))], []⟩ (by kernel_rfl) (by kernel_rfl) ?_
              refine At.fax (a0.add (((i : Int) : Int).toNat * 9)) 0 (by kernel_rfl) Rws.stable ?_
              refine At.toJ (Rws.stable) Rws.fewer 0 300 [9, 10, 11, 144, 153, 154, 157, 160, 164] 0 ⟨pqops B6 [1, 1, 1, 1, 1, 1, 1, 1, 1, 0, 1, 4, 4, 1, 0, 4, 0] 23, [.seq (sub B6 pAP0), .block 3, .seq (sub B6 pAP1), .next (Sx.Next w.heap.size w Tryd.f6.ntmps (frLI (some a0) bA (lastM ls).length ac bc) locLI (fun x ρ w1 => Rws w.heap.size [Rw.mk 29 9 bA (lastM ls).length bc (pv (List.map (fun x => x.snd) (lastM ls))), Rw.mk 29 9 (some a0) (lastM ls).length ac (pv (List.map (fun x => x.snd) (lastM ls)))] ρ w1 ∧ 1 ≤ x.i) (fun x => (lastM ls).length - x.i) (LI.mk i)), .block 2, .seq (sub B6 pAP4)], [(9, .sl (some a0) (lastM ls).length ac), (10, .sl bA (lastM ls).length bc), (11, .io .i64 (↑i : Int)), (144, .io .i64 (↑(i - 1) : Int)), (153, .bo !(Op.bytesLess (mkB px.key).toList (mkB py.key).toList || (mkB px.key).toList == (mkB py.key).toList)), (154, .v (.bool false)), (157, .io .i64 (↑(i - 1) : Int)), (160, .so (mkB px.key)), (164, .v (.pointer (some ((a0.add ((↑i : Int).toNat * 9)).add 0))))], []⟩ (by kernel_rfl) (by kernel_rfl) ?_
              refine At.ldx ((a0.add (((i : Int) : Int).toNat * 9)).add 0) (.so (mkB py.key)) (by kernel_rfl) Rws.stable (fun ρ w1 hm' hf => by rw [add_add]; exact hf.src (.tail _ (.head _)) rfl _ _ (pv_at hy1 rfl)) ?_
              refine At.toJ (Rws.stable) Rws.fewer 0 300 [9, 10, 11, 144, 153, 154, 157, 160, 166, 167] 0 ⟨pqops B6 [1, 1, 1, 1, 1, 1, 1, 1, 1, 0, 1, 4, 4, 1, 0, 4, 0] 26, [.seq (sub B6 pAP0), .block 3, .seq (sub B6 pAP1), .next (Sx.Next w.heap.size w Tryd.f6.ntmps (frLI (some a0) bA (lastM ls).length ac bc) locLI (fun x ρ w1 => Rws w.heap.size [Rw.mk 29 9 bA (lastM ls).length bc (pv (List.map (fun x => x.snd) (lastM ls))), Rw.mk 29 9 (some a0) (lastM ls).length ac (pv (List.map (fun x => x.snd) (lastM ls)))] ρ w1 ∧ 1 ≤ x.i) (fun x => (lastM ls).length - x.i) (LI.mk i)), .block 2, .seq (sub B6 pAP4)], [(9, .sl (some a0) (lastM ls).length ac), (10, .sl bA (lastM ls).length bc), (11, .io .i64 (↑i : Int)), (144, .io .i64 (↑(i - 1) : Int)), (153, .bo !(Op.bytesLess (mkB px.key).toList (mkB py.key).toList || (mkB px.key).toList == (mkB py.key).toList)), (154, .v (.bool false)), (157, .io .i64 (↑(i - 1) : Int)), (160, .so (mkB px.key)), (166, .bo ((mkB px.key).toList == (mkB py.key).toList)), (167, .bo ((mkB px.key).toList == (mkB py.key).toList))], []⟩ (by kernel_rfl) (by kernel_rfl) ?_
              rcases Bool.eq_false_or_eq_true ((mkB px.key).toList == (mkB py.key).toList) with b0 | b0
              · refine At.res 167 ((mkB px.key).toList == (mkB py.key).toList) true (by kernel_rfl) b0 ?_
                refine At.toJ (Rws.stable) Rws.fewer 0 300 [9, 10, 11, 144, 153, 154, 157, 160, 166, 167, 168, 170] 0 ⟨pqops B6 [1, 1, 1, 1, 1, 1, 1, 1, 1, 0, 1, 4, 4, 1, 0, 4, 0] 29, [.seq (sub B6 pAP0), .block 3, .seq (sub B6 pAP1), .next (Sx.Next w.heap.size w Tryd.f6.ntmps (frLI (some a0) bA (lastM ls).length ac bc) locLI (fun x ρ w1 => Rws w.heap.size [Rw.mk 29 9 bA (lastM ls).length bc (pv (List.map (fun x => x.snd) (lastM ls))), Rw.mk 29 9 (some a0) (lastM ls).length ac (pv (List.map (fun x => x.snd) (lastM ls)))] ρ w1 ∧ 1 ≤ x.i) (fun x => (lastM ls).length - x.i) (LI.mk i)), .block 2, .seq (sub B6 pAP4)], [(9, .sl (some a0) (lastM ls).length ac), (10, .sl bA (lastM ls).length bc), (11, .io .i64 (↑i : Int)), (144, .io .i64 (↑(i - 1) : Int)), (153, .bo !(Op.bytesLess (mkB px.key).toList (mkB py.key).toList || (mkB px.key).toList == (mkB py.key).toList)), (154, .v (.bool false)), (157, .io .i64 (↑(i - 1) : Int)), (160, .so (mkB px.key)), (166, .bo ((mkB px.key).toList == (mkB py.key).toList)), (167, .v (.bool true)), (168, .sl (some a0) (lastM ls).length ac), (170, .io .i64 (IntKind.i64.wrap ((↑i : Int) - 1)))], []⟩ (by kernel_rfl) (by kernel_rfl) ?_
                rw [hw1]
                try have hkeq := (b0 : ((mkB px.key).toList == (mkB py.key).toList) = true)
                refine At.idx a0 (lastM ls).length 9 (((i - 1 : Nat) : Int)) (by kernel_rfl) (by omega) (by omega) Rws.stable ?_
                refine At.toJ (Rws.stable) Rws.fewer 0 300 [9, 10, 11, 144, 153, 154, 157, 160, 166, 167, 170, 171] 0 ⟨pqops B6 [1, 1, 1, 1, 1, 1, 1, 1, 1, 0, 1, 4, 4, 1, 0, 4, 0] 30, [.seq (sub B6 pAP0), .block 3, .seq (sub B6 pAP1), .next (Sx.Next w.heap.size w Tryd.f6.ntmps (frLI (some a0) bA (lastM ls).length ac bc) locLI (fun x ρ w1 => Rws w.heap.size [Rw.mk 29 9 bA (lastM ls).length bc (pv (List.map (fun x => x.snd) (lastM ls))), Rw.mk 29 9 (some a0) (lastM ls).length ac (pv (List.map (fun x => x.snd) (lastM ls)))] ρ w1 ∧ 1 ≤ x.i) (fun x => (lastM ls).length - x.i) (LI.mk i)), .block 2, .seq (sub B6 pAP4)], [(9, .sl (some a0) (lastM ls).length ac), (10, .sl bA (lastM ls).length bc), (11, .io .i64 (↑i : Int)), (144, .io .i64 (↑(i - 1) : Int)), (153, .bo !(Op.bytesLess (mkB px.key).toList (mkB py.key).toList || (mkB px.key).toList == (mkB py.key).toList)), (154, .v (.bool false)), (157, .io .i64 (↑(i - 1) : Int)), (160, .so (mkB px.key)), (166, .bo ((mkB px.key).toList == (mkB py.key).toList)), (167, .v (.bool true)), (170, .io .i64 (↑(i - 1) : Int)), (171, .v (.pointer (some (a0.add ((↑(i - 1) : Int).toNat * 9)))))], []⟩ (by kernel_rfl) (by kernel_rfl) ?_
                refine At.fax (a0.add ((((i - 1 : Nat) : Int) : Int).toNat * 9)) 1 (by kernel_rfl) Rws.stable ?_
                refine At.toJ (Rws.stable) Rws.fewer 0 300 [9, 10, 11, 144, 153, 154, 157, 160, 166, 167, 170, 172] 0 ⟨pqops B6 [1, 1, 1, 1, 1, 1, 1, 1, 1, 0, 1, 4, 4, 1, 0, 4, 0] 31, [.seq (sub B6 pAP0), .block 3, .seq (sub B6 pAP1), .next (Sx.Next w.heap.size w Tryd.f6.ntmps (frLI (some a0) bA (lastM ls).length ac bc) locLI (fun x ρ w1 => Rws w.heap.size [Rw.mk 29 9 bA (lastM ls).length bc (pv (List.map (fun x => x.snd) (lastM ls))), Rw.mk 29 9 (some a0) (lastM ls).length ac (pv (List.map (fun x => x.snd) (lastM ls)))] ρ w1 ∧ 1 ≤ x.i) (fun x => (lastM ls).length - x.i) (LI.mk i)), .block 2, .seq (sub B6 pAP4)], [(9, .sl (some a0) (lastM ls).length ac), (10, .sl bA (lastM ls).length bc), (11, .io .i64 (↑i : Int)), (144, .io .i64 (↑(i - 1) : Int)), (153, .bo !(Op.bytesLess (mkB px.key).toList (mkB py.key).toList || (mkB px.key).toList == (mkB py.key).toList)), (154, .v (.bool false)), (157, .io .i64 (↑(i - 1) : Int)), (160, .so (mkB px.key)), (166, .bo ((mkB px.key).toList == (mkB py.key).toList)), (167, .v (.bool true)), (170, .io .i64 (↑(i - 1) : Int)), (172, .v (.pointer (some (Addr.mk (a0.add ((↑(i - 1) : Int).toNat * 9)).block ((a0.add ((↑(i - 1) : Int).toNat * 9)).off + 1) none))))], []⟩ (by kernel_rfl) (by kernel_rfl) ?_
                refine At.lda ((a0.add ((((i - 1 : Nat) : Int) : Int).toNat * 9)).add 1) 2 [.io .i64 px.st, .io .i64 px.en] (by kernel_rfl) rfl Rws.stable (fun ρ w1 hm' hf j u hj => by rw [add_add, add_add]; exact hf.src (.tail _ (.head _)) rfl _ _ (by rw [show ∀ a b : Nat, a + (1 + b) = a + (1 + b) from fun _ _ => rfl]; exact pv_at hx1 (span_at hj))) ?_
                refine At.toJ (Rws.stable) Rws.fewer 0 300 [9, 10, 11, 144, 153, 154, 157, 160, 166, 167, 170, 173, 174, 175] 0 ⟨pqops B6 [1, 1, 1, 1, 1, 1, 1, 1, 1, 0, 1, 4, 4, 1, 0, 4, 0] 34, [.seq (sub B6 pAP0), .block 3, .seq (sub B6 pAP1), .next (Sx.Next w.heap.size w Tryd.f6.ntmps (frLI (some a0) bA (lastM ls).length ac bc) locLI (fun x ρ w1 => Rws w.heap.size [Rw.mk 29 9 bA (lastM ls).length bc (pv (List.map (fun x => x.snd) (lastM ls))), Rw.mk 29 9 (some a0) (lastM ls).length ac (pv (List.map (fun x => x.snd) (lastM ls)))] ρ w1 ∧ 1 ≤ x.i) (fun x => (lastM ls).length - x.i) (LI.mk i)), .block 2, .seq (sub B6 pAP4)], [(9, .sl (some a0) (lastM ls).length ac), (10, .sl bA (lastM ls).length bc), (11, .io .i64 (↑i : Int)), (144, .io .i64 (↑(i - 1) : Int)), (153, .bo !(Op.bytesLess (mkB px.key).toList (mkB py.key).toList || (mkB px.key).toList == (mkB py.key).toList)), (154, .v (.bool false)), (157, .io .i64 (↑(i - 1) : Int)), (160, .so (mkB px.key)), (166, .bo ((mkB px.key).toList == (mkB py.key).toList)), (167, .v (.bool true)), (170, .io .i64 (↑(i - 1) : Int)), (173, .agg [.io .i64 px.st, .io .i64 px.en]), (174, .sl (some a0) (lastM ls).length ac), (175, .io .i64 (↑i : Int))], []⟩ (by kernel_rfl) (by kernel_rfl) ?_
                refine At.idx a0 (lastM ls).length 9 ((i : Int)) (by kernel_rfl) (by omega) (by omega) Rws.stable ?_
                refine At.toJ (Rws.stable) Rws.fewer 0 300 [9, 10, 11, 144, 153, 154, 157, 160, 166, 167, 170, 173, 176] 0 ⟨pqops B6 [1, 1, 1, 1, 1, 1, 1, 1, 1, 0, 1, 4, 4, 1, 0, 4, 0] 35, [.seq (sub B6 pAP0), .block 3, .seq (sub B6 pAP1), .next (Sx.Next w.heap.size w Tryd.f6.ntmps (frLI (some a0) bA (lastM ls).length ac bc) locLI (fun x ρ w1 => Rws w.heap.size [Rw.mk 29 9 bA (lastM ls).length bc (pv (List.map (fun x => x.snd) (lastM ls))), Rw.mk 29 9 (some a0) (lastM ls).length ac (pv (List.map (fun x => x.snd) (lastM ls)))] ρ w1 ∧ 1 ≤ x.i) (fun x => (lastM ls).length - x.i) (LI.mk i)), .block 2, .seq (sub B6 pAP4)], [(9, .sl (some a0) (lastM ls).length ac), (10, .sl bA (lastM ls).length bc), (11, .io .i64 (↑i : Int)), (144, .io .i64 (↑(i - 1) : Int)), (153, .bo !(Op.bytesLess (mkB px.key).toList (mkB py.key).toList || (mkB px.key).toList == (mkB py.key).toList)), (154, .v (.bool false)), (157, .io .i64 (↑(i - 1) : Int)), (160, .so (mkB px.key)), (166, .bo ((mkB px.key).toList == (mkB py.key).toList)), (167, .v (.bool true)), (170, .io .i64 (↑(i - 1) : Int)), (173, .agg [.io .i64 px.st, .io .i64 px.en]), (176, .v (.pointer (some (a0.add ((↑i : Int).toNat * 9)))))], []⟩ (by kernel_rfl) (by kernel_rfl) ?_
                refine At.fax (a0.add (((i : Int) : Int).toNat * 9)) 1 (by kernel_rfl) Rws.stable ?_
                refine At.toJ (Rws.stable) Rws.fewer 0 300 [9, 10, 11, 144, 153, 154, 157, 160, 166, 167, 170, 173, 177] 0 ⟨pqops B6 [1, 1, 1, 1, 1, 1, 1, 1, 1, 0, 1, 4, 4, 1, 0, 4, 0] 36, [.seq (sub B6 pAP0), .block 3, .seq (sub B6 pAP1), .next (Sx.Next w.heap.size w Tryd.f6.ntmps (frLI (some a0) bA (lastM ls).length ac bc) locLI (fun x ρ w1 => Rws w.heap.size [Rw.mk 29 9 bA (lastM ls).length bc (pv (List.map (fun x => x.snd) (lastM ls))), Rw.mk 29 9 (some a0) (lastM ls).length ac (pv (List.map (fun x => x.snd) (lastM ls)))] ρ w1 ∧ 1 ≤ x.i) (fun x => (lastM ls).length - x.i) (LI.mk i)), .block 2, .seq (sub B6 pAP4)], [(9, .sl (some a0) (lastM ls).length ac), (10, .sl bA (lastM ls).length bc), (11, .io .i64 (↑i : Int)), (144, .io .i64 (↑(i - 1) : Int)), (153, .bo !(Op.bytesLess (mkB px.key).toList (mkB py.key).toList || (mkB px.key).toList == (mkB py.key).toList)), (154, .v (.bool false)), (157, .io .i64 (↑(i - 1) : Int)), (160, .so (mkB px.key)), (166, .bo ((mkB px.key).toList == (mkB py.key).toList)), (167, .v (.bool true)), (170, .io .i64 (↑(i - 1) : Int)), (173, .agg [.io .i64 px.st, .io .i64 px.en]), (177, .v (.pointer (some (Addr.mk (a0.add ((↑i : Int).toNat * 9)).block ((a0.add ((↑i : Int).toNat * 9)).off + 1) none))))], []⟩ (by kernel_rfl) (by kernel_rfl) ?_
                refine At.lda ((a0.add (((i : Int) : Int).toNat * 9)).add 1) 2 [.io .i64 py.st, .io .i64 py.en] (by kernel_rfl) rfl Rws.stable (fun ρ w1 hm' hf j u hj => by rw [add_add, add_add]; exact hf.src (.tail _ (.head _)) rfl _ _ (by rw [show ∀ a b : Nat, a + (1 + b) = a + (1 + b) from fun _ _ => rfl]; exact pv_at hy1 (span_at hj))) ?_
                refine At.toJ (Rws.stable) Rws.fewer 0 300 [9, 10, 11, 144, 153, 154, 157, 160, 166, 167, 170, 181] 0 ⟨.code (sub B6 pAP0), [.block 3, .seq (sub B6 pAP1), .next (Sx.Next w.heap.size w Tryd.f6.ntmps (frLI (some a0) bA (lastM ls).length ac bc) locLI (fun x ρ w1 => Rws w.heap.size [Rw.mk 29 9 bA (lastM ls).length bc (pv (List.map (fun x => x.snd) (lastM ls))), Rw.mk 29 9 (some a0) (lastM ls).length ac (pv (List.map (fun x => x.snd) (lastM ls)))] ρ w1 ∧ 1 ≤ x.i) (fun x => (lastM ls).length - x.i) (LI.mk i)), .block 2, .seq (sub B6 pAP4)], [(9, .sl (some a0) (lastM ls).length ac), (10, .sl bA (lastM ls).length bc), (11, .io .i64 (↑i : Int)), (144, .io .i64 (↑(i - 1) : Int)), (153, .bo !(Op.bytesLess (mkB px.key).toList (mkB py.key).toList || (mkB px.key).toList == (mkB py.key).toList)), (154, .v (.bool false)), (157, .io .i64 (↑(i - 1) : Int)), (160, .so (mkB px.key)), (166, .bo ((mkB px.key).toList == (mkB py.key).toList)), (167, .v (.bool true)), (170, .io .i64 (↑(i - 1) : Int)), (181, .bo (px.st == py.st && (px.en == py.en && true)))], []⟩ (by kernel_rfl) (by kernel_rfl) ?_
                rcases Bool.eq_false_or_eq_true (px.st == py.st && (px.en == py.en && true)) with b0 | b0
                · refine At.res 181 (px.st == py.st && (px.en == py.en && true)) true (by kernel_rfl) b0 ?_
                  refine At.toJ (Rws.stable) Rws.fewer 0 300 [4] 0 ⟨.exit .ret, [], [(4, .v (.bool false))], []⟩ (by kernel_rfl) (by kernel_rfl) ?_
                  refine At.ret (by kernel_rfl) (.v (.bool false)) (by kernel_rfl) ?_
                  exfalso
                  try simp only [mkB_list] at b0
                  first
                    | (rcases hcmp with h | ⟨h, _⟩
                       · simp [h] at b0
                       · simp [h] at b0)
                    | (have e2 := eq_of_beq hkeq
                       rw [mkB_list, mkB_list] at e2
                       rcases hcmp with h | ⟨_, h⟩
                       · rw [e2, less_irr] at h; cases h
                       · simp only [Bool.and_eq_true, beq_iff_eq] at b0
                         omega)
                · refine At.res 181 (px.st == py.st && (px.en == py.en && true)) false (by kernel_rfl) b0 ?_
                  refine At.toJ (Rws.stable) Rws.fewer 0 300 [9, 10, 11, 144, 153, 154, 157, 160, 166, 167, 170] 0 ⟨.exit .normal, [.next (Sx.Next w.heap.size w Tryd.f6.ntmps (frLI (some a0) bA (lastM ls).length ac bc) locLI (fun x ρ w1 => Rws w.heap.size [Rw.mk 29 9 bA (lastM ls).length bc (pv (List.map (fun x => x.snd) (lastM ls))), Rw.mk 29 9 (some a0) (lastM ls).length ac (pv (List.map (fun x => x.snd) (lastM ls)))] ρ w1 ∧ 1 ≤ x.i) (fun x => (lastM ls).length - x.i) (LI.mk i)), .block 2, .seq (sub B6 pAP4)], [(9, .sl (some a0) (lastM ls).length ac), (10, .sl bA (lastM ls).length bc), (11, .io .i64 (IntKind.i64.wrap ((↑i : Int) + 1))), (144, .io .i64 (↑(i - 1) : Int)), (153, .bo !(Op.bytesLess (mkB px.key).toList (mkB py.key).toList || (mkB px.key).toList == (mkB py.key).toList)), (154, .v (.bool false)), (157, .io .i64 (↑(i - 1) : Int)), (160, .so (mkB px.key)), (166, .bo ((mkB px.key).toList == (mkB py.key).toList)), (167, .v (.bool true)), (170, .io .i64 (↑(i - 1) : Int))], []⟩ (by kernel_rfl) (by kernel_rfl) ?_
                  have hw2 : IntKind.i64.wrap ((i : Int) + 1) = ((i + 1 : Nat) : Int) := by
                    rw [wrap63 (by omega) (by omega)]
                    omega
                  rw [hw2]
                  refine At.next (σ := LI) ⟨i + 1⟩ rfl rfl (by unfold subFr; kernel_rfl) (by kernel_rfl) (fun ρ a' w' hi' hf => ⟨hf, (Nat.le_add_left 1 i : 1 ≤ i + 1)⟩) ?_
                  show (lastM ls).length - (i + 1) < (lastM ls).length - i
                  omega
              · refine At.res 167 ((mkB px.key).toList == (mkB py.key).toList) false (by kernel_rfl) b0 ?_
                refine At.toJ (Rws.stable) Rws.fewer 0 300 [9, 10, 11, 144, 153, 154, 157, 160, 166, 167, 170] 0 ⟨.exit .normal, [.next (Sx.Next w.heap.size w Tryd.f6.ntmps (frLI (some a0) bA (lastM ls).length ac bc) locLI (fun x ρ w1 => Rws w.heap.size [Rw.mk 29 9 bA (lastM ls).length bc (pv (List.map (fun x => x.snd) (lastM ls))), Rw.mk 29 9 (some a0) (lastM ls).length ac (pv (List.map (fun x => x.snd) (lastM ls)))] ρ w1 ∧ 1 ≤ x.i) (fun x => (lastM ls).length - x.i) (LI.mk i)), .block 2, .seq (sub B6 pAP4)], [(9, .sl (some a0) (lastM ls).length ac), (10, .sl bA (lastM ls).length bc), (11, .io .i64 (IntKind.i64.wrap ((↑i : Int) + 1))), (144, .io .i64 (↑(i - 1) : Int)), (153, .bo !(Op.bytesLess (mkB px.key).toList (mkB py.key).toList || (mkB px.key).toList == (mkB py.key).toList)), (154, .v (.bool false)), (157, .io .i64 (↑(i - 1) : Int)), (160, .so (mkB px.key)), (166, .bo ((mkB px.key).toList == (mkB py.key).toList)), (167, .v (.bool false)), (170, .v (.tuple (Array.mk [])))], []⟩ (by kernel_rfl) (by kernel_rfl) ?_
                have hw2 : IntKind.i64.wrap ((i : Int) + 1) = ((i + 1 : Nat) : Int) := by
                  rw [wrap63 (by omega) (by omega)]
                  omega
                rw [hw2]
                refine At.next (σ := LI) ⟨i + 1⟩ rfl rfl (by unfold subFr; kernel_rfl) (by kernel_rfl) (fun ρ a' w' hi' hf => ⟨hf, (Nat.le_add_left 1 i : 1 ≤ i + 1)⟩) ?_
                show (lastM ls).length - (i + 1) < (lastM ls).length - i
                omega
          · refine At.res 139 (decide ((↑i : Int) < (↑(lastM ls).length : Int))) false (by kernel_rfl) b0 ?_
            refine At.toJ (Rws.stable) Rws.fewer 0 300 [182, 183] 0 ⟨pops B6 [1, 1, 1, 1, 1, 1, 1, 1, 1, 1, 0] 2, [.seq (sub B6 [1, 0, 1, 2, 1])], [(182, .sl aA (lastM ls).length ac), (183, .sl bA (lastM ls).length bc)], []⟩ (by kernel_rfl) (by kernel_rfl) ?_
            refine At.call Rws.stable 12 [.sl aA (lastM ls).length ac, .sl bA (lastM ls).length bc] (.v (.bool true)) (by kernel_rfl) (by kernel_rfl) (by kernel_rfl) (fun ρ _ w1 hi hf => (same_sl (A := aA) (B := bA) (n := (lastM ls).length) (m := (lastM ls).length) (c := ac) (d := bc) (ps := (lastM ls).map (·.2)) (qs := (lastM ls).map (·.2)) w1 (rws_slp (A := aA) (n := (lastM ls).length) (c := ac) (ps := (lastM ls).map (·.2)) hf (.tail _ (.head _)) (List.length_map ..).symm) (rws_slp (A := bA) (n := (lastM ls).length) (c := bc) (ps := (lastM ls).map (·.2)) hf (.head _) (List.length_map ..).symm) (by omega)).mono fun e w2 h => ⟨h.1.trans (by rw [decide_eq_true rfl]; rfl), h.2⟩) ?_
            refine At.toJ (Rws.stable) Rws.fewer 0 300 [187] 0 ⟨pops B6 [1, 1, 1, 1, 1, 1, 1, 1, 1, 1, 0] 6, [.seq (sub B6 [1, 0, 1, 2, 1])], [(187, .v (.bool true))], []⟩ (by kernel_rfl) (by kernel_rfl) ?_
            refine At.call Rws.stable 7 [] (.v (.bool true)) (by kernel_rfl) (by kernel_rfl) (by kernel_rfl) (fun _ _ w1 hi _ => known_any w1 (tab_below htp hi.mem.below rfl) (var_below hs1 hi.mem.below) (var_below hs2 hi.mem.below) (cell_below hm hi.mem.below)) ?_
            refine At.toJ (Rws.stable) Rws.fewer 0 300 [4] 0 ⟨.exit .ret, [], [(4, .v (.bool true))], []⟩ (by kernel_rfl) (by kernel_rfl) ?_
            refine At.ret (by kernel_rfl) (.v (.bool true)) (by kernel_rfl) ?_
            intro ρ w9 hm' hf
            exact ⟨rfl, hm'.below⟩
end Go.Proofs.YtkjnbafdmjakgaaDoor
end
section
--@U
/- Panes handed in, one by value or a slice of them, taken apart. -/
set_option maxRecDepth 100000
namespace Go.Proofs.YtkjnbafdmjakgaaDoor
open Go.Joins Go.ChangeShapes Go.WideShapes Go.RowKit Go.Deep Go.Sx
section
variable {H : Type} {enc : TypeId × Value → H} {w : World} {base : Nat} {spare : Nat → Bool} {held : Bool}
theorem laid_out : laidOutB Tryd.prog = true := by kernel_rfl
theorem kc2 : Tryd.prog.cellsOf 2 = 1 := by kernel_rfl
theorem kc9 : Tryd.prog.cellsOf 9 = 1 := by kernel_rfl
theorem kc24 : Tryd.prog.cellsOf 24 = 2 := by kernel_rfl
theorem kc25 : Tryd.prog.cellsOf 25 = 1 := by kernel_rfl
theorem kc27 : Tryd.prog.cellsOf 27 = 4 := by kernel_rfl
theorem kc29 : Tryd.prog.cellsOf 29 = 9 := by kernel_rfl
instance : Inhabited Pn := ⟨⟨[], 0, 0, 0, 0, 0, 0, 0, 0⟩⟩
theorem wf_in {x : Int} (h : (Lit.int .i64 x).wf = true) : in64 x := by
 simp only [Lit.wf, Bool.and_eq_true, decide_eq_true_eq] at h
 exact ⟨h.1, h.2⟩
theorem pane_of {fuel : Nat} {cs : List Value} {x : DataW H × List MemPlace} (h : DataW.trod enc Tryd.prog w base spare held fuel 29 cs = some x) : ∃ y : Pn, cs = y.cells ∧ y.in64 := by
 obtain ⟨xs, n, _, _, hl, hlen, hg⟩ := DataW.trod_struct Tryd.underlying29 h
 match cs, hl.trans kc29 with
 | [c0, c1, c2, c3, c4, c5, c6, c7, c8], _ =>
  match xs, hlen with
  | [y0, y1, y2, y3, y4], _ =>
   have h0 : DataW.trod enc Tryd.prog w base spare held n 9 [c0] = some y0 := by simpa [kc9] using hg 0 _ rfl
   have h1 : DataW.trod enc Tryd.prog w base spare held n 24 [c1, c2] = some y1 := by simpa [kc24] using hg 1 _ rfl
   have h2 : DataW.trod enc Tryd.prog w base spare held n 25 [c3] = some y2 := by simpa [kc25] using hg 2 _ rfl
   have h3 : DataW.trod enc Tryd.prog w base spare held n 2 [c4] = some y3 := by simpa [kc2] using hg 3 _ rfl
   have h4 : DataW.trod enc Tryd.prog w base spare held n 27 [c5, c6, c7, c8] = some y4 := by simpa [kc27] using hg 4 _ rfl
   obtain ⟨xs1, n1, _, _, _, hlen1, hg1⟩ := DataW.trod_struct Tryd.underlying24 h1
   obtain ⟨xs4, n4, _, _, _, hlen4, hg4⟩ := DataW.trod_struct Tryd.underlying27 h4
   match xs1, hlen1, xs4, hlen4 with
   | [z0, z1], _, [u0, u1, u2, u3], _ =>
    have k0 : DataW.trod enc Tryd.prog w base spare held n1 2 [c1] = some z0 := by simpa [kc2] using hg1 0 _ rfl
    have k1 : DataW.trod enc Tryd.prog w base spare held n1 2 [c2] = some z1 := by simpa [kc2] using hg1 1 _ rfl
    have k3 : DataW.trod enc Tryd.prog w base spare held n4 2 [c5] = some u0 := by simpa [kc2] using hg4 0 _ rfl
    have k4 : DataW.trod enc Tryd.prog w base spare held n4 2 [c6] = some u1 := by simpa [kc2] using hg4 1 _ rfl
    have k5 : DataW.trod enc Tryd.prog w base spare held n4 2 [c7] = some u2 := by simpa [kc2] using hg4 2 _ rfl
    have k6 : DataW.trod enc Tryd.prog w base spare held n4 2 [c8] = some u3 := by simpa [kc2] using hg4 3 _ rfl
    obtain ⟨key, e0, _⟩ := DataW.trod_string Tryd.underlying9 h0
    obtain ⟨st, e1, _, r1⟩ := DataW.trod_int Tryd.underlying2 k0
    obtain ⟨en, e2, _, r2⟩ := DataW.trod_int Tryd.underlying2 k1
    obtain ⟨kd, e3, _, r3⟩ := DataW.trod_int Tryd.underlying25 h2
    obtain ⟨nt, e4, _, r4⟩ := DataW.trod_int Tryd.underlying2 h3
    obtain ⟨ct, e5, _, r5⟩ := DataW.trod_int Tryd.underlying2 k3
    obtain ⟨sm, e6, _, r6⟩ := DataW.trod_int Tryd.underlying2 k4
    obtain ⟨mn, e7, _, r7⟩ := DataW.trod_int Tryd.underlying2 k5
    obtain ⟨mx, e8, _, r8⟩ := DataW.trod_int Tryd.underlying2 k6
    simp only [List.cons.injEq, and_true] at e0 e1 e2 e3 e4 e5 e6 e7 e8
    subst e0 e1 e2 e3 e4 e5 e6 e7 e8
    exact ⟨⟨key.data.toList, st, en, kd, nt, ct, sm, mn, mx⟩, rfl, wf_in r1, wf_in r2, wf_in r4, wf_in r5, wf_in r6, wf_in r7, wf_in r8⟩
theorem pv_src {a : Addr} {ls : List Pn} (h : ∀ (i : Nat) (x : Pn), ls[i]? = some x → ∀ (r : Nat) (v : Value), x.cells[r]? = some v → w.cell? ((a.add (i * 9)).add r) = some v) : Go.Sx.Src w a (pv ls) := fun j u hj => by
 have hlt := (List.getElem?_eq_some_iff.1 hj).1
 rw [pv_len] at hlt
 have hx : ls[j / 9]? = some ls[j / 9] := List.getElem?_eq_getElem (by omega)
 have hjj : j / 9 * 9 + j % 9 = j := by omega
 have hr : j % 9 < (ls[j / 9]).cells.length := by rw [cells_len]; omega
 have hg := pv_at hx (List.getElem?_eq_getElem hr)
 rw [hjj, hj] at hg
 have := h _ _ hx _ _ (List.getElem?_eq_getElem hr)
 rw [add_add, hjj] at this
 rw [this, hg]
theorem panes_of {fuel : Nat} {cs : List Value} {x : DataW H × List MemPlace} (h : DataW.trod enc Tryd.prog w base spare held fuel 35 cs = some x) :
  ∃ (A : Option Addr) (n c : Nat) (ls : List Pn), cs = [.slice A n c] ∧ SlP w A n ls ∧ (∀ p ∈ ls, p.in64) ∧ n ≤ c := by
 rcases open_slice Tryd.underlying35 h with ⟨hcs, hx⟩ | ⟨a, n, c, m, k, D, Pl, hcs, _, hl, _, hm, hx, hel⟩
 ·exact ⟨none, 0, 0, [], hcs, ⟨rfl, fun _ => rfl, fun a ha => (by cases ha)⟩, fun p hp => (by cases hp), Nat.le_refl _⟩
 ·have hmn : n ≤ m := by rw [hm]; split <;> omega
  obtain ⟨f, hf⟩ := choose_lt (n := n) (p := fun i (y : Pn) => w.cells? base (a.add (i * 9)) 9 = some y.cells ∧ y.in64) (fun i hi => by
   obtain ⟨cs', h1, h2⟩ := hel i (by omega)
   obtain ⟨y, rfl, hy⟩ := pane_of h2
   rw [kc29] at h1
   exact ⟨y, h1, hy⟩)
  refine ⟨some a, n, c, (List.range n).map f, hcs, ⟨by simp, fun h => (by cases h), fun a' ha => ?_⟩, fun p hp => ?_, hl⟩
  ·cases ha
   refine pv_src fun i y hy r v hv => ?_
   have hi : i < n := by
    have := (List.getElem?_eq_some_iff.1 hy).1
    simpa using this
   have he : y = f i := by
    rw [List.getElem?_map, List.getElem?_range hi] at hy
    simpa using hy.symm
   subst he
   have hr := (List.getElem?_eq_some_iff.1 hv).1
   rw [cells_len] at hr
   rw [(World.cells?_some (hf i hi).1).2.2 r hr]
   exact hv
  ·obtain ⟨i, hi, rfl⟩ := List.mem_map.1 hp
   exact (hf i (List.mem_range.1 hi)).2
theorem open_panes {v : Value} {d : DataW H} {p : List MemPlace} {r : Reach} {b0 : Nat} (hv : Value.okWide Tryd.prog w r b0 35 v) (h : DataW.Trod enc Tryd.prog w base spare held 35 v d p) :
  ∃ (A : Option Addr) (n c : Nat) (ls : List Pn), v = .slice A n c ∧ SlP w A n ls ∧ (∀ p ∈ ls, p.in64) ∧ n ≤ c := by
 obtain ⟨A, n, c, rfl⟩ := okWide_slice Tryd.underlying35 hv
 obtain ⟨fuel, hf⟩ := h
 have hf' : DataW.trod enc Tryd.prog w base spare held fuel 35 [.slice A n c] = some (d, p) := by simpa [Value.cells] using hf
 obtain ⟨A', n', c', ls, e, h1, h2, h3⟩ := panes_of hf'
 simp only [List.cons.injEq, and_true] at e
 exact ⟨A', n', c', ls, e, h1, h2, h3⟩
theorem open_pane {v : Value} {d : DataW H} {p : List MemPlace} {r : Reach} {b0 : Nat} (hv : Value.okWide Tryd.prog w r b0 29 v) (h : DataW.Trod enc Tryd.prog w base spare held 29 v d p) : ∃ y : Pn, v = y.val ∧ y.in64 := by
 obtain ⟨cs, rfl, hsz⟩ := okWide_struct Tryd.underlying29 hv
 obtain ⟨l⟩ := cs
 obtain ⟨fuel, hf⟩ := h
 have hf' : DataW.trod enc Tryd.prog w base spare held fuel 29 l = some (d, p) := by simpa [Value.cells] using hf
 obtain ⟨y, rfl, hy⟩ := pane_of hf'
 exact ⟨y, rfl, hy⟩
end
end Go.Proofs.YtkjnbafdmjakgaaDoor
end
