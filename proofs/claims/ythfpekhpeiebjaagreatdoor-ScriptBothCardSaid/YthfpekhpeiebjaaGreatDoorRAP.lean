/- Joined texts: VB. -/
import Derived.Test.YthfpekhpeiebjaaGreatDoorRAN
import Derived.Test.YthfpekhpeiebjaaGreatDoorRAO
set_option linter.unusedSimpArgs false
set_option linter.unusedVariables false
namespace Go.Sx
open Go
def cfAP (g s k sz sl of gp lt ea : Int) (d : Bool) : List SV := [.io .i64 g, .io .i64 s, .io .i64 k, .io .i64 sz, .io .i64 sl, .io .i64 of, .io .i64 gp, .io .i64 lt, .io .i64 ea, .bo d]
def cwAP (g s k sz sl of gp lt ea : Int) (d : Bool) (wk : Int) (A : Option Addr) (n c : Nat) : List SV := [.io .i64 g, .io .i64 s, .io .i64 k, .io .i64 sz, .io .i64 sl, .io .i64 of, .io .i64 gp, .io .i64 lt, .io .i64 ea, .bo d, .io .i64 wk, .sl A n c]
def zAP0 : List SV := [.agg [.v (.int .i64 0), .v (.int .i64 0), .v (.int .i64 0), .v (.int .i64 0), .v (.int .i64 0), .v (.int .i64 0), .v (.int .i64 0), .v (.int .i64 0), .v (.int .i64 0), .v (.bool false), .v (.int .i64 0), .v (.slice none 0 0)], .v (.int .i64 2)]
def zAP1 : List SV := [.v (.int .i64 0), .v (.int .i64 0), .v (.int .i64 0), .v (.int .i64 0), .v (.int .i64 0), .v (.int .i64 0), .v (.int .i64 0), .v (.int .i64 0), .v (.int .i64 0), .v (.bool false), .v (.int .i64 0), .v (.slice none 0 0)]
def zAP2 : List SV := [.io .i64 0, .io .i64 0, .io .i64 0, .io .i64 0, .io .i64 0, .io .i64 0, .io .i64 0, .io .i64 0, .io .i64 0, .bo false, .io .i64 0, .sl none 0 0]
def pAP3 : List Nat := [1, 1, 1, 1, 1, 0, 1, 2, 0]
def pAP4 : List Nat := [1, 1, 1, 1, 1, 0, 1]
def pAP5 : List Nat := [1, 1, 1, 1, 1, 1]
def pAP6 : List Nat := [1, 0, 1, 2, 1]
def pAP7 : List Nat := [1, 1, 1, 1, 0]
def pAP8 : List Nat := [1, 1, 1, 1, 1]
end Go.Sx
section
namespace Go.Proofs.YthfpekhpeiebjaaGreatDoor
open Go.RowKit Go.Sx
def jobL (c : Cf) : List SV := [.io .i64 c.g, .io .i64 c.s, .io .i64 c.k, .io .i64 c.sz, .io .i64 c.sl, .io .i64 c.of, .io .i64 c.gp, .io .i64 c.lt, .io .i64 c.ea, .bo c.d]
def scB (c : Cf) (wk : Int) (A : Option Addr) (n cap : Nat) : List SV := [.io .i64 c.g, .io .i64 c.s, .io .i64 c.k, .io .i64 c.sz, .io .i64 c.sl, .io .i64 c.of, .io .i64 c.gp, .io .i64 c.lt, .io .i64 c.ea, .bo c.d, .io .i64 wk, .sl A n cap]
theorem stW_cat (xs ys : List St) : stW xs ++ stW ys = stW (xs ++ ys) := by simp [stW]
theorem rws_sls {b n c : Nat} {A : Option Addr} {L : List Rw} {xs : List St} {ρ : List Nat} {w : World} (h : Rws b L ρ w) (hx : (⟨41, 10, A, n, c, stW xs⟩ : Rw) ∈ L) : SlS w A n xs := by
 have hl := h.len hx
 simp only [stW_len] at hl
 refine ⟨by omega, fun e => ?_, fun a ha => h.src hx ha⟩
 have := (h.isNil hx e).1
 simp only at this
 exact List.eq_nil_of_length_eq_zero (by omega)
theorem ext_drop (x : List UInt8) (k : Nat) : (mkB x).extract (k : Int).toNat ((none : Option Int).getD (mkB x).size).toNat = mkB (x.drop k) := by
 rw [Option.getD_none, Int.toNat_natCast, Int.toNat_natCast, mkB_size]
 apply ByteArray.ext
 rw [ByteArray.data_extract]
 apply Array.ext'
 simp [mkB]
 rw [List.take_of_length_le (by rw [List.length_drop]; omega)]
theorem badI_iff {c : Cf} : ∀ (xs : List St) (i : Nat), badI c xs i = none ↔ ∀ x ∈ xs, mayB c x = true
 | [], i => by simp [badI]
 | x :: xs, i => by
  have ih := badI_iff (c := c) xs (i + 1)
  simp only [badI, List.mem_cons, forall_eq_or_imp]
  split
  ·rename_i h
   rw [ih]
   exact ⟨fun k => ⟨h, k⟩, fun k => k.2⟩
  ·rename_i h
   exact ⟨fun k => (by cases k), fun k => absurd k.1 h⟩
theorem chkE_zero (o : Option Nat) : (chkE o).2 = 0 ↔ o = none := by
 cases o <;> simp [chkE]
theorem chk_cat {c : Cf} {wk : Int} {xs ys : List St} : (chkP c wk (xs ++ ys)).2 = 0 ↔ (chkP c wk xs).2 = 0 ∧ (chkP c wk ys).2 = 0 := by
 unfold chkP
 split
 ·simp
 ·split
  ·simp
  ·rw [chkE_zero, chkE_zero, chkE_zero, badI_iff, badI_iff, badI_iff]
   simp only [List.mem_append]
   exact ⟨fun h => ⟨fun x hx => h x (.inl hx), fun x hx => h x (.inr hx)⟩, fun h x hx => hx.elim (h.1 x) (h.2 x)⟩
theorem both_facts {c : Cf} {wk : Int} {xs ys : List St} (h : (chkP c wk ys).2 = 0) : ∃ e, (endsOf (scriptB c wk ys) 0)[1]? = some e ∧ e ≤ (scriptB c wk ys).length ∧ scriptB c wk (xs ++ ys) = scriptB c wk xs ++ (scriptB c wk ys).drop e := by
 obtain ⟨hwr, h1, h2, hm⟩ := chk_ok h
 have h3 := (ends_glue (lns c wk ys) 0 (lns_no10 hwr)).2 1 (by rw [lns_len]; omega)
 have e1 : lns c wk ys = (lns c wk ys).take 2 ++ ys.map lineS := rfl
 have e2 : glue (lns c wk ys) = glue ((lns c wk ys).take 2) ++ glue (ys.map lineS) := by rw [← glue_app]; exact congrArg glue e1
 have e3 : 0 + (glue ((lns c wk ys).take (1 + 1))).length = (glue ((lns c wk ys).take 2)).length := Nat.zero_add _
 rw [e3] at h3
 refine ⟨_, by rw [script_glue]; exact h3, ?_, ?_⟩
 ·rw [script_glue, e2, List.length_append]
  omega
 ·rw [script_glue, script_glue, script_glue, e2, List.drop_left, ← glue_app]
  congr 1
  simp [lns]
structure V5 where
 c1 : Cf
 w1 : Int
 A1 : Option Addr
 n1 : Nat
 k1 : Nat
 c2 : Cf
 w2 : Int
 A2 : Option Addr
 n2 : Nat
 k2 : Nat
 e : Int
 f : Int
 L : List Rw
structure V6 where
 c : Cf
 wk : Int
 A : Option Addr
 n : Nat
 k : Nat
 e : Int
 L : List Rw
def Good5 (c : Cf) (wk : Int) (xs ys : List St) (x : V5) : Prop :=
 ((chkP c wk xs).2 = 0 ∧ (chkP c wk ys).2 = 0 ∧ ∃ A1 c1 A2 c2, x = ⟨c, wk, A1, xs.length, c1, c, wk, A2, ys.length, c2, 0, 0, [⟨41, 10, A2, ys.length, c2, stW ys⟩, ⟨41, 10, A1, xs.length, c1, stW xs⟩]⟩) ∨ (¬ ((chkP c wk xs).2 = 0 ∧ (chkP c wk ys).2 = 0) ∧ (x.e ≠ 0 ∨ x.f ≠ 0))
def Good6 (c : Cf) (wk : Int) (xs ys : List St) (x : V5) (y : V6) : Prop :=
 ((chkP c wk (xs ++ ys)).2 = 0 ∧ ∃ A3 c3, y = ⟨c, wk, A3, (xs ++ ys).length, c3, 0, ⟨41, 10, A3, (xs ++ ys).length, c3, stW (xs ++ ys)⟩ :: x.L⟩) ∨ (¬ (chkP c wk (xs ++ ys)).2 = 0 ∧ y = ⟨cf0, 0, none, 0, 0, 2, x.L⟩)
theorem chk_two {c : Cf} {wk : Int} {xs : List St} (h : ¬ (chkP c wk xs).2 = 0) : (chkP c wk xs).2 = 2 := (chk_bound c wk xs).2.2.resolve_left h
noncomputable def B5 : Code := (Tryz.f5.body).getD .skip
set_option maxHeartbeats 20000000 in
set_option maxRecDepth 100000 in
theorem both_true (g s k sz sl of gp lt ea : Int) (d : Bool) (wk : Int) (A : Option Addr) (n cap : Nat) (xs : List St) (D : Option Addr) (m dcap : Nat) (ys : List St) (w : World) (hw : Wd w) (hS : SlS w A n xs) (hok : ∀ x ∈ xs, x.ok) (hD : SlS w D m ys) (hokD : ∀ x ∈ ys, x.ok) (hbig : n + m ≤ 4398046511104) :
  Calls Tryz.prog 5 #[.agg #[.int .i64 g, .int .i64 s, .int .i64 k, .int .i64 sz, .int .i64 sl, .int .i64 of, .int .i64 gp, .int .i64 lt, .int .i64 ea, .bool d, .int .i64 wk, .slice A n cap], .slice D m dcap] w fun e w' => e = .returned (.bool true) ∧ Below w.heap.size w w' := by
 have hlx := hS.1
 have hly := hD.1
 refine enterF (N := w.heap.size) (F := Rws w.heap.size []) (fn := Tryz.f5) (c := B5) [.agg (cwAP g s k sz sl of gp lt ea d wk A n cap), .sl D m dcap] Tryz.func5 rfl rfl (Nat.le_refl _) (Rws.none _ _ _) ?_
 refine At.toJ (Rws.stable) Rws.fewer 0 300 [1, 2, 24] 1 ⟨.code (sub B5 [1, 0, 1]), [.seq (sub B5 [1, 1])], [(1, .sl D m dcap), (2, .lp 0 0), (24, .bo (decide (IntKind.i64.wrap ((↑n : Int) + (↑m : Int)) > 300)))], [((cwAP g s k sz sl of gp lt ea d wk A n cap), 28)]⟩ (by kernel_rfl) (by kernel_rfl) ?_
 rcases Bool.eq_false_or_eq_true (decide (IntKind.i64.wrap ((↑n : Int) + (↑m : Int)) > 300)) with b0 | b0
 ·refine At.res 24 (decide (IntKind.i64.wrap ((↑n : Int) + (↑m : Int)) > 300)) true (by kernel_rfl) b0 ?_
  refine At.toJ (Rws.stable) Rws.fewer 0 300 [] 0 ⟨pops B5 [1, 0, 1, 2, 0] 0, [.seq (sub B5 pAP6), .seq (sub B5 [1, 1])], [], []⟩ (by kernel_rfl) (by kernel_rfl) ?_
  refine At.call Rws.stable 8 [] (.v (.bool true)) (by kernel_rfl) (by kernel_rfl) (by kernel_rfl) (fun _ _ w1 hi _ => known_true w1 (hw.below hi.mem.below)) ?_
  refine At.toJ (Rws.stable) Rws.fewer 0 300 [4] 0 ⟨.exit .ret, [], [(4, .v (.bool true))], []⟩ (by kernel_rfl) (by kernel_rfl) ?_
  refine At.ret (by kernel_rfl) (.v (.bool true)) (by kernel_rfl) ?_
  intro ρ w9 hm' hf
  exact ⟨rfl, hm'.below⟩
 ·refine At.res 24 (decide (IntKind.i64.wrap ((↑n : Int) + (↑m : Int)) > 300)) false (by kernel_rfl) b0 ?_
  refine At.toJ (Rws.stable) Rws.fewer 0 300 [1, 2, 28, 30, 32] 1 ⟨pops B5 [1, 1, 0] 6, [.seq (sub B5 [1, 1, 1])], [(1, .sl D m dcap), (2, .lp 0 0), (28, .agg (cfAP g s k sz sl of gp lt ea d)), (30, .io .i64 wk), (32, .sl A n cap)], [((cwAP g s k sz sl of gp lt ea d wk A n cap), 28)]⟩ (by kernel_rfl) (by kernel_rfl) ?_
  have hnm : n + m ≤ 300 := by
   have := of_decide_eq_false b0
   rw [wrap63 (by omega) (by omega)] at this
   omega
  clear b0
  refine At.join (σ := V5) (fun x ρ w1 => Rws w.heap.size x.L ρ w1 ∧ Good5 ⟨g, s, k, sz, sl, of, gp, lt, ea, d⟩ wk xs ys x) (fun x => ⟨.any (opsOf (sub B5 pAP7)) 16 [], [.seq (sub B5 pAP8)], [(1, .sl D m dcap), (2, .lp 0 0), (5, .lp 1 0), (6, .io .i64 x.e), (7, .lp 2 0), (8, .io .i64 x.f)], [(scB ⟨g, s, k, sz, sl, of, gp, lt, ea, d⟩ wk A n cap, 28), (scB x.c1 x.w1 x.A1 x.n1 x.k1, 28), (scB x.c2 x.w2 x.A2 x.n2 x.k2, 28)]⟩) (fun rest => ?_) (fun x => ?_)
  ·by_cases hc1 : (chkP ⟨g, s, k, sz, sl, of, gp, lt, ea, d⟩ wk xs).2 = 0
   ·refine At.rowCall (e := 41) (size := 10) 15 [.agg (cfAP g s k sz sl of gp lt ea d), .io .i64 wk, .sl A n cap] (stW xs) (fun A' n' c' => .tup [.agg (cwAP g s k sz sl of gp lt ea d wk A' n' c'), .v (.int .i64 0)]) (by kernel_rfl) (by kernel_rfl) (by kernel_rfl) rfl (fun ρ w1 hm hf => (put_go g s k sz sl of gp lt ea d wk A n cap xs w1 (hS.below hm.below) (by omega)).mono fun e w2 h => by
     unfold putE at h
     rw [if_pos hc1] at h
     obtain ⟨A', c', h1, h2⟩ := h
     exact ⟨A', _, c', h1, h2⟩) (fun A1 nA1 c1 hlA1 => ?_)
    obtain rfl : xs.length = nA1 := by rw [stW_len] at hlA1; omega
    refine At.toJ (Rws.stable) Rws.fewer 0 300 [1, 2, 5, 6, 38, 40, 41] 2 ⟨pops B5 [1, 1, 1, 0] 5, [.seq (sub B5 [1, 1, 1, 1])], [(1, .sl D m dcap), (2, .lp 0 0), (5, .lp 1 0), (6, .v (.int .i64 0)), (38, .agg (cfAP g s k sz sl of gp lt ea d)), (40, .io .i64 wk), (41, .sl D m dcap)], [((cwAP g s k sz sl of gp lt ea d wk A n cap), 28), ((cwAP g s k sz sl of gp lt ea d wk A1 xs.length c1), 28)]⟩ (by kernel_rfl) (by kernel_rfl) ?_
    by_cases hc2 : (chkP ⟨g, s, k, sz, sl, of, gp, lt, ea, d⟩ wk ys).2 = 0
    ·refine At.rowCall (e := 41) (size := 10) 15 [.agg (cfAP g s k sz sl of gp lt ea d), .io .i64 wk, .sl D m dcap] (stW ys) (fun A' n' c' => .tup [.agg (cwAP g s k sz sl of gp lt ea d wk A' n' c'), .v (.int .i64 0)]) (by kernel_rfl) (by kernel_rfl) (by kernel_rfl) rfl (fun ρ w1 hm hf => (put_go g s k sz sl of gp lt ea d wk D m dcap ys w1 (hD.below hm.below) (by omega)).mono fun e w2 h => by
      unfold putE at h
      rw [if_pos hc2] at h
      obtain ⟨A', c', h1, h2⟩ := h
      exact ⟨A', _, c', h1, h2⟩) (fun A2 nA2 c2 hlA2 => ?_)
     obtain rfl : ys.length = nA2 := by rw [stW_len] at hlA2; omega
     refine At.toJ (Rws.stable) Rws.fewer 0 300 [1, 2, 5, 6, 7, 8] 3 ⟨.any (opsOf (sub B5 pAP7)) 16 [], [.seq (sub B5 pAP8)], [(1, .sl D m dcap), (2, .lp 0 0), (5, .lp 1 0), (6, .v (.int .i64 0)), (7, .lp 2 0), (8, .v (.int .i64 0))], [((cwAP g s k sz sl of gp lt ea d wk A n cap), 28), ((cwAP g s k sz sl of gp lt ea d wk A1 xs.length c1), 28), ((cwAP g s k sz sl of gp lt ea d wk A2 ys.length c2), 28)]⟩ (by kernel_rfl) (by kernel_rfl) ?_
     refine At.canon _ rfl ?_
     refine At.canL _ rfl ?_
     refine At.slLoc _ rfl ?_
     exact At.mono (fun ρ w1 h => ⟨h, Or.inl ⟨hc1, hc2, A1, c1, A2, c2, rfl⟩⟩) (rest (⟨⟨g, s, k, sz, sl, of, gp, lt, ea, d⟩, wk, A1, xs.length, c1, ⟨g, s, k, sz, sl, of, gp, lt, ea, d⟩, wk, A2, ys.length, c2, 0, 0, [⟨41, 10, A2, ys.length, c2, stW ys⟩, ⟨41, 10, A1, xs.length, c1, stW xs⟩]⟩ : V5))
    ·refine At.call Rws.stable 15 [.agg (cfAP g s k sz sl of gp lt ea d), .io .i64 wk, .sl D m dcap] (.tup zAP0) (by kernel_rfl) (by kernel_rfl) (by kernel_rfl) (fun ρ a w1 hi hf => (put_go g s k sz sl of gp lt ea d wk D m dcap ys w1 (hD.below hi.mem.below) (by omega)).mono fun e w2 h => by
      unfold putE at h
      rw [if_neg hc2, chk_two hc2] at h
      exact h) ?_
     refine At.toJ (Rws.stable) Rws.fewer 0 300 [1, 2, 5, 6, 7, 8] 3 ⟨.any (opsOf (sub B5 pAP7)) 16 [], [.seq (sub B5 pAP8)], [(1, .sl D m dcap), (2, .lp 0 0), (5, .lp 1 0), (6, .v (.int .i64 0)), (7, .lp 2 0), (8, .v (.int .i64 2))], [((cwAP g s k sz sl of gp lt ea d wk A n cap), 28), ((cwAP g s k sz sl of gp lt ea d wk A1 xs.length c1), 28), (zAP1, 28)]⟩ (by kernel_rfl) (by kernel_rfl) ?_
     refine At.canon _ rfl ?_
     refine At.canL _ rfl ?_
     refine At.slLoc _ rfl ?_
     exact At.mono (fun ρ w1 h => ⟨h, Or.inr ⟨fun h => hc2 h.2, Or.inr (show (2 : Int) ≠ 0 by decide)⟩⟩) (rest (⟨⟨g, s, k, sz, sl, of, gp, lt, ea, d⟩, wk, A1, xs.length, c1, cf0, 0, none, 0, 0, 0, 2, [⟨41, 10, A1, xs.length, c1, stW xs⟩]⟩ : V5))
   ·refine At.call Rws.stable 15 [.agg (cfAP g s k sz sl of gp lt ea d), .io .i64 wk, .sl A n cap] (.tup zAP0) (by kernel_rfl) (by kernel_rfl) (by kernel_rfl) (fun ρ a w1 hi hf => (put_go g s k sz sl of gp lt ea d wk A n cap xs w1 (hS.below hi.mem.below) (by omega)).mono fun e w2 h => by
     unfold putE at h
     rw [if_neg hc1, chk_two hc1] at h
     exact h) ?_
    refine At.toJ (Rws.stable) Rws.fewer 0 300 [1, 2, 5, 6, 38, 40, 41] 2 ⟨pops B5 [1, 1, 1, 0] 5, [.seq (sub B5 [1, 1, 1, 1])], [(1, .sl D m dcap), (2, .lp 0 0), (5, .lp 1 0), (6, .v (.int .i64 2)), (38, .agg (cfAP g s k sz sl of gp lt ea d)), (40, .io .i64 wk), (41, .sl D m dcap)], [((cwAP g s k sz sl of gp lt ea d wk A n cap), 28), (zAP1, 28)]⟩ (by kernel_rfl) (by kernel_rfl) ?_
    by_cases hc2 : (chkP ⟨g, s, k, sz, sl, of, gp, lt, ea, d⟩ wk ys).2 = 0
    ·refine At.rowCall (e := 41) (size := 10) 15 [.agg (cfAP g s k sz sl of gp lt ea d), .io .i64 wk, .sl D m dcap] (stW ys) (fun A' n' c' => .tup [.agg (cwAP g s k sz sl of gp lt ea d wk A' n' c'), .v (.int .i64 0)]) (by kernel_rfl) (by kernel_rfl) (by kernel_rfl) rfl (fun ρ w1 hm hf => (put_go g s k sz sl of gp lt ea d wk D m dcap ys w1 (hD.below hm.below) (by omega)).mono fun e w2 h => by
      unfold putE at h
      rw [if_pos hc2] at h
      obtain ⟨A', c', h1, h2⟩ := h
      exact ⟨A', _, c', h1, h2⟩) (fun A2 nA2 c2 hlA2 => ?_)
     obtain rfl : ys.length = nA2 := by rw [stW_len] at hlA2; omega
     refine At.toJ (Rws.stable) Rws.fewer 0 300 [1, 2, 5, 6, 7, 8] 3 ⟨.any (opsOf (sub B5 pAP7)) 16 [], [.seq (sub B5 pAP8)], [(1, .sl D m dcap), (2, .lp 0 0), (5, .lp 1 0), (6, .v (.int .i64 2)), (7, .lp 2 0), (8, .v (.int .i64 0))], [((cwAP g s k sz sl of gp lt ea d wk A n cap), 28), (zAP1, 28), ((cwAP g s k sz sl of gp lt ea d wk A2 ys.length c2), 28)]⟩ (by kernel_rfl) (by kernel_rfl) ?_
     refine At.canon _ rfl ?_
     refine At.canL _ rfl ?_
     refine At.slLoc _ rfl ?_
     exact At.mono (fun ρ w1 h => ⟨h, Or.inr ⟨fun h => hc1 h.1, Or.inl (show (2 : Int) ≠ 0 by decide)⟩⟩) (rest (⟨cf0, 0, none, 0, 0, ⟨g, s, k, sz, sl, of, gp, lt, ea, d⟩, wk, A2, ys.length, c2, 2, 0, [⟨41, 10, A2, ys.length, c2, stW ys⟩]⟩ : V5))
    ·refine At.call Rws.stable 15 [.agg (cfAP g s k sz sl of gp lt ea d), .io .i64 wk, .sl D m dcap] (.tup zAP0) (by kernel_rfl) (by kernel_rfl) (by kernel_rfl) (fun ρ a w1 hi hf => (put_go g s k sz sl of gp lt ea d wk D m dcap ys w1 (hD.below hi.mem.below) (by omega)).mono fun e w2 h => by
      unfold putE at h
      rw [if_neg hc2, chk_two hc2] at h
      exact h) ?_
     refine At.toJ (Rws.stable) Rws.fewer 0 300 [1, 2, 5, 6, 7, 8] 3 ⟨.any (opsOf (sub B5 pAP7)) 16 [], [.seq (sub B5 pAP8)], [(1, .sl D m dcap), (2, .lp 0 0), (5, .lp 1 0), (6, .v (.int .i64 2)), (7, .lp 2 0), (8, .v (.int .i64 2))], [((cwAP g s k sz sl of gp lt ea d wk A n cap), 28), (zAP1, 28), (zAP1, 28)]⟩ (by kernel_rfl) (by kernel_rfl) ?_
     refine At.canon _ rfl ?_
     refine At.canL _ rfl ?_
     refine At.slLoc _ rfl ?_
     exact At.mono (fun ρ w1 h => ⟨h, Or.inr ⟨fun h => hc1 h.1, Or.inl (show (2 : Int) ≠ 0 by decide)⟩⟩) (rest (⟨cf0, 0, none, 0, 0, cf0, 0, none, 0, 0, 2, 2, []⟩ : V5))
  ·refine At.pure fun hgd => ?_
   refine At.cutN (σ := V6) (fun y => [(5, .lp 1 0), (6, .io .i64 x.e), (7, .lp 2 0), (8, .io .i64 x.f), (9, .lp 3 0), (10, .io .i64 y.e)]) (fun y => [(scB ⟨g, s, k, sz, sl, of, gp, lt, ea, d⟩ wk A n cap, 28), (scB x.c1 x.w1 x.A1 x.n1 x.k1, 28), (scB x.c2 x.w2 x.A2 x.n2 x.k2, 28), (scB y.c y.wk y.A y.n y.k, 28)]) (fun y ρ w1 => Rws w.heap.size y.L ρ w1 ∧ Good6 ⟨g, s, k, sz, sl, of, gp, lt, ea, d⟩ wk xs ys x y) rfl ?_ (fun y => ?_)
   ·refine At.purify0 (fun e a w h => h.1) 20 ?_
    refine At.takeLoadA (fun e a w h => h.1) 5 (.sl A n cap) [6, 8, 9, 10, 11, 12, 14, 15] (by kernel_rfl) (by kernel_rfl) (by kernel_rfl) ?_
    refine At.takeApp2 (fun e a w h => h.1) 1 (.agg (jobL ⟨g, s, k, sz, sl, of, gp, lt, ea, d⟩)) [9, 10, 11, 12, 14, 15] (by kernel_rfl) (by kernel_rfl) 6 8 52 54 26 41 10 88 n m cap dcap A D (stW xs) (stW ys) (by kernel_rfl) ⟨rfl, rfl, rfl, rfl, by kernel_rfl⟩ (by kernel_rfl) (by kernel_rfl) (fun x => by kernel_rfl) (by kernel_rfl) (by rw [stW_len, hlx]) (by rw [stW_len, hly]) (fun e => by rw [hlx, hS.2.1 e]; rfl) (fun e => by rw [hly, hD.2.1 e]; rfl) (stW_one xs) (stW_one ys) (fun ρ w1 hm _ => ⟨fun b hb => (hS.below hm.below).2.2 b hb, fun b hb => (hD.below hm.below).2.2 b hb⟩) (by omega) (by simp only [maxLen]; omega) ?_
    refine At.takeApp2 (fun e a w h => h.1) 3 (.io .i64 wk) [9, 10, 11, 12, 14, 15] (by kernel_rfl) (by kernel_rfl) 6 8 52 54 26 41 10 88 n m cap dcap A D (stW xs) (stW ys) (by kernel_rfl) ⟨rfl, rfl, rfl, rfl, by kernel_rfl⟩ (by kernel_rfl) (by kernel_rfl) (fun x => by kernel_rfl) (by kernel_rfl) (by rw [stW_len, hlx]) (by rw [stW_len, hly]) (fun e => by rw [hlx, hS.2.1 e]; rfl) (fun e => by rw [hly, hD.2.1 e]; rfl) (stW_one xs) (stW_one ys) (fun ρ w1 hm _ => ⟨fun b hb => (hS.below hm.below).2.2 b hb, fun b hb => (hD.below hm.below).2.2 b hb⟩) (by omega) (by simp only [maxLen]; omega) ?_
    refine At.toJ (Rws.stable) Rws.fewer 0 300 [5, 6, 7, 8, 47, 49, 51, 53] 3 ⟨.any (opsOf (sub B5 pAP7)) 9 [3, 1, 5, 7, 4, 2, 0], [], [(5, .lp 1 0), (6, .io .i64 x.e), (7, .lp 2 0), (8, .io .i64 x.f), (47, .agg (cfAP g s k sz sl of gp lt ea d)), (49, .io .i64 wk), (51, .sl A n cap), (53, .sl D m dcap)], [((cwAP g s k sz sl of gp lt ea d wk A n cap), 28), ([.io .i64 x.c1.g, .io .i64 x.c1.s, .io .i64 x.c1.k, .io .i64 x.c1.sz, .io .i64 x.c1.sl, .io .i64 x.c1.of, .io .i64 x.c1.gp, .io .i64 x.c1.lt, .io .i64 x.c1.ea, .bo x.c1.d, .io .i64 x.w1, .sl x.A1 x.n1 x.k1], 28), ([.io .i64 x.c2.g, .io .i64 x.c2.s, .io .i64 x.c2.k, .io .i64 x.c2.sz, .io .i64 x.c2.sl, .io .i64 x.c2.of, .io .i64 x.c2.gp, .io .i64 x.c2.lt, .io .i64 x.c2.ea, .bo x.c2.d, .io .i64 x.w2, .sl x.A2 x.n2 x.k2], 28)]⟩ (by kernel_rfl) (by kernel_rfl) ?_
    refine At.fork [6, 13] rfl (by kernel_rfl) rfl (allOf.cons ?_ (allOf.cons ?_ allOf.nil))
    ·refine At.toJ (Rws.stable) Rws.fewer 0 300 [5, 6, 7, 8, 47, 49, 51, 53] 3 ⟨.ops (opsOf (sub B5 pAP7)) (((opsOf (sub B5 pAP7)).toList.drop 6).take 1), [.any (opsOf (sub B5 pAP7)) 8 [6, 3, 1, 5, 7, 4, 2, 0]], [(5, .lp 1 0), (6, .io .i64 x.e), (7, .lp 2 0), (8, .io .i64 x.f), (47, .agg (cfAP g s k sz sl of gp lt ea d)), (49, .io .i64 wk), (51, .sl A n cap), (53, .sl D m dcap)], [((cwAP g s k sz sl of gp lt ea d wk A n cap), 28), ([.io .i64 x.c1.g, .io .i64 x.c1.s, .io .i64 x.c1.k, .io .i64 x.c1.sz, .io .i64 x.c1.sl, .io .i64 x.c1.of, .io .i64 x.c1.gp, .io .i64 x.c1.lt, .io .i64 x.c1.ea, .bo x.c1.d, .io .i64 x.w1, .sl x.A1 x.n1 x.k1], 28), ([.io .i64 x.c2.g, .io .i64 x.c2.s, .io .i64 x.c2.k, .io .i64 x.c2.sz, .io .i64 x.c2.sl, .io .i64 x.c2.of, .io .i64 x.c2.gp, .io .i64 x.c2.lt, .io .i64 x.c2.ea, .bo x.c2.d, .io .i64 x.w2, .sl x.A2 x.n2 x.k2], 28)]⟩ (by kernel_rfl) (by kernel_rfl) ?_
     refine At.mono (F' := Rws w.heap.size (⟨41, 10, none, 0, 0, []⟩ :: x.L)) (fun ρ w1 h => h.nil _ _) ?_
     refine At.appR 41 10 88 none 0 0 A n cap [] (stW xs) x.L (by kernel_rfl) (by rw [stW_len, hlx]) (stW_one xs) (fun e => by rw [hlx, hS.2.1 e]; rfl) (fun b hb ρ w1 hm _ => (hS.below hm.below).2.2 b hb) (by omega) (by simp only [maxLen]; omega) (fun P1 q1 _ => ?_)
     rw [Nat.zero_add, List.nil_append]
     refine At.toJ (Rws.stable) Rws.fewer 0 300 [5, 6, 7, 8, 47, 49, 52, 53] 3 ⟨.any (opsOf (sub B5 pAP7)) 8 [6, 3, 1, 5, 7, 4, 2, 0], [], [(5, .lp 1 0), (6, .io .i64 x.e), (7, .lp 2 0), (8, .io .i64 x.f), (47, .agg (cfAP g s k sz sl of gp lt ea d)), (49, .io .i64 wk), (52, .sl P1 n q1), (53, .sl D m dcap)], [((cwAP g s k sz sl of gp lt ea d wk A n cap), 28), ([.io .i64 x.c1.g, .io .i64 x.c1.s, .io .i64 x.c1.k, .io .i64 x.c1.sz, .io .i64 x.c1.sl, .io .i64 x.c1.of, .io .i64 x.c1.gp, .io .i64 x.c1.lt, .io .i64 x.c1.ea, .bo x.c1.d, .io .i64 x.w1, .sl x.A1 x.n1 x.k1], 28), ([.io .i64 x.c2.g, .io .i64 x.c2.s, .io .i64 x.c2.k, .io .i64 x.c2.sz, .io .i64 x.c2.sl, .io .i64 x.c2.of, .io .i64 x.c2.gp, .io .i64 x.c2.lt, .io .i64 x.c2.ea, .bo x.c2.d, .io .i64 x.w2, .sl x.A2 x.n2 x.k2], 28)]⟩ (by kernel_rfl) (by kernel_rfl) ?_
     refine At.fork [8, 13] rfl (by kernel_rfl) rfl (allOf.cons ?_ (allOf.cons ?_ allOf.nil))
     ·refine At.toJ (Rws.stable) Rws.fewer 0 300 [5, 6, 7, 8, 47, 49, 52, 53] 3 ⟨.ops (opsOf (sub B5 pAP7)) (((opsOf (sub B5 pAP7)).toList.drop 8).take 1), [.any (opsOf (sub B5 pAP7)) 7 [8, 6, 3, 1, 5, 7, 4, 2, 0]], [(5, .lp 1 0), (6, .io .i64 x.e), (7, .lp 2 0), (8, .io .i64 x.f), (47, .agg (cfAP g s k sz sl of gp lt ea d)), (49, .io .i64 wk), (52, .sl P1 n q1), (53, .sl D m dcap)], [((cwAP g s k sz sl of gp lt ea d wk A n cap), 28), ([.io .i64 x.c1.g, .io .i64 x.c1.s, .io .i64 x.c1.k, .io .i64 x.c1.sz, .io .i64 x.c1.sl, .io .i64 x.c1.of, .io .i64 x.c1.gp, .io .i64 x.c1.lt, .io .i64 x.c1.ea, .bo x.c1.d, .io .i64 x.w1, .sl x.A1 x.n1 x.k1], 28), ([.io .i64 x.c2.g, .io .i64 x.c2.s, .io .i64 x.c2.k, .io .i64 x.c2.sz, .io .i64 x.c2.sl, .io .i64 x.c2.of, .io .i64 x.c2.gp, .io .i64 x.c2.lt, .io .i64 x.c2.ea, .bo x.c2.d, .io .i64 x.w2, .sl x.A2 x.n2 x.k2], 28)]⟩ (by kernel_rfl) (by kernel_rfl) ?_
      refine At.appR 41 10 88 P1 n q1 D m dcap (stW xs) (stW ys) x.L (by kernel_rfl) (by rw [stW_len, hly]) (stW_one ys) (fun e => by rw [hly, hD.2.1 e]; rfl) (fun b hb ρ w1 hm _ => (hD.below hm.below).2.2 b hb) (by omega) (by simp only [maxLen]; omega) (fun P2 q2 _ => ?_)
      rw [stW_cat]
      refine At.toJ (Rws.stable) Rws.fewer 0 300 [5, 6, 7, 8, 47, 49, 54] 3 ⟨.any (opsOf (sub B5 pAP7)) 7 [8, 6, 3, 1, 5, 7, 4, 2, 0], [], [(5, .lp 1 0), (6, .io .i64 x.e), (7, .lp 2 0), (8, .io .i64 x.f), (47, .agg (cfAP g s k sz sl of gp lt ea d)), (49, .io .i64 wk), (54, .sl P2 (n + m) q2)], [((cwAP g s k sz sl of gp lt ea d wk A n cap), 28), ([.io .i64 x.c1.g, .io .i64 x.c1.s, .io .i64 x.c1.k, .io .i64 x.c1.sz, .io .i64 x.c1.sl, .io .i64 x.c1.of, .io .i64 x.c1.gp, .io .i64 x.c1.lt, .io .i64 x.c1.ea, .bo x.c1.d, .io .i64 x.w1, .sl x.A1 x.n1 x.k1], 28), ([.io .i64 x.c2.g, .io .i64 x.c2.s, .io .i64 x.c2.k, .io .i64 x.c2.sz, .io .i64 x.c2.sl, .io .i64 x.c2.of, .io .i64 x.c2.gp, .io .i64 x.c2.lt, .io .i64 x.c2.ea, .bo x.c2.d, .io .i64 x.w2, .sl x.A2 x.n2 x.k2], 28)]⟩ (by kernel_rfl) (by kernel_rfl) ?_
      refine At.fork [9, 13] rfl (by kernel_rfl) rfl (allOf.cons ?_ (allOf.cons ?_ allOf.nil))
      ·refine At.toJ (Rws.stable) Rws.fewer 0 300 [5, 6, 7, 8, 47, 49, 54] 3 ⟨.ops (opsOf (sub B5 pAP7)) (((opsOf (sub B5 pAP7)).toList.drop 9).take 1), [.any (opsOf (sub B5 pAP7)) 6 [9, 8, 6, 3, 1, 5, 7, 4, 2, 0]], [(5, .lp 1 0), (6, .io .i64 x.e), (7, .lp 2 0), (8, .io .i64 x.f), (47, .agg (cfAP g s k sz sl of gp lt ea d)), (49, .io .i64 wk), (54, .sl P2 (n + m) q2)], [((cwAP g s k sz sl of gp lt ea d wk A n cap), 28), ([.io .i64 x.c1.g, .io .i64 x.c1.s, .io .i64 x.c1.k, .io .i64 x.c1.sz, .io .i64 x.c1.sl, .io .i64 x.c1.of, .io .i64 x.c1.gp, .io .i64 x.c1.lt, .io .i64 x.c1.ea, .bo x.c1.d, .io .i64 x.w1, .sl x.A1 x.n1 x.k1], 28), ([.io .i64 x.c2.g, .io .i64 x.c2.s, .io .i64 x.c2.k, .io .i64 x.c2.sz, .io .i64 x.c2.sl, .io .i64 x.c2.of, .io .i64 x.c2.gp, .io .i64 x.c2.lt, .io .i64 x.c2.ea, .bo x.c2.d, .io .i64 x.w2, .sl x.A2 x.n2 x.k2], 28)]⟩ (by kernel_rfl) (by kernel_rfl) ?_
       by_cases hc3 : (chkP ⟨g, s, k, sz, sl, of, gp, lt, ea, d⟩ wk (xs ++ ys)).2 = 0
       ·refine At.rowCall (e := 41) (size := 10) 15 [.agg (cfAP g s k sz sl of gp lt ea d), .io .i64 wk, .sl P2 (n + m) q2] (stW (xs ++ ys)) (fun A' n' c' => .tup [.agg (cwAP g s k sz sl of gp lt ea d wk A' n' c'), .v (.int .i64 0)]) (by kernel_rfl) (by kernel_rfl) (by kernel_rfl) rfl (fun ρ w1 hm hf => (put_go g s k sz sl of gp lt ea d wk P2 (n + m) q2 (xs ++ ys) w1 (rws_sls hf (.head _)) (by omega)).mono fun e w2 h => by
         unfold putE at h
         rw [if_pos hc3] at h
         obtain ⟨A', c', h1, h2⟩ := h
         exact ⟨A', _, c', h1, h2⟩) (fun A3 nA3 c3 hlA3 => ?_)
        obtain rfl : (xs ++ ys).length = nA3 := by rw [stW_len] at hlA3; omega
        refine At.run Rws.stable 0 5 ?_
        refine At.purify0 (fun e a w h => h.1) 20 ?_
        refine At.toJ (Rws.stable) Rws.fewer 0 300 [5, 6, 7, 8, 9, 10] 4 ⟨.exit .normal, [], [(5, .lp 1 0), (6, .io .i64 x.e), (7, .lp 2 0), (8, .io .i64 x.f), (9, .lp 3 0), (10, .v (.int .i64 0))], [((cwAP g s k sz sl of gp lt ea d wk A n cap), 28), ([.io .i64 x.c1.g, .io .i64 x.c1.s, .io .i64 x.c1.k, .io .i64 x.c1.sz, .io .i64 x.c1.sl, .io .i64 x.c1.of, .io .i64 x.c1.gp, .io .i64 x.c1.lt, .io .i64 x.c1.ea, .bo x.c1.d, .io .i64 x.w1, .sl x.A1 x.n1 x.k1], 28), ([.io .i64 x.c2.g, .io .i64 x.c2.s, .io .i64 x.c2.k, .io .i64 x.c2.sz, .io .i64 x.c2.sl, .io .i64 x.c2.of, .io .i64 x.c2.gp, .io .i64 x.c2.lt, .io .i64 x.c2.ea, .bo x.c2.d, .io .i64 x.w2, .sl x.A2 x.n2 x.k2], 28), ([.io .i64 g, .io .i64 s, .io .i64 k, .io .i64 sz, .io .i64 sl, .io .i64 of, .io .i64 gp, .io .i64 lt, .io .i64 ea, .bo d, .io .i64 wk, .sl A3 (xs ++ ys).length c3], 28)]⟩ (by kernel_rfl) (by kernel_rfl) ?_
        refine At.canon _ rfl ?_
        refine At.canL _ rfl ?_
        refine At.slLoc _ rfl ?_
        exact At.fin (⟨⟨g, s, k, sz, sl, of, gp, lt, ea, d⟩, wk, A3, (xs ++ ys).length, c3, 0, ⟨41, 10, A3, (xs ++ ys).length, c3, stW (xs ++ ys)⟩ :: x.L⟩ : V6) rfl rfl (by unfold subFr; kernel_rfl) (by kernel_rfl) (fun ρ a w1 hi h => ⟨h.sub (.cons_cons _ (.cons _ (.refl _))), .inl ⟨hc3, A3, c3, rfl⟩⟩)
       ·refine At.call Rws.stable 15 [.agg (cfAP g s k sz sl of gp lt ea d), .io .i64 wk, .sl P2 (n + m) q2] (.tup zAP0) (by kernel_rfl) (by kernel_rfl) (by kernel_rfl) (fun ρ a w1 hi hf => (put_go g s k sz sl of gp lt ea d wk P2 (n + m) q2 (xs ++ ys) w1 (rws_sls hf (.head _)) (by omega)).mono fun e w2 h => by
         unfold putE at h
         rw [if_neg hc3, chk_two hc3] at h
         exact h) ?_
        refine At.run Rws.stable 0 5 ?_
        refine At.purify0 (fun e a w h => h.1) 20 ?_
        refine At.toJ (Rws.stable) Rws.fewer 0 300 [5, 6, 7, 8, 9, 10] 4 ⟨.exit .normal, [], [(5, .lp 1 0), (6, .io .i64 x.e), (7, .lp 2 0), (8, .io .i64 x.f), (9, .lp 3 0), (10, .v (.int .i64 2))], [((cwAP g s k sz sl of gp lt ea d wk A n cap), 28), ([.io .i64 x.c1.g, .io .i64 x.c1.s, .io .i64 x.c1.k, .io .i64 x.c1.sz, .io .i64 x.c1.sl, .io .i64 x.c1.of, .io .i64 x.c1.gp, .io .i64 x.c1.lt, .io .i64 x.c1.ea, .bo x.c1.d, .io .i64 x.w1, .sl x.A1 x.n1 x.k1], 28), ([.io .i64 x.c2.g, .io .i64 x.c2.s, .io .i64 x.c2.k, .io .i64 x.c2.sz, .io .i64 x.c2.sl, .io .i64 x.c2.of, .io .i64 x.c2.gp, .io .i64 x.c2.lt, .io .i64 x.c2.ea, .bo x.c2.d, .io .i64 x.w2, .sl x.A2 x.n2 x.k2], 28), (zAP1, 28)]⟩ (by kernel_rfl) (by kernel_rfl) ?_
        refine At.canon _ rfl ?_
        refine At.canL _ rfl ?_
        refine At.slLoc _ rfl ?_
        exact At.fin (⟨cf0, 0, none, 0, 0, 2, x.L⟩ : V6) rfl rfl (by unfold subFr; kernel_rfl) (by kernel_rfl) (fun ρ a w1 hi h => ⟨h.sub (.cons _ (.refl _)), .inr ⟨hc3, rfl⟩⟩)
      ·refine At.toJ (Rws.stable) Rws.fewer 0 300 [5, 6, 7, 8, 9, 47, 49, 54] 4 ⟨.ops (opsOf (sub B5 pAP7)) (((opsOf (sub B5 pAP7)).toList.drop 9).take 1), [.any (opsOf (sub B5 pAP7)) 5 [9, 13, 8, 6, 3, 1, 5, 7, 4, 2, 0]], [(5, .lp 1 0), (6, .io .i64 x.e), (7, .lp 2 0), (8, .io .i64 x.f), (9, .lp 3 0), (47, .agg (cfAP g s k sz sl of gp lt ea d)), (49, .io .i64 wk), (54, .sl P2 (n + m) q2)], [((cwAP g s k sz sl of gp lt ea d wk A n cap), 28), ([.io .i64 x.c1.g, .io .i64 x.c1.s, .io .i64 x.c1.k, .io .i64 x.c1.sz, .io .i64 x.c1.sl, .io .i64 x.c1.of, .io .i64 x.c1.gp, .io .i64 x.c1.lt, .io .i64 x.c1.ea, .bo x.c1.d, .io .i64 x.w1, .sl x.A1 x.n1 x.k1], 28), ([.io .i64 x.c2.g, .io .i64 x.c2.s, .io .i64 x.c2.k, .io .i64 x.c2.sz, .io .i64 x.c2.sl, .io .i64 x.c2.of, .io .i64 x.c2.gp, .io .i64 x.c2.lt, .io .i64 x.c2.ea, .bo x.c2.d, .io .i64 x.w2, .sl x.A2 x.n2 x.k2], 28), (zAP1, 28)]⟩ (by kernel_rfl) (by kernel_rfl) ?_
       by_cases hc3 : (chkP ⟨g, s, k, sz, sl, of, gp, lt, ea, d⟩ wk (xs ++ ys)).2 = 0
       ·refine At.rowCall (e := 41) (size := 10) 15 [.agg (cfAP g s k sz sl of gp lt ea d), .io .i64 wk, .sl P2 (n + m) q2] (stW (xs ++ ys)) (fun A' n' c' => .tup [.agg (cwAP g s k sz sl of gp lt ea d wk A' n' c'), .v (.int .i64 0)]) (by kernel_rfl) (by kernel_rfl) (by kernel_rfl) rfl (fun ρ w1 hm hf => (put_go g s k sz sl of gp lt ea d wk P2 (n + m) q2 (xs ++ ys) w1 (rws_sls hf (.head _)) (by omega)).mono fun e w2 h => by
         unfold putE at h
         rw [if_pos hc3] at h
         obtain ⟨A', c', h1, h2⟩ := h
         exact ⟨A', _, c', h1, h2⟩) (fun A3 nA3 c3 hlA3 => ?_)
        obtain rfl : (xs ++ ys).length = nA3 := by rw [stW_len] at hlA3; omega
        refine At.run Rws.stable 0 5 ?_
        refine At.purify0 (fun e a w h => h.1) 20 ?_
        refine At.toJ (Rws.stable) Rws.fewer 0 300 [5, 6, 7, 8, 9, 45] 4 ⟨.any (opsOf (sub B5 pAP7)) 4 [10, 9, 13, 8, 6, 3, 1, 5, 7, 4, 2, 0], [], [(5, .lp 1 0), (6, .io .i64 x.e), (7, .lp 2 0), (8, .io .i64 x.f), (9, .lp 3 0), (45, .tup [.agg [.io .i64 g, .io .i64 s, .io .i64 k, .io .i64 sz, .io .i64 sl, .io .i64 of, .io .i64 gp, .io .i64 lt, .io .i64 ea, .bo d, .io .i64 wk, .sl A3 (xs ++ ys).length c3], .v (.int .i64 0)])], [((cwAP g s k sz sl of gp lt ea d wk A n cap), 28), ([.io .i64 x.c1.g, .io .i64 x.c1.s, .io .i64 x.c1.k, .io .i64 x.c1.sz, .io .i64 x.c1.sl, .io .i64 x.c1.of, .io .i64 x.c1.gp, .io .i64 x.c1.lt, .io .i64 x.c1.ea, .bo x.c1.d, .io .i64 x.w1, .sl x.A1 x.n1 x.k1], 28), ([.io .i64 x.c2.g, .io .i64 x.c2.s, .io .i64 x.c2.k, .io .i64 x.c2.sz, .io .i64 x.c2.sl, .io .i64 x.c2.of, .io .i64 x.c2.gp, .io .i64 x.c2.lt, .io .i64 x.c2.ea, .bo x.c2.d, .io .i64 x.w2, .sl x.A2 x.n2 x.k2], 28), (zAP1, 28)]⟩ (by kernel_rfl) (by kernel_rfl) ?_
        refine At.fork [11, 12] rfl (by kernel_rfl) rfl (allOf.cons ?_ (allOf.cons ?_ allOf.nil))
        ·refine At.toJ (Rws.stable) Rws.fewer 0 300 [5, 6, 7, 8, 9, 45, 56] 4 ⟨.any (opsOf (sub B5 pAP7)) 3 [11, 10, 9, 13, 8, 6, 3, 1, 5, 7, 4, 2, 0], [], [(5, .lp 1 0), (6, .io .i64 x.e), (7, .lp 2 0), (8, .io .i64 x.f), (9, .lp 3 0), (45, .tup [.agg [.io .i64 g, .io .i64 s, .io .i64 k, .io .i64 sz, .io .i64 sl, .io .i64 of, .io .i64 gp, .io .i64 lt, .io .i64 ea, .bo d, .io .i64 wk, .sl A3 (xs ++ ys).length c3], .v (.int .i64 0)]), (56, .agg [.io .i64 g, .io .i64 s, .io .i64 k, .io .i64 sz, .io .i64 sl, .io .i64 of, .io .i64 gp, .io .i64 lt, .io .i64 ea, .bo d, .io .i64 wk, .sl A3 (xs ++ ys).length c3])], [((cwAP g s k sz sl of gp lt ea d wk A n cap), 28), ([.io .i64 x.c1.g, .io .i64 x.c1.s, .io .i64 x.c1.k, .io .i64 x.c1.sz, .io .i64 x.c1.sl, .io .i64 x.c1.of, .io .i64 x.c1.gp, .io .i64 x.c1.lt, .io .i64 x.c1.ea, .bo x.c1.d, .io .i64 x.w1, .sl x.A1 x.n1 x.k1], 28), ([.io .i64 x.c2.g, .io .i64 x.c2.s, .io .i64 x.c2.k, .io .i64 x.c2.sz, .io .i64 x.c2.sl, .io .i64 x.c2.of, .io .i64 x.c2.gp, .io .i64 x.c2.lt, .io .i64 x.c2.ea, .bo x.c2.d, .io .i64 x.w2, .sl x.A2 x.n2 x.k2], 28), (zAP1, 28)]⟩ (by kernel_rfl) (by kernel_rfl) ?_
         refine At.fork [12, 14] rfl (by kernel_rfl) rfl (allOf.cons ?_ (allOf.cons ?_ allOf.nil))
         ·refine At.toJ (Rws.stable) Rws.fewer 0 300 [5, 6, 7, 8, 9, 10] 4 ⟨.exit .normal, [], [(5, .lp 1 0), (6, .io .i64 x.e), (7, .lp 2 0), (8, .io .i64 x.f), (9, .lp 3 0), (10, .v (.int .i64 0))], [((cwAP g s k sz sl of gp lt ea d wk A n cap), 28), ([.io .i64 x.c1.g, .io .i64 x.c1.s, .io .i64 x.c1.k, .io .i64 x.c1.sz, .io .i64 x.c1.sl, .io .i64 x.c1.of, .io .i64 x.c1.gp, .io .i64 x.c1.lt, .io .i64 x.c1.ea, .bo x.c1.d, .io .i64 x.w1, .sl x.A1 x.n1 x.k1], 28), ([.io .i64 x.c2.g, .io .i64 x.c2.s, .io .i64 x.c2.k, .io .i64 x.c2.sz, .io .i64 x.c2.sl, .io .i64 x.c2.of, .io .i64 x.c2.gp, .io .i64 x.c2.lt, .io .i64 x.c2.ea, .bo x.c2.d, .io .i64 x.w2, .sl x.A2 x.n2 x.k2], 28), ([.io .i64 g, .io .i64 s, .io .i64 k, .io .i64 sz, .io .i64 sl, .io .i64 of, .io .i64 gp, .io .i64 lt, .io .i64 ea, .bo d, .io .i64 wk, .sl A3 (xs ++ ys).length c3], 28)]⟩ (by kernel_rfl) (by kernel_rfl) ?_
          refine At.canon _ rfl ?_
          refine At.canL _ rfl ?_
          refine At.slLoc _ rfl ?_
          exact At.fin (⟨⟨g, s, k, sz, sl, of, gp, lt, ea, d⟩, wk, A3, (xs ++ ys).length, c3, 0, ⟨41, 10, A3, (xs ++ ys).length, c3, stW (xs ++ ys)⟩ :: x.L⟩ : V6) rfl rfl (by unfold subFr; kernel_rfl) (by kernel_rfl) (fun ρ a w1 hi h => ⟨h.sub (.cons_cons _ (.cons _ (.refl _))), .inl ⟨hc3, A3, c3, rfl⟩⟩)
         ·refine At.toJ (Rws.stable) Rws.fewer 0 300 [5, 6, 7, 8, 9, 10] 4 ⟨.exit .normal, [], [(5, .lp 1 0), (6, .io .i64 x.e), (7, .lp 2 0), (8, .io .i64 x.f), (9, .lp 3 0), (10, .v (.int .i64 0))], [((cwAP g s k sz sl of gp lt ea d wk A n cap), 28), ([.io .i64 x.c1.g, .io .i64 x.c1.s, .io .i64 x.c1.k, .io .i64 x.c1.sz, .io .i64 x.c1.sl, .io .i64 x.c1.of, .io .i64 x.c1.gp, .io .i64 x.c1.lt, .io .i64 x.c1.ea, .bo x.c1.d, .io .i64 x.w1, .sl x.A1 x.n1 x.k1], 28), ([.io .i64 x.c2.g, .io .i64 x.c2.s, .io .i64 x.c2.k, .io .i64 x.c2.sz, .io .i64 x.c2.sl, .io .i64 x.c2.of, .io .i64 x.c2.gp, .io .i64 x.c2.lt, .io .i64 x.c2.ea, .bo x.c2.d, .io .i64 x.w2, .sl x.A2 x.n2 x.k2], 28), ([.io .i64 g, .io .i64 s, .io .i64 k, .io .i64 sz, .io .i64 sl, .io .i64 of, .io .i64 gp, .io .i64 lt, .io .i64 ea, .bo d, .io .i64 wk, .sl A3 (xs ++ ys).length c3], 28)]⟩ (by kernel_rfl) (by kernel_rfl) ?_
          refine At.canon _ rfl ?_
          refine At.canL _ rfl ?_
          refine At.slLoc _ rfl ?_
          exact At.fin (⟨⟨g, s, k, sz, sl, of, gp, lt, ea, d⟩, wk, A3, (xs ++ ys).length, c3, 0, ⟨41, 10, A3, (xs ++ ys).length, c3, stW (xs ++ ys)⟩ :: x.L⟩ : V6) rfl rfl (by unfold subFr; kernel_rfl) (by kernel_rfl) (fun ρ a w1 hi h => ⟨h.sub (.cons_cons _ (.cons _ (.refl _))), .inl ⟨hc3, A3, c3, rfl⟩⟩)
        ·refine At.toJ (Rws.stable) Rws.fewer 0 300 [5, 6, 7, 8, 9, 10] 4 ⟨.exit .normal, [], [(5, .lp 1 0), (6, .io .i64 x.e), (7, .lp 2 0), (8, .io .i64 x.f), (9, .lp 3 0), (10, .v (.int .i64 0))], [((cwAP g s k sz sl of gp lt ea d wk A n cap), 28), ([.io .i64 x.c1.g, .io .i64 x.c1.s, .io .i64 x.c1.k, .io .i64 x.c1.sz, .io .i64 x.c1.sl, .io .i64 x.c1.of, .io .i64 x.c1.gp, .io .i64 x.c1.lt, .io .i64 x.c1.ea, .bo x.c1.d, .io .i64 x.w1, .sl x.A1 x.n1 x.k1], 28), ([.io .i64 x.c2.g, .io .i64 x.c2.s, .io .i64 x.c2.k, .io .i64 x.c2.sz, .io .i64 x.c2.sl, .io .i64 x.c2.of, .io .i64 x.c2.gp, .io .i64 x.c2.lt, .io .i64 x.c2.ea, .bo x.c2.d, .io .i64 x.w2, .sl x.A2 x.n2 x.k2], 28), ([.io .i64 g, .io .i64 s, .io .i64 k, .io .i64 sz, .io .i64 sl, .io .i64 of, .io .i64 gp, .io .i64 lt, .io .i64 ea, .bo d, .io .i64 wk, .sl A3 (xs ++ ys).length c3], 28)]⟩ (by kernel_rfl) (by kernel_rfl) ?_
         refine At.canon _ rfl ?_
         refine At.canL _ rfl ?_
         refine At.slLoc _ rfl ?_
         exact At.fin (⟨⟨g, s, k, sz, sl, of, gp, lt, ea, d⟩, wk, A3, (xs ++ ys).length, c3, 0, ⟨41, 10, A3, (xs ++ ys).length, c3, stW (xs ++ ys)⟩ :: x.L⟩ : V6) rfl rfl (by unfold subFr; kernel_rfl) (by kernel_rfl) (fun ρ a w1 hi h => ⟨h.sub (.cons_cons _ (.cons _ (.refl _))), .inl ⟨hc3, A3, c3, rfl⟩⟩)
       ·refine At.call Rws.stable 15 [.agg (cfAP g s k sz sl of gp lt ea d), .io .i64 wk, .sl P2 (n + m) q2] (.tup zAP0) (by kernel_rfl) (by kernel_rfl) (by kernel_rfl) (fun ρ a w1 hi hf => (put_go g s k sz sl of gp lt ea d wk P2 (n + m) q2 (xs ++ ys) w1 (rws_sls hf (.head _)) (by omega)).mono fun e w2 h => by
         unfold putE at h
         rw [if_neg hc3, chk_two hc3] at h
         exact h) ?_
        refine At.run Rws.stable 0 5 ?_
        refine At.purify0 (fun e a w h => h.1) 20 ?_
        refine At.toJ (Rws.stable) Rws.fewer 0 300 [5, 6, 7, 8, 9, 45] 4 ⟨.any (opsOf (sub B5 pAP7)) 4 [10, 9, 13, 8, 6, 3, 1, 5, 7, 4, 2, 0], [], [(5, .lp 1 0), (6, .io .i64 x.e), (7, .lp 2 0), (8, .io .i64 x.f), (9, .lp 3 0), (45, .tup zAP0)], [((cwAP g s k sz sl of gp lt ea d wk A n cap), 28), ([.io .i64 x.c1.g, .io .i64 x.c1.s, .io .i64 x.c1.k, .io .i64 x.c1.sz, .io .i64 x.c1.sl, .io .i64 x.c1.of, .io .i64 x.c1.gp, .io .i64 x.c1.lt, .io .i64 x.c1.ea, .bo x.c1.d, .io .i64 x.w1, .sl x.A1 x.n1 x.k1], 28), ([.io .i64 x.c2.g, .io .i64 x.c2.s, .io .i64 x.c2.k, .io .i64 x.c2.sz, .io .i64 x.c2.sl, .io .i64 x.c2.of, .io .i64 x.c2.gp, .io .i64 x.c2.lt, .io .i64 x.c2.ea, .bo x.c2.d, .io .i64 x.w2, .sl x.A2 x.n2 x.k2], 28), (zAP1, 28)]⟩ (by kernel_rfl) (by kernel_rfl) ?_
        refine At.fork [11, 12] rfl (by kernel_rfl) rfl (allOf.cons ?_ (allOf.cons ?_ allOf.nil))
        ·refine At.toJ (Rws.stable) Rws.fewer 0 300 [5, 6, 7, 8, 9, 45, 56] 4 ⟨.any (opsOf (sub B5 pAP7)) 3 [11, 10, 9, 13, 8, 6, 3, 1, 5, 7, 4, 2, 0], [], [(5, .lp 1 0), (6, .io .i64 x.e), (7, .lp 2 0), (8, .io .i64 x.f), (9, .lp 3 0), (45, .tup zAP0), (56, .agg zAP1)], [((cwAP g s k sz sl of gp lt ea d wk A n cap), 28), ([.io .i64 x.c1.g, .io .i64 x.c1.s, .io .i64 x.c1.k, .io .i64 x.c1.sz, .io .i64 x.c1.sl, .io .i64 x.c1.of, .io .i64 x.c1.gp, .io .i64 x.c1.lt, .io .i64 x.c1.ea, .bo x.c1.d, .io .i64 x.w1, .sl x.A1 x.n1 x.k1], 28), ([.io .i64 x.c2.g, .io .i64 x.c2.s, .io .i64 x.c2.k, .io .i64 x.c2.sz, .io .i64 x.c2.sl, .io .i64 x.c2.of, .io .i64 x.c2.gp, .io .i64 x.c2.lt, .io .i64 x.c2.ea, .bo x.c2.d, .io .i64 x.w2, .sl x.A2 x.n2 x.k2], 28), (zAP1, 28)]⟩ (by kernel_rfl) (by kernel_rfl) ?_
         refine At.fork [12, 14] rfl (by kernel_rfl) rfl (allOf.cons ?_ (allOf.cons ?_ allOf.nil))
         ·refine At.toJ (Rws.stable) Rws.fewer 0 300 [5, 6, 7, 8, 9, 10] 4 ⟨.exit .normal, [], [(5, .lp 1 0), (6, .io .i64 x.e), (7, .lp 2 0), (8, .io .i64 x.f), (9, .lp 3 0), (10, .v (.int .i64 2))], [((cwAP g s k sz sl of gp lt ea d wk A n cap), 28), ([.io .i64 x.c1.g, .io .i64 x.c1.s, .io .i64 x.c1.k, .io .i64 x.c1.sz, .io .i64 x.c1.sl, .io .i64 x.c1.of, .io .i64 x.c1.gp, .io .i64 x.c1.lt, .io .i64 x.c1.ea, .bo x.c1.d, .io .i64 x.w1, .sl x.A1 x.n1 x.k1], 28), ([.io .i64 x.c2.g, .io .i64 x.c2.s, .io .i64 x.c2.k, .io .i64 x.c2.sz, .io .i64 x.c2.sl, .io .i64 x.c2.of, .io .i64 x.c2.gp, .io .i64 x.c2.lt, .io .i64 x.c2.ea, .bo x.c2.d, .io .i64 x.w2, .sl x.A2 x.n2 x.k2], 28), (zAP1, 28)]⟩ (by kernel_rfl) (by kernel_rfl) ?_
          refine At.canon _ rfl ?_
          refine At.canL _ rfl ?_
          refine At.slLoc _ rfl ?_
          exact At.fin (⟨cf0, 0, none, 0, 0, 2, x.L⟩ : V6) rfl rfl (by unfold subFr; kernel_rfl) (by kernel_rfl) (fun ρ a w1 hi h => ⟨h.sub (.cons _ (.refl _)), .inr ⟨hc3, rfl⟩⟩)
         ·refine At.toJ (Rws.stable) Rws.fewer 0 300 [5, 6, 7, 8, 9, 10] 4 ⟨.exit .normal, [], [(5, .lp 1 0), (6, .io .i64 x.e), (7, .lp 2 0), (8, .io .i64 x.f), (9, .lp 3 0), (10, .v (.int .i64 2))], [((cwAP g s k sz sl of gp lt ea d wk A n cap), 28), ([.io .i64 x.c1.g, .io .i64 x.c1.s, .io .i64 x.c1.k, .io .i64 x.c1.sz, .io .i64 x.c1.sl, .io .i64 x.c1.of, .io .i64 x.c1.gp, .io .i64 x.c1.lt, .io .i64 x.c1.ea, .bo x.c1.d, .io .i64 x.w1, .sl x.A1 x.n1 x.k1], 28), ([.io .i64 x.c2.g, .io .i64 x.c2.s, .io .i64 x.c2.k, .io .i64 x.c2.sz, .io .i64 x.c2.sl, .io .i64 x.c2.of, .io .i64 x.c2.gp, .io .i64 x.c2.lt, .io .i64 x.c2.ea, .bo x.c2.d, .io .i64 x.w2, .sl x.A2 x.n2 x.k2], 28), (zAP1, 28)]⟩ (by kernel_rfl) (by kernel_rfl) ?_
          refine At.canon _ rfl ?_
          refine At.canL _ rfl ?_
          refine At.slLoc _ rfl ?_
          exact At.fin (⟨cf0, 0, none, 0, 0, 2, x.L⟩ : V6) rfl rfl (by unfold subFr; kernel_rfl) (by kernel_rfl) (fun ρ a w1 hi h => ⟨h.sub (.cons _ (.refl _)), .inr ⟨hc3, rfl⟩⟩)
        ·refine At.toJ (Rws.stable) Rws.fewer 0 300 [5, 6, 7, 8, 9, 10] 4 ⟨.exit .normal, [], [(5, .lp 1 0), (6, .io .i64 x.e), (7, .lp 2 0), (8, .io .i64 x.f), (9, .lp 3 0), (10, .v (.int .i64 2))], [((cwAP g s k sz sl of gp lt ea d wk A n cap), 28), ([.io .i64 x.c1.g, .io .i64 x.c1.s, .io .i64 x.c1.k, .io .i64 x.c1.sz, .io .i64 x.c1.sl, .io .i64 x.c1.of, .io .i64 x.c1.gp, .io .i64 x.c1.lt, .io .i64 x.c1.ea, .bo x.c1.d, .io .i64 x.w1, .sl x.A1 x.n1 x.k1], 28), ([.io .i64 x.c2.g, .io .i64 x.c2.s, .io .i64 x.c2.k, .io .i64 x.c2.sz, .io .i64 x.c2.sl, .io .i64 x.c2.of, .io .i64 x.c2.gp, .io .i64 x.c2.lt, .io .i64 x.c2.ea, .bo x.c2.d, .io .i64 x.w2, .sl x.A2 x.n2 x.k2], 28), (zAP1, 28)]⟩ (by kernel_rfl) (by kernel_rfl) ?_
         refine At.canon _ rfl ?_
         refine At.canL _ rfl ?_
         refine At.slLoc _ rfl ?_
         exact At.fin (⟨cf0, 0, none, 0, 0, 2, x.L⟩ : V6) rfl rfl (by unfold subFr; kernel_rfl) (by kernel_rfl) (fun ρ a w1 hi h => ⟨h.sub (.cons _ (.refl _)), .inr ⟨hc3, rfl⟩⟩)
     ·refine At.toJ (Rws.stable) Rws.fewer 0 300 [5, 6, 7, 8, 9, 47, 49, 52, 53] 4 ⟨.ops (opsOf (sub B5 pAP7)) (((opsOf (sub B5 pAP7)).toList.drop 8).take 1), [.any (opsOf (sub B5 pAP7)) 6 [8, 13, 6, 3, 1, 5, 7, 4, 2, 0]], [(5, .lp 1 0), (6, .io .i64 x.e), (7, .lp 2 0), (8, .io .i64 x.f), (9, .lp 3 0), (47, .agg (cfAP g s k sz sl of gp lt ea d)), (49, .io .i64 wk), (52, .sl P1 n q1), (53, .sl D m dcap)], [((cwAP g s k sz sl of gp lt ea d wk A n cap), 28), ([.io .i64 x.c1.g, .io .i64 x.c1.s, .io .i64 x.c1.k, .io .i64 x.c1.sz, .io .i64 x.c1.sl, .io .i64 x.c1.of, .io .i64 x.c1.gp, .io .i64 x.c1.lt, .io .i64 x.c1.ea, .bo x.c1.d, .io .i64 x.w1, .sl x.A1 x.n1 x.k1], 28), ([.io .i64 x.c2.g, .io .i64 x.c2.s, .io .i64 x.c2.k, .io .i64 x.c2.sz, .io .i64 x.c2.sl, .io .i64 x.c2.of, .io .i64 x.c2.gp, .io .i64 x.c2.lt, .io .i64 x.c2.ea, .bo x.c2.d, .io .i64 x.w2, .sl x.A2 x.n2 x.k2], 28), (zAP1, 28)]⟩ (by kernel_rfl) (by kernel_rfl) ?_
      refine At.appR 41 10 88 P1 n q1 D m dcap (stW xs) (stW ys) x.L (by kernel_rfl) (by rw [stW_len, hly]) (stW_one ys) (fun e => by rw [hly, hD.2.1 e]; rfl) (fun b hb ρ w1 hm _ => (hD.below hm.below).2.2 b hb) (by omega) (by simp only [maxLen]; omega) (fun P2 q2 _ => ?_)
      rw [stW_cat]
      refine At.toJ (Rws.stable) Rws.fewer 0 300 [5, 6, 7, 8, 9, 47, 49, 54] 4 ⟨.ops (opsOf (sub B5 pAP7)) (((opsOf (sub B5 pAP7)).toList.drop 9).take 1), [.any (opsOf (sub B5 pAP7)) 5 [9, 8, 13, 6, 3, 1, 5, 7, 4, 2, 0]], [(5, .lp 1 0), (6, .io .i64 x.e), (7, .lp 2 0), (8, .io .i64 x.f), (9, .lp 3 0), (47, .agg (cfAP g s k sz sl of gp lt ea d)), (49, .io .i64 wk), (54, .sl P2 (n + m) q2)], [((cwAP g s k sz sl of gp lt ea d wk A n cap), 28), ([.io .i64 x.c1.g, .io .i64 x.c1.s, .io .i64 x.c1.k, .io .i64 x.c1.sz, .io .i64 x.c1.sl, .io .i64 x.c1.of, .io .i64 x.c1.gp, .io .i64 x.c1.lt, .io .i64 x.c1.ea, .bo x.c1.d, .io .i64 x.w1, .sl x.A1 x.n1 x.k1], 28), ([.io .i64 x.c2.g, .io .i64 x.c2.s, .io .i64 x.c2.k, .io .i64 x.c2.sz, .io .i64 x.c2.sl, .io .i64 x.c2.of, .io .i64 x.c2.gp, .io .i64 x.c2.lt, .io .i64 x.c2.ea, .bo x.c2.d, .io .i64 x.w2, .sl x.A2 x.n2 x.k2], 28), (zAP1, 28)]⟩ (by kernel_rfl) (by kernel_rfl) ?_
      by_cases hc3 : (chkP ⟨g, s, k, sz, sl, of, gp, lt, ea, d⟩ wk (xs ++ ys)).2 = 0
      ·refine At.rowCall (e := 41) (size := 10) 15 [.agg (cfAP g s k sz sl of gp lt ea d), .io .i64 wk, .sl P2 (n + m) q2] (stW (xs ++ ys)) (fun A' n' c' => .tup [.agg (cwAP g s k sz sl of gp lt ea d wk A' n' c'), .v (.int .i64 0)]) (by kernel_rfl) (by kernel_rfl) (by kernel_rfl) rfl (fun ρ w1 hm hf => (put_go g s k sz sl of gp lt ea d wk P2 (n + m) q2 (xs ++ ys) w1 (rws_sls hf (.head _)) (by omega)).mono fun e w2 h => by
        unfold putE at h
        rw [if_pos hc3] at h
        obtain ⟨A', c', h1, h2⟩ := h
        exact ⟨A', _, c', h1, h2⟩) (fun A3 nA3 c3 hlA3 => ?_)
       obtain rfl : (xs ++ ys).length = nA3 := by rw [stW_len] at hlA3; omega
       refine At.run Rws.stable 0 5 ?_
       refine At.purify0 (fun e a w h => h.1) 20 ?_
       refine At.toJ (Rws.stable) Rws.fewer 0 300 [5, 6, 7, 8, 9, 45] 4 ⟨.any (opsOf (sub B5 pAP7)) 4 [10, 9, 8, 13, 6, 3, 1, 5, 7, 4, 2, 0], [], [(5, .lp 1 0), (6, .io .i64 x.e), (7, .lp 2 0), (8, .io .i64 x.f), (9, .lp 3 0), (45, .tup [.agg [.io .i64 g, .io .i64 s, .io .i64 k, .io .i64 sz, .io .i64 sl, .io .i64 of, .io .i64 gp, .io .i64 lt, .io .i64 ea, .bo d, .io .i64 wk, .sl A3 (xs ++ ys).length c3], .v (.int .i64 0)])], [((cwAP g s k sz sl of gp lt ea d wk A n cap), 28), ([.io .i64 x.c1.g, .io .i64 x.c1.s, .io .i64 x.c1.k, .io .i64 x.c1.sz, .io .i64 x.c1.sl, .io .i64 x.c1.of, .io .i64 x.c1.gp, .io .i64 x.c1.lt, .io .i64 x.c1.ea, .bo x.c1.d, .io .i64 x.w1, .sl x.A1 x.n1 x.k1], 28), ([.io .i64 x.c2.g, .io .i64 x.c2.s, .io .i64 x.c2.k, .io .i64 x.c2.sz, .io .i64 x.c2.sl, .io .i64 x.c2.of, .io .i64 x.c2.gp, .io .i64 x.c2.lt, .io .i64 x.c2.ea, .bo x.c2.d, .io .i64 x.w2, .sl x.A2 x.n2 x.k2], 28), (zAP1, 28)]⟩ (by kernel_rfl) (by kernel_rfl) ?_
       refine At.fork [11, 12] rfl (by kernel_rfl) rfl (allOf.cons ?_ (allOf.cons ?_ allOf.nil))
       ·refine At.toJ (Rws.stable) Rws.fewer 0 300 [5, 6, 7, 8, 9, 45, 56] 4 ⟨.any (opsOf (sub B5 pAP7)) 3 [11, 10, 9, 8, 13, 6, 3, 1, 5, 7, 4, 2, 0], [], [(5, .lp 1 0), (6, .io .i64 x.e), (7, .lp 2 0), (8, .io .i64 x.f), (9, .lp 3 0), (45, .tup [.agg [.io .i64 g, .io .i64 s, .io .i64 k, .io .i64 sz, .io .i64 sl, .io .i64 of, .io .i64 gp, .io .i64 lt, .io .i64 ea, .bo d, .io .i64 wk, .sl A3 (xs ++ ys).length c3], .v (.int .i64 0)]), (56, .agg [.io .i64 g, .io .i64 s, .io .i64 k, .io .i64 sz, .io .i64 sl, .io .i64 of, .io .i64 gp, .io .i64 lt, .io .i64 ea, .bo d, .io .i64 wk, .sl A3 (xs ++ ys).length c3])], [((cwAP g s k sz sl of gp lt ea d wk A n cap), 28), ([.io .i64 x.c1.g, .io .i64 x.c1.s, .io .i64 x.c1.k, .io .i64 x.c1.sz, .io .i64 x.c1.sl, .io .i64 x.c1.of, .io .i64 x.c1.gp, .io .i64 x.c1.lt, .io .i64 x.c1.ea, .bo x.c1.d, .io .i64 x.w1, .sl x.A1 x.n1 x.k1], 28), ([.io .i64 x.c2.g, .io .i64 x.c2.s, .io .i64 x.c2.k, .io .i64 x.c2.sz, .io .i64 x.c2.sl, .io .i64 x.c2.of, .io .i64 x.c2.gp, .io .i64 x.c2.lt, .io .i64 x.c2.ea, .bo x.c2.d, .io .i64 x.w2, .sl x.A2 x.n2 x.k2], 28), (zAP1, 28)]⟩ (by kernel_rfl) (by kernel_rfl) ?_
        refine At.fork [12, 14] rfl (by kernel_rfl) rfl (allOf.cons ?_ (allOf.cons ?_ allOf.nil))
        ·refine At.toJ (Rws.stable) Rws.fewer 0 300 [5, 6, 7, 8, 9, 10] 4 ⟨.exit .normal, [], [(5, .lp 1 0), (6, .io .i64 x.e), (7, .lp 2 0), (8, .io .i64 x.f), (9, .lp 3 0), (10, .v (.int .i64 0))], [((cwAP g s k sz sl of gp lt ea d wk A n cap), 28), ([.io .i64 x.c1.g, .io .i64 x.c1.s, .io .i64 x.c1.k, .io .i64 x.c1.sz, .io .i64 x.c1.sl, .io .i64 x.c1.of, .io .i64 x.c1.gp, .io .i64 x.c1.lt, .io .i64 x.c1.ea, .bo x.c1.d, .io .i64 x.w1, .sl x.A1 x.n1 x.k1], 28), ([.io .i64 x.c2.g, .io .i64 x.c2.s, .io .i64 x.c2.k, .io .i64 x.c2.sz, .io .i64 x.c2.sl, .io .i64 x.c2.of, .io .i64 x.c2.gp, .io .i64 x.c2.lt, .io .i64 x.c2.ea, .bo x.c2.d, .io .i64 x.w2, .sl x.A2 x.n2 x.k2], 28), ([.io .i64 g, .io .i64 s, .io .i64 k, .io .i64 sz, .io .i64 sl, .io .i64 of, .io .i64 gp, .io .i64 lt, .io .i64 ea, .bo d, .io .i64 wk, .sl A3 (xs ++ ys).length c3], 28)]⟩ (by kernel_rfl) (by kernel_rfl) ?_
         refine At.canon _ rfl ?_
         refine At.canL _ rfl ?_
         refine At.slLoc _ rfl ?_
         exact At.fin (⟨⟨g, s, k, sz, sl, of, gp, lt, ea, d⟩, wk, A3, (xs ++ ys).length, c3, 0, ⟨41, 10, A3, (xs ++ ys).length, c3, stW (xs ++ ys)⟩ :: x.L⟩ : V6) rfl rfl (by unfold subFr; kernel_rfl) (by kernel_rfl) (fun ρ a w1 hi h => ⟨h.sub (.cons_cons _ (.cons _ (.refl _))), .inl ⟨hc3, A3, c3, rfl⟩⟩)
        ·refine At.toJ (Rws.stable) Rws.fewer 0 300 [5, 6, 7, 8, 9, 10] 4 ⟨.exit .normal, [], [(5, .lp 1 0), (6, .io .i64 x.e), (7, .lp 2 0), (8, .io .i64 x.f), (9, .lp 3 0), (10, .v (.int .i64 0))], [((cwAP g s k sz sl of gp lt ea d wk A n cap), 28), ([.io .i64 x.c1.g, .io .i64 x.c1.s, .io .i64 x.c1.k, .io .i64 x.c1.sz, .io .i64 x.c1.sl, .io .i64 x.c1.of, .io .i64 x.c1.gp, .io .i64 x.c1.lt, .io .i64 x.c1.ea, .bo x.c1.d, .io .i64 x.w1, .sl x.A1 x.n1 x.k1], 28), ([.io .i64 x.c2.g, .io .i64 x.c2.s, .io .i64 x.c2.k, .io .i64 x.c2.sz, .io .i64 x.c2.sl, .io .i64 x.c2.of, .io .i64 x.c2.gp, .io .i64 x.c2.lt, .io .i64 x.c2.ea, .bo x.c2.d, .io .i64 x.w2, .sl x.A2 x.n2 x.k2], 28), ([.io .i64 g, .io .i64 s, .io .i64 k, .io .i64 sz, .io .i64 sl, .io .i64 of, .io .i64 gp, .io .i64 lt, .io .i64 ea, .bo d, .io .i64 wk, .sl A3 (xs ++ ys).length c3], 28)]⟩ (by kernel_rfl) (by kernel_rfl) ?_
         refine At.canon _ rfl ?_
         refine At.canL _ rfl ?_
         refine At.slLoc _ rfl ?_
         exact At.fin (⟨⟨g, s, k, sz, sl, of, gp, lt, ea, d⟩, wk, A3, (xs ++ ys).length, c3, 0, ⟨41, 10, A3, (xs ++ ys).length, c3, stW (xs ++ ys)⟩ :: x.L⟩ : V6) rfl rfl (by unfold subFr; kernel_rfl) (by kernel_rfl) (fun ρ a w1 hi h => ⟨h.sub (.cons_cons _ (.cons _ (.refl _))), .inl ⟨hc3, A3, c3, rfl⟩⟩)
       ·refine At.toJ (Rws.stable) Rws.fewer 0 300 [5, 6, 7, 8, 9, 10] 4 ⟨.exit .normal, [], [(5, .lp 1 0), (6, .io .i64 x.e), (7, .lp 2 0), (8, .io .i64 x.f), (9, .lp 3 0), (10, .v (.int .i64 0))], [((cwAP g s k sz sl of gp lt ea d wk A n cap), 28), ([.io .i64 x.c1.g, .io .i64 x.c1.s, .io .i64 x.c1.k, .io .i64 x.c1.sz, .io .i64 x.c1.sl, .io .i64 x.c1.of, .io .i64 x.c1.gp, .io .i64 x.c1.lt, .io .i64 x.c1.ea, .bo x.c1.d, .io .i64 x.w1, .sl x.A1 x.n1 x.k1], 28), ([.io .i64 x.c2.g, .io .i64 x.c2.s, .io .i64 x.c2.k, .io .i64 x.c2.sz, .io .i64 x.c2.sl, .io .i64 x.c2.of, .io .i64 x.c2.gp, .io .i64 x.c2.lt, .io .i64 x.c2.ea, .bo x.c2.d, .io .i64 x.w2, .sl x.A2 x.n2 x.k2], 28), ([.io .i64 g, .io .i64 s, .io .i64 k, .io .i64 sz, .io .i64 sl, .io .i64 of, .io .i64 gp, .io .i64 lt, .io .i64 ea, .bo d, .io .i64 wk, .sl A3 (xs ++ ys).length c3], 28)]⟩ (by kernel_rfl) (by kernel_rfl) ?_
        refine At.canon _ rfl ?_
        refine At.canL _ rfl ?_
        refine At.slLoc _ rfl ?_
        exact At.fin (⟨⟨g, s, k, sz, sl, of, gp, lt, ea, d⟩, wk, A3, (xs ++ ys).length, c3, 0, ⟨41, 10, A3, (xs ++ ys).length, c3, stW (xs ++ ys)⟩ :: x.L⟩ : V6) rfl rfl (by unfold subFr; kernel_rfl) (by kernel_rfl) (fun ρ a w1 hi h => ⟨h.sub (.cons_cons _ (.cons _ (.refl _))), .inl ⟨hc3, A3, c3, rfl⟩⟩)
      ·refine At.call Rws.stable 15 [.agg (cfAP g s k sz sl of gp lt ea d), .io .i64 wk, .sl P2 (n + m) q2] (.tup zAP0) (by kernel_rfl) (by kernel_rfl) (by kernel_rfl) (fun ρ a w1 hi hf => (put_go g s k sz sl of gp lt ea d wk P2 (n + m) q2 (xs ++ ys) w1 (rws_sls hf (.head _)) (by omega)).mono fun e w2 h => by
        unfold putE at h
        rw [if_neg hc3, chk_two hc3] at h
        exact h) ?_
       refine At.run Rws.stable 0 5 ?_
       refine At.purify0 (fun e a w h => h.1) 20 ?_
       refine At.toJ (Rws.stable) Rws.fewer 0 300 [5, 6, 7, 8, 9, 45] 4 ⟨.any (opsOf (sub B5 pAP7)) 4 [10, 9, 8, 13, 6, 3, 1, 5, 7, 4, 2, 0], [], [(5, .lp 1 0), (6, .io .i64 x.e), (7, .lp 2 0), (8, .io .i64 x.f), (9, .lp 3 0), (45, .tup zAP0)], [((cwAP g s k sz sl of gp lt ea d wk A n cap), 28), ([.io .i64 x.c1.g, .io .i64 x.c1.s, .io .i64 x.c1.k, .io .i64 x.c1.sz, .io .i64 x.c1.sl, .io .i64 x.c1.of, .io .i64 x.c1.gp, .io .i64 x.c1.lt, .io .i64 x.c1.ea, .bo x.c1.d, .io .i64 x.w1, .sl x.A1 x.n1 x.k1], 28), ([.io .i64 x.c2.g, .io .i64 x.c2.s, .io .i64 x.c2.k, .io .i64 x.c2.sz, .io .i64 x.c2.sl, .io .i64 x.c2.of, .io .i64 x.c2.gp, .io .i64 x.c2.lt, .io .i64 x.c2.ea, .bo x.c2.d, .io .i64 x.w2, .sl x.A2 x.n2 x.k2], 28), (zAP1, 28)]⟩ (by kernel_rfl) (by kernel_rfl) ?_
       refine At.fork [11, 12] rfl (by kernel_rfl) rfl (allOf.cons ?_ (allOf.cons ?_ allOf.nil))
       ·refine At.toJ (Rws.stable) Rws.fewer 0 300 [5, 6, 7, 8, 9, 45, 56] 4 ⟨.any (opsOf (sub B5 pAP7)) 3 [11, 10, 9, 8, 13, 6, 3, 1, 5, 7, 4, 2, 0], [], [(5, .lp 1 0), (6, .io .i64 x.e), (7, .lp 2 0), (8, .io .i64 x.f), (9, .lp 3 0), (45, .tup zAP0), (56, .agg zAP1)], [((cwAP g s k sz sl of gp lt ea d wk A n cap), 28), ([.io .i64 x.c1.g, .io .i64 x.c1.s, .io .i64 x.c1.k, .io .i64 x.c1.sz, .io .i64 x.c1.sl, .io .i64 x.c1.of, .io .i64 x.c1.gp, .io .i64 x.c1.lt, .io .i64 x.c1.ea, .bo x.c1.d, .io .i64 x.w1, .sl x.A1 x.n1 x.k1], 28), ([.io .i64 x.c2.g, .io .i64 x.c2.s, .io .i64 x.c2.k, .io .i64 x.c2.sz, .io .i64 x.c2.sl, .io .i64 x.c2.of, .io .i64 x.c2.gp, .io .i64 x.c2.lt, .io .i64 x.c2.ea, .bo x.c2.d, .io .i64 x.w2, .sl x.A2 x.n2 x.k2], 28), (zAP1, 28)]⟩ (by kernel_rfl) (by kernel_rfl) ?_
        refine At.fork [12, 14] rfl (by kernel_rfl) rfl (allOf.cons ?_ (allOf.cons ?_ allOf.nil))
        ·refine At.toJ (Rws.stable) Rws.fewer 0 300 [5, 6, 7, 8, 9, 10] 4 ⟨.exit .normal, [], [(5, .lp 1 0), (6, .io .i64 x.e), (7, .lp 2 0), (8, .io .i64 x.f), (9, .lp 3 0), (10, .v (.int .i64 2))], [((cwAP g s k sz sl of gp lt ea d wk A n cap), 28), ([.io .i64 x.c1.g, .io .i64 x.c1.s, .io .i64 x.c1.k, .io .i64 x.c1.sz, .io .i64 x.c1.sl, .io .i64 x.c1.of, .io .i64 x.c1.gp, .io .i64 x.c1.lt, .io .i64 x.c1.ea, .bo x.c1.d, .io .i64 x.w1, .sl x.A1 x.n1 x.k1], 28), ([.io .i64 x.c2.g, .io .i64 x.c2.s, .io .i64 x.c2.k, .io .i64 x.c2.sz, .io .i64 x.c2.sl, .io .i64 x.c2.of, .io .i64 x.c2.gp, .io .i64 x.c2.lt, .io .i64 x.c2.ea, .bo x.c2.d, .io .i64 x.w2, .sl x.A2 x.n2 x.k2], 28), (zAP1, 28)]⟩ (by kernel_rfl) (by kernel_rfl) ?_
         refine At.canon _ rfl ?_
         refine At.canL _ rfl ?_
         refine At.slLoc _ rfl ?_
         exact At.fin (⟨cf0, 0, none, 0, 0, 2, x.L⟩ : V6) rfl rfl (by unfold subFr; kernel_rfl) (by kernel_rfl) (fun ρ a w1 hi h => ⟨h.sub (.cons _ (.refl _)), .inr ⟨hc3, rfl⟩⟩)
        ·refine At.toJ (Rws.stable) Rws.fewer 0 300 [5, 6, 7, 8, 9, 10] 4 ⟨.exit .normal, [], [(5, .lp 1 0), (6, .io .i64 x.e), (7, .lp 2 0), (8, .io .i64 x.f), (9, .lp 3 0), (10, .v (.int .i64 2))], [((cwAP g s k sz sl of gp lt ea d wk A n cap), 28), ([.io .i64 x.c1.g, .io .i64 x.c1.s, .io .i64 x.c1.k, .io .i64 x.c1.sz, .io .i64 x.c1.sl, .io .i64 x.c1.of, .io .i64 x.c1.gp, .io .i64 x.c1.lt, .io .i64 x.c1.ea, .bo x.c1.d, .io .i64 x.w1, .sl x.A1 x.n1 x.k1], 28), ([.io .i64 x.c2.g, .io .i64 x.c2.s, .io .i64 x.c2.k, .io .i64 x.c2.sz, .io .i64 x.c2.sl, .io .i64 x.c2.of, .io .i64 x.c2.gp, .io .i64 x.c2.lt, .io .i64 x.c2.ea, .bo x.c2.d, .io .i64 x.w2, .sl x.A2 x.n2 x.k2], 28), (zAP1, 28)]⟩ (by kernel_rfl) (by kernel_rfl) ?_
         refine At.canon _ rfl ?_
         refine At.canL _ rfl ?_
         refine At.slLoc _ rfl ?_
         exact At.fin (⟨cf0, 0, none, 0, 0, 2, x.L⟩ : V6) rfl rfl (by unfold subFr; kernel_rfl) (by kernel_rfl) (fun ρ a w1 hi h => ⟨h.sub (.cons _ (.refl _)), .inr ⟨hc3, rfl⟩⟩)
       ·refine At.toJ (Rws.stable) Rws.fewer 0 300 [5, 6, 7, 8, 9, 10] 4 ⟨.exit .normal, [], [(5, .lp 1 0), (6, .io .i64 x.e), (7, .lp 2 0), (8, .io .i64 x.f), (9, .lp 3 0), (10, .v (.int .i64 2))], [((cwAP g s k sz sl of gp lt ea d wk A n cap), 28), ([.io .i64 x.c1.g, .io .i64 x.c1.s, .io .i64 x.c1.k, .io .i64 x.c1.sz, .io .i64 x.c1.sl, .io .i64 x.c1.of, .io .i64 x.c1.gp, .io .i64 x.c1.lt, .io .i64 x.c1.ea, .bo x.c1.d, .io .i64 x.w1, .sl x.A1 x.n1 x.k1], 28), ([.io .i64 x.c2.g, .io .i64 x.c2.s, .io .i64 x.c2.k, .io .i64 x.c2.sz, .io .i64 x.c2.sl, .io .i64 x.c2.of, .io .i64 x.c2.gp, .io .i64 x.c2.lt, .io .i64 x.c2.ea, .bo x.c2.d, .io .i64 x.w2, .sl x.A2 x.n2 x.k2], 28), (zAP1, 28)]⟩ (by kernel_rfl) (by kernel_rfl) ?_
        refine At.canon _ rfl ?_
        refine At.canL _ rfl ?_
        refine At.slLoc _ rfl ?_
        exact At.fin (⟨cf0, 0, none, 0, 0, 2, x.L⟩ : V6) rfl rfl (by unfold subFr; kernel_rfl) (by kernel_rfl) (fun ρ a w1 hi h => ⟨h.sub (.cons _ (.refl _)), .inr ⟨hc3, rfl⟩⟩)
    ·refine At.toJ (Rws.stable) Rws.fewer 0 300 [5, 6, 7, 8, 9, 47, 49, 51, 53] 4 ⟨.ops (opsOf (sub B5 pAP7)) (((opsOf (sub B5 pAP7)).toList.drop 6).take 1), [.any (opsOf (sub B5 pAP7)) 7 [6, 13, 3, 1, 5, 7, 4, 2, 0]], [(5, .lp 1 0), (6, .io .i64 x.e), (7, .lp 2 0), (8, .io .i64 x.f), (9, .lp 3 0), (47, .agg (cfAP g s k sz sl of gp lt ea d)), (49, .io .i64 wk), (51, .sl A n cap), (53, .sl D m dcap)], [((cwAP g s k sz sl of gp lt ea d wk A n cap), 28), ([.io .i64 x.c1.g, .io .i64 x.c1.s, .io .i64 x.c1.k, .io .i64 x.c1.sz, .io .i64 x.c1.sl, .io .i64 x.c1.of, .io .i64 x.c1.gp, .io .i64 x.c1.lt, .io .i64 x.c1.ea, .bo x.c1.d, .io .i64 x.w1, .sl x.A1 x.n1 x.k1], 28), ([.io .i64 x.c2.g, .io .i64 x.c2.s, .io .i64 x.c2.k, .io .i64 x.c2.sz, .io .i64 x.c2.sl, .io .i64 x.c2.of, .io .i64 x.c2.gp, .io .i64 x.c2.lt, .io .i64 x.c2.ea, .bo x.c2.d, .io .i64 x.w2, .sl x.A2 x.n2 x.k2], 28), (zAP1, 28)]⟩ (by kernel_rfl) (by kernel_rfl) ?_
     refine At.mono (F' := Rws w.heap.size (⟨41, 10, none, 0, 0, []⟩ :: x.L)) (fun ρ w1 h => h.nil _ _) ?_
     refine At.appR 41 10 88 none 0 0 A n cap [] (stW xs) x.L (by kernel_rfl) (by rw [stW_len, hlx]) (stW_one xs) (fun e => by rw [hlx, hS.2.1 e]; rfl) (fun b hb ρ w1 hm _ => (hS.below hm.below).2.2 b hb) (by omega) (by simp only [maxLen]; omega) (fun P1 q1 _ => ?_)
     rw [Nat.zero_add, List.nil_append]
     refine At.toJ (Rws.stable) Rws.fewer 0 300 [5, 6, 7, 8, 9, 47, 49, 52, 53] 4 ⟨.ops (opsOf (sub B5 pAP7)) (((opsOf (sub B5 pAP7)).toList.drop 8).take 1), [.any (opsOf (sub B5 pAP7)) 6 [8, 6, 13, 3, 1, 5, 7, 4, 2, 0]], [(5, .lp 1 0), (6, .io .i64 x.e), (7, .lp 2 0), (8, .io .i64 x.f), (9, .lp 3 0), (47, .agg (cfAP g s k sz sl of gp lt ea d)), (49, .io .i64 wk), (52, .sl P1 n q1), (53, .sl D m dcap)], [((cwAP g s k sz sl of gp lt ea d wk A n cap), 28), ([.io .i64 x.c1.g, .io .i64 x.c1.s, .io .i64 x.c1.k, .io .i64 x.c1.sz, .io .i64 x.c1.sl, .io .i64 x.c1.of, .io .i64 x.c1.gp, .io .i64 x.c1.lt, .io .i64 x.c1.ea, .bo x.c1.d, .io .i64 x.w1, .sl x.A1 x.n1 x.k1], 28), ([.io .i64 x.c2.g, .io .i64 x.c2.s, .io .i64 x.c2.k, .io .i64 x.c2.sz, .io .i64 x.c2.sl, .io .i64 x.c2.of, .io .i64 x.c2.gp, .io .i64 x.c2.lt, .io .i64 x.c2.ea, .bo x.c2.d, .io .i64 x.w2, .sl x.A2 x.n2 x.k2], 28), (zAP1, 28)]⟩ (by kernel_rfl) (by kernel_rfl) ?_
     refine At.appR 41 10 88 P1 n q1 D m dcap (stW xs) (stW ys) x.L (by kernel_rfl) (by rw [stW_len, hly]) (stW_one ys) (fun e => by rw [hly, hD.2.1 e]; rfl) (fun b hb ρ w1 hm _ => (hD.below hm.below).2.2 b hb) (by omega) (by simp only [maxLen]; omega) (fun P2 q2 _ => ?_)
     rw [stW_cat]
     refine At.toJ (Rws.stable) Rws.fewer 0 300 [5, 6, 7, 8, 9, 47, 49, 54] 4 ⟨.ops (opsOf (sub B5 pAP7)) (((opsOf (sub B5 pAP7)).toList.drop 9).take 1), [.any (opsOf (sub B5 pAP7)) 5 [9, 8, 6, 13, 3, 1, 5, 7, 4, 2, 0]], [(5, .lp 1 0), (6, .io .i64 x.e), (7, .lp 2 0), (8, .io .i64 x.f), (9, .lp 3 0), (47, .agg (cfAP g s k sz sl of gp lt ea d)), (49, .io .i64 wk), (54, .sl P2 (n + m) q2)], [((cwAP g s k sz sl of gp lt ea d wk A n cap), 28), ([.io .i64 x.c1.g, .io .i64 x.c1.s, .io .i64 x.c1.k, .io .i64 x.c1.sz, .io .i64 x.c1.sl, .io .i64 x.c1.of, .io .i64 x.c1.gp, .io .i64 x.c1.lt, .io .i64 x.c1.ea, .bo x.c1.d, .io .i64 x.w1, .sl x.A1 x.n1 x.k1], 28), ([.io .i64 x.c2.g, .io .i64 x.c2.s, .io .i64 x.c2.k, .io .i64 x.c2.sz, .io .i64 x.c2.sl, .io .i64 x.c2.of, .io .i64 x.c2.gp, .io .i64 x.c2.lt, .io .i64 x.c2.ea, .bo x.c2.d, .io .i64 x.w2, .sl x.A2 x.n2 x.k2], 28), (zAP1, 28)]⟩ (by kernel_rfl) (by kernel_rfl) ?_
     by_cases hc3 : (chkP ⟨g, s, k, sz, sl, of, gp, lt, ea, d⟩ wk (xs ++ ys)).2 = 0
     ·refine At.rowCall (e := 41) (size := 10) 15 [.agg (cfAP g s k sz sl of gp lt ea d), .io .i64 wk, .sl P2 (n + m) q2] (stW (xs ++ ys)) (fun A' n' c' => .tup [.agg (cwAP g s k sz sl of gp lt ea d wk A' n' c'), .v (.int .i64 0)]) (by kernel_rfl) (by kernel_rfl) (by kernel_rfl) rfl (fun ρ w1 hm hf => (put_go g s k sz sl of gp lt ea d wk P2 (n + m) q2 (xs ++ ys) w1 (rws_sls hf (.head _)) (by omega)).mono fun e w2 h => by
       unfold putE at h
       rw [if_pos hc3] at h
       obtain ⟨A', c', h1, h2⟩ := h
       exact ⟨A', _, c', h1, h2⟩) (fun A3 nA3 c3 hlA3 => ?_)
      obtain rfl : (xs ++ ys).length = nA3 := by rw [stW_len] at hlA3; omega
      refine At.run Rws.stable 0 5 ?_
      refine At.purify0 (fun e a w h => h.1) 20 ?_
      refine At.toJ (Rws.stable) Rws.fewer 0 300 [5, 6, 7, 8, 9, 45] 4 ⟨.any (opsOf (sub B5 pAP7)) 4 [10, 9, 8, 6, 13, 3, 1, 5, 7, 4, 2, 0], [], [(5, .lp 1 0), (6, .io .i64 x.e), (7, .lp 2 0), (8, .io .i64 x.f), (9, .lp 3 0), (45, .tup [.agg [.io .i64 g, .io .i64 s, .io .i64 k, .io .i64 sz, .io .i64 sl, .io .i64 of, .io .i64 gp, .io .i64 lt, .io .i64 ea, .bo d, .io .i64 wk, .sl A3 (xs ++ ys).length c3], .v (.int .i64 0)])], [((cwAP g s k sz sl of gp lt ea d wk A n cap), 28), ([.io .i64 x.c1.g, .io .i64 x.c1.s, .io .i64 x.c1.k, .io .i64 x.c1.sz, .io .i64 x.c1.sl, .io .i64 x.c1.of, .io .i64 x.c1.gp, .io .i64 x.c1.lt, .io .i64 x.c1.ea, .bo x.c1.d, .io .i64 x.w1, .sl x.A1 x.n1 x.k1], 28), ([.io .i64 x.c2.g, .io .i64 x.c2.s, .io .i64 x.c2.k, .io .i64 x.c2.sz, .io .i64 x.c2.sl, .io .i64 x.c2.of, .io .i64 x.c2.gp, .io .i64 x.c2.lt, .io .i64 x.c2.ea, .bo x.c2.d, .io .i64 x.w2, .sl x.A2 x.n2 x.k2], 28), (zAP1, 28)]⟩ (by kernel_rfl) (by kernel_rfl) ?_
      refine At.fork [11, 12] rfl (by kernel_rfl) rfl (allOf.cons ?_ (allOf.cons ?_ allOf.nil))
      ·refine At.toJ (Rws.stable) Rws.fewer 0 300 [5, 6, 7, 8, 9, 45, 56] 4 ⟨.any (opsOf (sub B5 pAP7)) 3 [11, 10, 9, 8, 6, 13, 3, 1, 5, 7, 4, 2, 0], [], [(5, .lp 1 0), (6, .io .i64 x.e), (7, .lp 2 0), (8, .io .i64 x.f), (9, .lp 3 0), (45, .tup [.agg [.io .i64 g, .io .i64 s, .io .i64 k, .io .i64 sz, .io .i64 sl, .io .i64 of, .io .i64 gp, .io .i64 lt, .io .i64 ea, .bo d, .io .i64 wk, .sl A3 (xs ++ ys).length c3], .v (.int .i64 0)]), (56, .agg [.io .i64 g, .io .i64 s, .io .i64 k, .io .i64 sz, .io .i64 sl, .io .i64 of, .io .i64 gp, .io .i64 lt, .io .i64 ea, .bo d, .io .i64 wk, .sl A3 (xs ++ ys).length c3])], [((cwAP g s k sz sl of gp lt ea d wk A n cap), 28), ([.io .i64 x.c1.g, .io .i64 x.c1.s, .io .i64 x.c1.k, .io .i64 x.c1.sz, .io .i64 x.c1.sl, .io .i64 x.c1.of, .io .i64 x.c1.gp, .io .i64 x.c1.lt, .io .i64 x.c1.ea, .bo x.c1.d, .io .i64 x.w1, .sl x.A1 x.n1 x.k1], 28), ([.io .i64 x.c2.g, .io .i64 x.c2.s, .io .i64 x.c2.k, .io .i64 x.c2.sz, .io .i64 x.c2.sl, .io .i64 x.c2.of, .io .i64 x.c2.gp, .io .i64 x.c2.lt, .io .i64 x.c2.ea, .bo x.c2.d, .io .i64 x.w2, .sl x.A2 x.n2 x.k2], 28), (zAP1, 28)]⟩ (by kernel_rfl) (by kernel_rfl) ?_
       refine At.fork [12, 14] rfl (by kernel_rfl) rfl (allOf.cons ?_ (allOf.cons ?_ allOf.nil))
       ·refine At.toJ (Rws.stable) Rws.fewer 0 300 [5, 6, 7, 8, 9, 10] 4 ⟨.exit .normal, [], [(5, .lp 1 0), (6, .io .i64 x.e), (7, .lp 2 0), (8, .io .i64 x.f), (9, .lp 3 0), (10, .v (.int .i64 0))], [((cwAP g s k sz sl of gp lt ea d wk A n cap), 28), ([.io .i64 x.c1.g, .io .i64 x.c1.s, .io .i64 x.c1.k, .io .i64 x.c1.sz, .io .i64 x.c1.sl, .io .i64 x.c1.of, .io .i64 x.c1.gp, .io .i64 x.c1.lt, .io .i64 x.c1.ea, .bo x.c1.d, .io .i64 x.w1, .sl x.A1 x.n1 x.k1], 28), ([.io .i64 x.c2.g, .io .i64 x.c2.s, .io .i64 x.c2.k, .io .i64 x.c2.sz, .io .i64 x.c2.sl, .io .i64 x.c2.of, .io .i64 x.c2.gp, .io .i64 x.c2.lt, .io .i64 x.c2.ea, .bo x.c2.d, .io .i64 x.w2, .sl x.A2 x.n2 x.k2], 28), ([.io .i64 g, .io .i64 s, .io .i64 k, .io .i64 sz, .io .i64 sl, .io .i64 of, .io .i64 gp, .io .i64 lt, .io .i64 ea, .bo d, .io .i64 wk, .sl A3 (xs ++ ys).length c3], 28)]⟩ (by kernel_rfl) (by kernel_rfl) ?_
        refine At.canon _ rfl ?_
        refine At.canL _ rfl ?_
        refine At.slLoc _ rfl ?_
        exact At.fin (⟨⟨g, s, k, sz, sl, of, gp, lt, ea, d⟩, wk, A3, (xs ++ ys).length, c3, 0, ⟨41, 10, A3, (xs ++ ys).length, c3, stW (xs ++ ys)⟩ :: x.L⟩ : V6) rfl rfl (by unfold subFr; kernel_rfl) (by kernel_rfl) (fun ρ a w1 hi h => ⟨h.sub (.cons_cons _ (.cons _ (.refl _))), .inl ⟨hc3, A3, c3, rfl⟩⟩)
       ·refine At.toJ (Rws.stable) Rws.fewer 0 300 [5, 6, 7, 8, 9, 10] 4 ⟨.exit .normal, [], [(5, .lp 1 0), (6, .io .i64 x.e), (7, .lp 2 0), (8, .io .i64 x.f), (9, .lp 3 0), (10, .v (.int .i64 0))], [((cwAP g s k sz sl of gp lt ea d wk A n cap), 28), ([.io .i64 x.c1.g, .io .i64 x.c1.s, .io .i64 x.c1.k, .io .i64 x.c1.sz, .io .i64 x.c1.sl, .io .i64 x.c1.of, .io .i64 x.c1.gp, .io .i64 x.c1.lt, .io .i64 x.c1.ea, .bo x.c1.d, .io .i64 x.w1, .sl x.A1 x.n1 x.k1], 28), ([.io .i64 x.c2.g, .io .i64 x.c2.s, .io .i64 x.c2.k, .io .i64 x.c2.sz, .io .i64 x.c2.sl, .io .i64 x.c2.of, .io .i64 x.c2.gp, .io .i64 x.c2.lt, .io .i64 x.c2.ea, .bo x.c2.d, .io .i64 x.w2, .sl x.A2 x.n2 x.k2], 28), ([.io .i64 g, .io .i64 s, .io .i64 k, .io .i64 sz, .io .i64 sl, .io .i64 of, .io .i64 gp, .io .i64 lt, .io .i64 ea, .bo d, .io .i64 wk, .sl A3 (xs ++ ys).length c3], 28)]⟩ (by kernel_rfl) (by kernel_rfl) ?_
        refine At.canon _ rfl ?_
        refine At.canL _ rfl ?_
        refine At.slLoc _ rfl ?_
        exact At.fin (⟨⟨g, s, k, sz, sl, of, gp, lt, ea, d⟩, wk, A3, (xs ++ ys).length, c3, 0, ⟨41, 10, A3, (xs ++ ys).length, c3, stW (xs ++ ys)⟩ :: x.L⟩ : V6) rfl rfl (by unfold subFr; kernel_rfl) (by kernel_rfl) (fun ρ a w1 hi h => ⟨h.sub (.cons_cons _ (.cons _ (.refl _))), .inl ⟨hc3, A3, c3, rfl⟩⟩)
      ·refine At.toJ (Rws.stable) Rws.fewer 0 300 [5, 6, 7, 8, 9, 10] 4 ⟨.exit .normal, [], [(5, .lp 1 0), (6, .io .i64 x.e), (7, .lp 2 0), (8, .io .i64 x.f), (9, .lp 3 0), (10, .v (.int .i64 0))], [((cwAP g s k sz sl of gp lt ea d wk A n cap), 28), ([.io .i64 x.c1.g, .io .i64 x.c1.s, .io .i64 x.c1.k, .io .i64 x.c1.sz, .io .i64 x.c1.sl, .io .i64 x.c1.of, .io .i64 x.c1.gp, .io .i64 x.c1.lt, .io .i64 x.c1.ea, .bo x.c1.d, .io .i64 x.w1, .sl x.A1 x.n1 x.k1], 28), ([.io .i64 x.c2.g, .io .i64 x.c2.s, .io .i64 x.c2.k, .io .i64 x.c2.sz, .io .i64 x.c2.sl, .io .i64 x.c2.of, .io .i64 x.c2.gp, .io .i64 x.c2.lt, .io .i64 x.c2.ea, .bo x.c2.d, .io .i64 x.w2, .sl x.A2 x.n2 x.k2], 28), ([.io .i64 g, .io .i64 s, .io .i64 k, .io .i64 sz, .io .i64 sl, .io .i64 of, .io .i64 gp, .io .i64 lt, .io .i64 ea, .bo d, .io .i64 wk, .sl A3 (xs ++ ys).length c3], 28)]⟩ (by kernel_rfl) (by kernel_rfl) ?_
       refine At.canon _ rfl ?_
       refine At.canL _ rfl ?_
       refine At.slLoc _ rfl ?_
       exact At.fin (⟨⟨g, s, k, sz, sl, of, gp, lt, ea, d⟩, wk, A3, (xs ++ ys).length, c3, 0, ⟨41, 10, A3, (xs ++ ys).length, c3, stW (xs ++ ys)⟩ :: x.L⟩ : V6) rfl rfl (by unfold subFr; kernel_rfl) (by kernel_rfl) (fun ρ a w1 hi h => ⟨h.sub (.cons_cons _ (.cons _ (.refl _))), .inl ⟨hc3, A3, c3, rfl⟩⟩)
     ·refine At.call Rws.stable 15 [.agg (cfAP g s k sz sl of gp lt ea d), .io .i64 wk, .sl P2 (n + m) q2] (.tup zAP0) (by kernel_rfl) (by kernel_rfl) (by kernel_rfl) (fun ρ a w1 hi hf => (put_go g s k sz sl of gp lt ea d wk P2 (n + m) q2 (xs ++ ys) w1 (rws_sls hf (.head _)) (by omega)).mono fun e w2 h => by
       unfold putE at h
       rw [if_neg hc3, chk_two hc3] at h
       exact h) ?_
      refine At.run Rws.stable 0 5 ?_
      refine At.purify0 (fun e a w h => h.1) 20 ?_
      refine At.toJ (Rws.stable) Rws.fewer 0 300 [5, 6, 7, 8, 9, 45] 4 ⟨.any (opsOf (sub B5 pAP7)) 4 [10, 9, 8, 6, 13, 3, 1, 5, 7, 4, 2, 0], [], [(5, .lp 1 0), (6, .io .i64 x.e), (7, .lp 2 0), (8, .io .i64 x.f), (9, .lp 3 0), (45, .tup zAP0)], [((cwAP g s k sz sl of gp lt ea d wk A n cap), 28), ([.io .i64 x.c1.g, .io .i64 x.c1.s, .io .i64 x.c1.k, .io .i64 x.c1.sz, .io .i64 x.c1.sl, .io .i64 x.c1.of, .io .i64 x.c1.gp, .io .i64 x.c1.lt, .io .i64 x.c1.ea, .bo x.c1.d, .io .i64 x.w1, .sl x.A1 x.n1 x.k1], 28), ([.io .i64 x.c2.g, .io .i64 x.c2.s, .io .i64 x.c2.k, .io .i64 x.c2.sz, .io .i64 x.c2.sl, .io .i64 x.c2.of, .io .i64 x.c2.gp, .io .i64 x.c2.lt, .io .i64 x.c2.ea, .bo x.c2.d, .io .i64 x.w2, .sl x.A2 x.n2 x.k2], 28), (zAP1, 28)]⟩ (by kernel_rfl) (by kernel_rfl) ?_
      refine At.fork [11, 12] rfl (by kernel_rfl) rfl (allOf.cons ?_ (allOf.cons ?_ allOf.nil))
      ·refine At.toJ (Rws.stable) Rws.fewer 0 300 [5, 6, 7, 8, 9, 45, 56] 4 ⟨.any (opsOf (sub B5 pAP7)) 3 [11, 10, 9, 8, 6, 13, 3, 1, 5, 7, 4, 2, 0], [], [(5, .lp 1 0), (6, .io .i64 x.e), (7, .lp 2 0), (8, .io .i64 x.f), (9, .lp 3 0), (45, .tup zAP0), (56, .agg zAP1)], [((cwAP g s k sz sl of gp lt ea d wk A n cap), 28), ([.io .i64 x.c1.g, .io .i64 x.c1.s, .io .i64 x.c1.k, .io .i64 x.c1.sz, .io .i64 x.c1.sl, .io .i64 x.c1.of, .io .i64 x.c1.gp, .io .i64 x.c1.lt, .io .i64 x.c1.ea, .bo x.c1.d, .io .i64 x.w1, .sl x.A1 x.n1 x.k1], 28), ([.io .i64 x.c2.g, .io .i64 x.c2.s, .io .i64 x.c2.k, .io .i64 x.c2.sz, .io .i64 x.c2.sl, .io .i64 x.c2.of, .io .i64 x.c2.gp, .io .i64 x.c2.lt, .io .i64 x.c2.ea, .bo x.c2.d, .io .i64 x.w2, .sl x.A2 x.n2 x.k2], 28), (zAP1, 28)]⟩ (by kernel_rfl) (by kernel_rfl) ?_
       refine At.fork [12, 14] rfl (by kernel_rfl) rfl (allOf.cons ?_ (allOf.cons ?_ allOf.nil))
       ·refine At.toJ (Rws.stable) Rws.fewer 0 300 [5, 6, 7, 8, 9, 10] 4 ⟨.exit .normal, [], [(5, .lp 1 0), (6, .io .i64 x.e), (7, .lp 2 0), (8, .io .i64 x.f), (9, .lp 3 0), (10, .v (.int .i64 2))], [((cwAP g s k sz sl of gp lt ea d wk A n cap), 28), ([.io .i64 x.c1.g, .io .i64 x.c1.s, .io .i64 x.c1.k, .io .i64 x.c1.sz, .io .i64 x.c1.sl, .io .i64 x.c1.of, .io .i64 x.c1.gp, .io .i64 x.c1.lt, .io .i64 x.c1.ea, .bo x.c1.d, .io .i64 x.w1, .sl x.A1 x.n1 x.k1], 28), ([.io .i64 x.c2.g, .io .i64 x.c2.s, .io .i64 x.c2.k, .io .i64 x.c2.sz, .io .i64 x.c2.sl, .io .i64 x.c2.of, .io .i64 x.c2.gp, .io .i64 x.c2.lt, .io .i64 x.c2.ea, .bo x.c2.d, .io .i64 x.w2, .sl x.A2 x.n2 x.k2], 28), (zAP1, 28)]⟩ (by kernel_rfl) (by kernel_rfl) ?_
        refine At.canon _ rfl ?_
        refine At.canL _ rfl ?_
        refine At.slLoc _ rfl ?_
        exact At.fin (⟨cf0, 0, none, 0, 0, 2, x.L⟩ : V6) rfl rfl (by unfold subFr; kernel_rfl) (by kernel_rfl) (fun ρ a w1 hi h => ⟨h.sub (.cons _ (.refl _)), .inr ⟨hc3, rfl⟩⟩)
       ·refine At.toJ (Rws.stable) Rws.fewer 0 300 [5, 6, 7, 8, 9, 10] 4 ⟨.exit .normal, [], [(5, .lp 1 0), (6, .io .i64 x.e), (7, .lp 2 0), (8, .io .i64 x.f), (9, .lp 3 0), (10, .v (.int .i64 2))], [((cwAP g s k sz sl of gp lt ea d wk A n cap), 28), ([.io .i64 x.c1.g, .io .i64 x.c1.s, .io .i64 x.c1.k, .io .i64 x.c1.sz, .io .i64 x.c1.sl, .io .i64 x.c1.of, .io .i64 x.c1.gp, .io .i64 x.c1.lt, .io .i64 x.c1.ea, .bo x.c1.d, .io .i64 x.w1, .sl x.A1 x.n1 x.k1], 28), ([.io .i64 x.c2.g, .io .i64 x.c2.s, .io .i64 x.c2.k, .io .i64 x.c2.sz, .io .i64 x.c2.sl, .io .i64 x.c2.of, .io .i64 x.c2.gp, .io .i64 x.c2.lt, .io .i64 x.c2.ea, .bo x.c2.d, .io .i64 x.w2, .sl x.A2 x.n2 x.k2], 28), (zAP1, 28)]⟩ (by kernel_rfl) (by kernel_rfl) ?_
        refine At.canon _ rfl ?_
        refine At.canL _ rfl ?_
        refine At.slLoc _ rfl ?_
        exact At.fin (⟨cf0, 0, none, 0, 0, 2, x.L⟩ : V6) rfl rfl (by unfold subFr; kernel_rfl) (by kernel_rfl) (fun ρ a w1 hi h => ⟨h.sub (.cons _ (.refl _)), .inr ⟨hc3, rfl⟩⟩)
      ·refine At.toJ (Rws.stable) Rws.fewer 0 300 [5, 6, 7, 8, 9, 10] 4 ⟨.exit .normal, [], [(5, .lp 1 0), (6, .io .i64 x.e), (7, .lp 2 0), (8, .io .i64 x.f), (9, .lp 3 0), (10, .v (.int .i64 2))], [((cwAP g s k sz sl of gp lt ea d wk A n cap), 28), ([.io .i64 x.c1.g, .io .i64 x.c1.s, .io .i64 x.c1.k, .io .i64 x.c1.sz, .io .i64 x.c1.sl, .io .i64 x.c1.of, .io .i64 x.c1.gp, .io .i64 x.c1.lt, .io .i64 x.c1.ea, .bo x.c1.d, .io .i64 x.w1, .sl x.A1 x.n1 x.k1], 28), ([.io .i64 x.c2.g, .io .i64 x.c2.s, .io .i64 x.c2.k, .io .i64 x.c2.sz, .io .i64 x.c2.sl, .io .i64 x.c2.of, .io .i64 x.c2.gp, .io .i64 x.c2.lt, .io .i64 x.c2.ea, .bo x.c2.d, .io .i64 x.w2, .sl x.A2 x.n2 x.k2], 28), (zAP1, 28)]⟩ (by kernel_rfl) (by kernel_rfl) ?_
       refine At.canon _ rfl ?_
       refine At.canL _ rfl ?_
       refine At.slLoc _ rfl ?_
       exact At.fin (⟨cf0, 0, none, 0, 0, 2, x.L⟩ : V6) rfl rfl (by unfold subFr; kernel_rfl) (by kernel_rfl) (fun ρ a w1 hi h => ⟨h.sub (.cons _ (.refl _)), .inr ⟨hc3, rfl⟩⟩)
   ·refine At.pure fun hg6 => ?_
    rcases hgd with ⟨hc1, hc2, A1, c1, A2, c2, rfl⟩ | ⟨hno, hef⟩
    ·rcases hg6 with ⟨hc3, A3, c3, rfl⟩ | ⟨hc3, _⟩
     ·obtain ⟨e0, he0, hle0, hcat⟩ := both_facts (xs := xs) hc2
      obtain ⟨htl, _, _, _⟩ := back_facts hc1 hok (by omega)
      obtain ⟨hul, _, hE1, _⟩ := back_facts hc2 hokD (by omega)
      obtain ⟨hvl, _, _, _⟩ := back_facts hc3 (fun x hx => (List.mem_append.1 hx).elim (hok x) (hokD x)) (by rw [List.length_append]; omega)
      generalize ht : scriptB ⟨g, s, k, sz, sl, of, gp, lt, ea, d⟩ wk xs = t at htl hcat
      generalize hu : scriptB ⟨g, s, k, sz, sl, of, gp, lt, ea, d⟩ wk ys = u at hul hE1 he0 hle0 hcat
      generalize hv : scriptB ⟨g, s, k, sz, sl, of, gp, lt, ea, d⟩ wk (xs ++ ys) = v at hvl hcat
      change At Tryz.prog _ w.heap.size w _ (Rws w.heap.size [⟨41, 10, A3, (xs ++ ys).length, c3, stW (xs ++ ys)⟩, ⟨41, 10, A2, ys.length, c2, stW ys⟩, ⟨41, 10, A1, xs.length, c1, stW xs⟩]) ⟨.exit .normal, [.seq (sub B5 pAP8)], [(5, .lp 1 0), (6, .io .i64 0), (7, .lp 2 0), (8, .io .i64 0), (9, .lp 3 0), (10, .io .i64 0)], [((cwAP g s k sz sl of gp lt ea d wk A n cap), 28), ((cwAP g s k sz sl of gp lt ea d wk A1 xs.length c1), 28), ((cwAP g s k sz sl of gp lt ea d wk A2 ys.length c2), 28), ([.io .i64 g, .io .i64 s, .io .i64 k, .io .i64 sz, .io .i64 sl, .io .i64 of, .io .i64 gp, .io .i64 lt, .io .i64 ea, .bo d, .io .i64 wk, .sl A3 (xs ++ ys).length c3], 28)]⟩
      refine At.toJ (Rws.stable) Rws.fewer 0 300 [5, 7, 8, 9, 10, 60] 4 ⟨pops B5 [1, 1, 1, 1, 1, 0, 0] 3, [.seq (sub B5 pAP4), .seq (sub B5 pAP5)], [(5, .lp 1 0), (7, .lp 2 0), (8, .io .i64 0), (9, .lp 3 0), (10, .io .i64 0), (60, .bo false)], [((cwAP g s k sz sl of gp lt ea d wk A n cap), 28), ((cwAP g s k sz sl of gp lt ea d wk A1 xs.length c1), 28), ((cwAP g s k sz sl of gp lt ea d wk A2 ys.length c2), 28), ([.io .i64 g, .io .i64 s, .io .i64 k, .io .i64 sz, .io .i64 sl, .io .i64 of, .io .i64 gp, .io .i64 lt, .io .i64 ea, .bo d, .io .i64 wk, .sl A3 (xs ++ ys).length c3], 28)]⟩ (by kernel_rfl) (by kernel_rfl) ?_
      refine At.res 60 (false) false (by kernel_rfl) (by first | assumption | (simp only [*]; done) | (simp [*]; done)) ?_
      refine At.toJ (Rws.stable) Rws.fewer 0 300 [5, 7, 9, 10, 63] 4 ⟨.code (sub B5 pAP4), [.seq (sub B5 pAP5)], [(5, .lp 1 0), (7, .lp 2 0), (9, .lp 3 0), (10, .io .i64 0), (63, .bo false)], [((cwAP g s k sz sl of gp lt ea d wk A n cap), 28), ((cwAP g s k sz sl of gp lt ea d wk A1 xs.length c1), 28), ((cwAP g s k sz sl of gp lt ea d wk A2 ys.length c2), 28), ([.io .i64 g, .io .i64 s, .io .i64 k, .io .i64 sz, .io .i64 sl, .io .i64 of, .io .i64 gp, .io .i64 lt, .io .i64 ea, .bo d, .io .i64 wk, .sl A3 (xs ++ ys).length c3], 28)]⟩ (by kernel_rfl) (by kernel_rfl) ?_
      refine At.res 63 (false) false (by kernel_rfl) (by first | assumption | (simp only [*]; done) | (simp [*]; done)) ?_
      refine At.toJ (Rws.stable) Rws.fewer 0 300 [5, 7, 9, 10, 76] 4 ⟨pops B5 [1, 1, 1, 1, 1, 1, 0] 1, [.seq (sub B5 [1, 1, 1, 1, 1, 1, 1])], [(5, .lp 1 0), (7, .lp 2 0), (9, .lp 3 0), (10, .io .i64 0), (76, .agg (cwAP g s k sz sl of gp lt ea d wk A1 xs.length c1))], [((cwAP g s k sz sl of gp lt ea d wk A n cap), 28), ((cwAP g s k sz sl of gp lt ea d wk A1 xs.length c1), 28), ((cwAP g s k sz sl of gp lt ea d wk A2 ys.length c2), 28), ([.io .i64 g, .io .i64 s, .io .i64 k, .io .i64 sz, .io .i64 sl, .io .i64 of, .io .i64 gp, .io .i64 lt, .io .i64 ea, .bo d, .io .i64 wk, .sl A3 (xs ++ ys).length c3], 28)]⟩ (by kernel_rfl) (by kernel_rfl) ?_
      refine At.call Rws.stable 12 [.agg [.io .i64 g, .io .i64 s, .io .i64 k, .io .i64 sz, .io .i64 sl, .io .i64 of, .io .i64 gp, .io .i64 lt, .io .i64 ea, .bo d, .io .i64 wk, .sl A1 (xs).length c1]] (.tup [.so (mkB t), .v (.int .i64 0)]) (by kernel_rfl) (by kernel_rfl) (by kernel_rfl) (fun _ _ w1 hi hf => (text_go g s k sz sl of gp lt ea d wk A1 (xs).length c1 (xs) w1 (hw.below hi.mem.below) (rws_sls hf (.tail _ (.tail _ (.head _)))) (by omega) hok).mono fun e w2 h => ⟨h.1.trans (by rw [show textP ⟨g, s, k, sz, sl, of, gp, lt, ea, d⟩ wk (xs) = (scriptB ⟨g, s, k, sz, sl, of, gp, lt, ea, d⟩ wk (xs), 0) from if_pos hc1, ht]; rfl), h.2⟩) ?_
      refine At.toJ (Rws.stable) Rws.fewer 0 300 [5, 7, 9, 10, 11, 12, 81] 4 ⟨pops B5 [1, 1, 1, 1, 1, 1, 1, 0] 1, [.seq (sub B5 [1, 1, 1, 1, 1, 1, 1, 1])], [(5, .lp 1 0), (7, .lp 2 0), (9, .lp 3 0), (10, .io .i64 0), (11, .so (mkB t)), (12, .v (.int .i64 0)), (81, .agg (cwAP g s k sz sl of gp lt ea d wk A2 ys.length c2))], [((cwAP g s k sz sl of gp lt ea d wk A n cap), 28), ((cwAP g s k sz sl of gp lt ea d wk A1 xs.length c1), 28), ((cwAP g s k sz sl of gp lt ea d wk A2 ys.length c2), 28), ([.io .i64 g, .io .i64 s, .io .i64 k, .io .i64 sz, .io .i64 sl, .io .i64 of, .io .i64 gp, .io .i64 lt, .io .i64 ea, .bo d, .io .i64 wk, .sl A3 (xs ++ ys).length c3], 28)]⟩ (by kernel_rfl) (by kernel_rfl) ?_
      refine At.call Rws.stable 12 [.agg [.io .i64 g, .io .i64 s, .io .i64 k, .io .i64 sz, .io .i64 sl, .io .i64 of, .io .i64 gp, .io .i64 lt, .io .i64 ea, .bo d, .io .i64 wk, .sl A2 (ys).length c2]] (.tup [.so (mkB u), .v (.int .i64 0)]) (by kernel_rfl) (by kernel_rfl) (by kernel_rfl) (fun _ _ w1 hi hf => (text_go g s k sz sl of gp lt ea d wk A2 (ys).length c2 (ys) w1 (hw.below hi.mem.below) (rws_sls hf (.tail _ (.head _))) (by omega) hokD).mono fun e w2 h => ⟨h.1.trans (by rw [show textP ⟨g, s, k, sz, sl, of, gp, lt, ea, d⟩ wk (ys) = (scriptB ⟨g, s, k, sz, sl, of, gp, lt, ea, d⟩ wk (ys), 0) from if_pos hc2, hu]; rfl), h.2⟩) ?_
      refine At.toJ (Rws.stable) Rws.fewer 0 300 [5, 7, 9, 10, 11, 12, 13, 14, 86] 4 ⟨pops B5 [1, 1, 1, 1, 1, 1, 1, 1, 0] 1, [.seq (sub B5 [1, 1, 1, 1, 1, 1, 1, 1, 1])], [(5, .lp 1 0), (7, .lp 2 0), (9, .lp 3 0), (10, .io .i64 0), (11, .so (mkB t)), (12, .v (.int .i64 0)), (13, .so (mkB u)), (14, .v (.int .i64 0)), (86, .agg [.io .i64 g, .io .i64 s, .io .i64 k, .io .i64 sz, .io .i64 sl, .io .i64 of, .io .i64 gp, .io .i64 lt, .io .i64 ea, .bo d, .io .i64 wk, .sl A3 (xs ++ ys).length c3])], [((cwAP g s k sz sl of gp lt ea d wk A n cap), 28), ((cwAP g s k sz sl of gp lt ea d wk A1 xs.length c1), 28), ((cwAP g s k sz sl of gp lt ea d wk A2 ys.length c2), 28), ([.io .i64 g, .io .i64 s, .io .i64 k, .io .i64 sz, .io .i64 sl, .io .i64 of, .io .i64 gp, .io .i64 lt, .io .i64 ea, .bo d, .io .i64 wk, .sl A3 (xs ++ ys).length c3], 28)]⟩ (by kernel_rfl) (by kernel_rfl) ?_
      refine At.call Rws.stable 12 [.agg [.io .i64 g, .io .i64 s, .io .i64 k, .io .i64 sz, .io .i64 sl, .io .i64 of, .io .i64 gp, .io .i64 lt, .io .i64 ea, .bo d, .io .i64 wk, .sl A3 (xs ++ ys).length c3]] (.tup [.so (mkB v), .v (.int .i64 0)]) (by kernel_rfl) (by kernel_rfl) (by kernel_rfl) (fun _ _ w1 hi hf => (text_go g s k sz sl of gp lt ea d wk A3 (xs ++ ys).length c3 (xs ++ ys) w1 (hw.below hi.mem.below) (rws_sls hf (.head _)) (by rw [List.length_append]; omega) (fun x hx => (List.mem_append.1 hx).elim (hok x) (hokD x))).mono fun e w2 h => ⟨h.1.trans (by rw [show textP ⟨g, s, k, sz, sl, of, gp, lt, ea, d⟩ wk (xs ++ ys) = (scriptB ⟨g, s, k, sz, sl, of, gp, lt, ea, d⟩ wk (xs ++ ys), 0) from if_pos hc3, hv]; rfl), h.2⟩) ?_
      refine At.toJ (Rws.stable) Rws.fewer 0 300 [5, 7, 9, 11, 12, 13, 14, 15, 16, 92] 4 ⟨pops B5 [1, 1, 1, 1, 1, 1, 1, 1, 1, 0, 0] 3, [.seq (sub B5 [1, 1, 1, 1, 1, 1, 1, 1, 1, 0, 1]), .seq (sub B5 [1, 1, 1, 1, 1, 1, 1, 1, 1, 1])], [(5, .lp 1 0), (7, .lp 2 0), (9, .lp 3 0), (11, .so (mkB t)), (12, .v (.int .i64 0)), (13, .so (mkB u)), (14, .v (.int .i64 0)), (15, .so (mkB v)), (16, .v (.int .i64 0)), (92, .bo false)], [((cwAP g s k sz sl of gp lt ea d wk A n cap), 28), ((cwAP g s k sz sl of gp lt ea d wk A1 xs.length c1), 28), ((cwAP g s k sz sl of gp lt ea d wk A2 ys.length c2), 28), ([.io .i64 g, .io .i64 s, .io .i64 k, .io .i64 sz, .io .i64 sl, .io .i64 of, .io .i64 gp, .io .i64 lt, .io .i64 ea, .bo d, .io .i64 wk, .sl A3 (xs ++ ys).length c3], 28)]⟩ (by kernel_rfl) (by kernel_rfl) ?_
      refine At.res 92 (false) false (by kernel_rfl) (by first | assumption | (simp only [*]; done) | (simp [*]; done)) ?_
      refine At.toJ (Rws.stable) Rws.fewer 0 300 [5, 7, 9, 11, 13, 15, 104] 4 ⟨pops B5 [1, 1, 1, 1, 1, 1, 1, 1, 1, 1, 0] 1, [.seq (sub B5 [1, 1, 1, 1, 1, 1, 1, 1, 1, 1, 1])], [(5, .lp 1 0), (7, .lp 2 0), (9, .lp 3 0), (11, .so (mkB t)), (13, .so (mkB u)), (15, .so (mkB v)), (104, .so (mkB u))], [((cwAP g s k sz sl of gp lt ea d wk A n cap), 28), ((cwAP g s k sz sl of gp lt ea d wk A1 xs.length c1), 28), ((cwAP g s k sz sl of gp lt ea d wk A2 ys.length c2), 28), ([.io .i64 g, .io .i64 s, .io .i64 k, .io .i64 sz, .io .i64 sl, .io .i64 of, .io .i64 gp, .io .i64 lt, .io .i64 ea, .bo d, .io .i64 wk, .sl A3 (xs ++ ys).length c3], 28)]⟩ (by kernel_rfl) (by kernel_rfl) ?_
      refine At.rowCall (e := 3) (size := 1) 14 [.so (mkB u)] (ints (endsOf u 0)) (fun A' n' c' => .sl A' n' c') (by kernel_rfl) (by kernel_rfl) (by kernel_rfl) rfl (fun ρ w1 hm hf => (ends_any u hul w1).mono fun e w2 h => by
       obtain ⟨A', c', h1, h2⟩ := h
       exact ⟨A', _, c', h1, h2⟩) (fun E nE ec hlE => ?_)
      obtain rfl : ys.length + 2 = nE := by simp [ints, hE1] at hlE; omega
      refine At.learn (p := ∃ a, E = some a) (fun ρ w1 hf => hf.some (.head _) (by show 0 < ys.length + 2; omega)) ?_
      rintro ⟨ae, rfl⟩
      refine At.toJ (Rws.stable) Rws.fewer 0 300 [5, 7, 9, 11, 13, 15, 17, 109] 4 ⟨.any (opsOf (sub B5 [1, 1, 1, 1, 1, 1, 1, 1, 1, 1, 1, 0])) 29 [3, 2, 1, 0], [.seq (sub B5 pAP6)], [(5, .lp 1 0), (7, .lp 2 0), (9, .lp 3 0), (11, .so (mkB t)), (13, .so (mkB u)), (15, .so (mkB v)), (17, .sl (some ae) (ys.length + 2) ec), (109, .bo (decide ((↑(ys.length + 2) : Int) ≥ 2)))], [((cwAP g s k sz sl of gp lt ea d wk A n cap), 28), ((cwAP g s k sz sl of gp lt ea d wk A1 xs.length c1), 28), ((cwAP g s k sz sl of gp lt ea d wk A2 ys.length c2), 28), ([.io .i64 g, .io .i64 s, .io .i64 k, .io .i64 sz, .io .i64 sl, .io .i64 of, .io .i64 gp, .io .i64 lt, .io .i64 ea, .bo d, .io .i64 wk, .sl A3 (xs ++ ys).length c3], 28)]⟩ (by kernel_rfl) (by kernel_rfl) ?_
      refine At.res 109 (decide (((ys.length + 2 : Nat) : Int) ≥ 2)) true (by kernel_rfl) (decide_eq_true (by omega)) ?_
      have hit : IntKind.i64.wrap (((itemsOf xs).length : Int) + ((itemsOf ys).length : Int)) = ((itemsOf (xs ++ ys)).length : Int) := by
       have h1 : (itemsOf xs).length ≤ xs.length := List.length_filter_le ..
       have h2 : (itemsOf ys).length ≤ ys.length := List.length_filter_le ..
       rw [wrap63 (by omega) (by omega), show itemsOf (xs ++ ys) = itemsOf xs ++ itemsOf ys from List.filter_append .., List.length_append]
       omega
      refine At.drawn0 ([(4, .eq (.so (mkB v))), (5, .eq (.so (mkB t))), (6, .eq (.so (mkB u))), (7, .eq (.sl (some ae) (ys.length + 2) ec)), (8, .eq (.v (.pointer (some (ae.add ((1 : Int).toNat * 1)))))), (9, .eq (.io .i64 (e0 : Int))), (10, .eq (.so (mkB (u.drop e0)))), (11, .eq (.so (mkB t ++ mkB (u.drop e0)))), (12, .eq (.v (.bool true))), (13, .eq (.v (.bool true))), (14, .eq (.v (.bool true))), (15, .eq (.agg [.io .i64 g, .io .i64 s, .io .i64 k, .io .i64 sz, .io .i64 sl, .io .i64 of, .io .i64 gp, .io .i64 lt, .io .i64 ea, .bo d, .io .i64 wk, .sl A3 (xs ++ ys).length c3])), (16, .ex (Option Addr × Nat) (fun x => .sl x.1 (itemsOf (xs ++ ys)).length x.2) (fun _ _ _ => True)), (17, .eq (.io .i64 ((itemsOf (xs ++ ys)).length : Int))), (18, .eq (.agg (cwAP g s k sz sl of gp lt ea d wk A1 xs.length c1))), (19, .ex (Option Addr × Nat) (fun x => .sl x.1 (itemsOf xs).length x.2) (fun _ _ _ => True)), (20, .eq (.io .i64 ((itemsOf xs).length : Int))), (21, .eq (.agg (cwAP g s k sz sl of gp lt ea d wk A2 ys.length c2))), (22, .ex (Option Addr × Nat) (fun x => .sl x.1 (itemsOf ys).length x.2) (fun _ _ _ => True)), (23, .eq (.io .i64 ((itemsOf ys).length : Int))), (24, .eq (.io .i64 (IntKind.i64.wrap (((itemsOf xs).length : Int) + ((itemsOf ys).length : Int))))), (25, .eq (.v (.bool true))), (26, .eq (.v (.bool true))), (27, .eq (.v (.bool true))), (28, .eq (.v (.bool true))), (29, .eq (.v (.bool true))), (30, .eq (.v (.bool true))), (31, .eq (.v (.bool true))), (32, .eq (.v (.bool true)))]) ([4, 5, 6, 7, 8, 9, 10, 11, 12, 13, 14, 15, 16, 17, 18, 19, 20, 21, 22, 23, 24, 25, 26, 27, 28, 29, 30, 31, 32]) [(4, .v (.bool true))] rfl (by kernel_rfl) (by kernel_rfl) Rws.stable (by exact ⟨trivial, trivial, trivial, trivial, trivial, trivial, trivial, trivial, trivial, trivial, trivial, trivial, fun x => fun _ _ _ _ _ _ h => h, trivial, trivial, fun x => fun _ _ _ _ _ _ h => h, trivial, trivial, fun x => fun _ _ _ _ _ _ h => h, trivial, trivial, trivial, trivial, trivial, trivial, trivial, trivial, trivial, trivial, trivial⟩) (by exact ⟨StepK.pure (by kernel_rfl) rfl,
       StepK.pure (by kernel_rfl) rfl,
       StepK.pure (by kernel_rfl) rfl,
       StepK.pure (by kernel_rfl) rfl,
       StepK.idx ae (ys.length + 2) 1 1 (by kernel_rfl) rfl (by decide) (by omega) (fun ρ => rfl),
       StepK.ldx (ae.add ((1 : Int).toNat * 1)) (by kernel_rfl) rfl (fun ρ w1 hm hf => hf.src (x := ⟨3, 1, some ae, ys.length + 2, ec, ints (endsOf u 0)⟩) (.head _) rfl 1 _ (by simp [ints, he0, SV.den])),
       StepK.ssl (mkB u) (e0 : Int) none (by kernel_rfl) rfl (by omega) (by rw [Option.getD_none, mkB_size]; omega) (by rw [Option.getD_none]; omega) (fun ρ => by rw [ext_drop]; rfl),
       StepK.cat (mkB t) (mkB (u.drop e0)) (by kernel_rfl) rfl (by rw [mkB_size, mkB_size, List.length_drop]; omega) (fun ρ => rfl),
       StepK.pureE (.bo ((mkB v).toList == (mkB t ++ mkB (u.drop e0)).toList)) (by kernel_rfl) rfl (fun ρ => by rw [mkB_app, ← hcat]; simp [SV.den]),
       StepK.pure (by kernel_rfl) rfl,
       StepK.pure (by kernel_rfl) rfl,
       StepK.pure (by kernel_rfl) rfl,
       StepK.call 16 [.agg [.io .i64 g, .io .i64 s, .io .i64 k, .io .i64 sz, .io .i64 sl, .io .i64 of, .io .i64 gp, .io .i64 lt, .io .i64 ea, .bo d, .io .i64 wk, .sl A3 (xs ++ ys).length c3]] (by kernel_rfl) rfl (by kernel_rfl) (fun ρ w1 hm hf => (items_any g s k sz sl of gp lt ea d wk A3 (xs ++ ys).length c3 (xs ++ ys) w1 (rws_sls hf (.tail _ (.head _))) (by rw [List.length_append]; omega)).mono fun e w2 h => by
        obtain ⟨A', c', h1, h2⟩ := h
        exact ⟨_, h1, ⟨(A', c'), rfl, trivial⟩, (rws_new hm h2).2⟩),
       StepK.pureX 16 122 (by kernel_rfl) (fun x => by kernel_rfl) rfl (by kernel_rfl) rfl,
       StepK.pure (by kernel_rfl) rfl,
       StepK.call 16 [.agg (cwAP g s k sz sl of gp lt ea d wk A1 xs.length c1)] (by kernel_rfl) rfl (by kernel_rfl) (fun ρ w1 hm hf => (items_any g s k sz sl of gp lt ea d wk A1 xs.length c1 xs w1 (rws_sls hf (.tail _ (.tail _ (.tail _ (.head _))))) (by omega)).mono fun e w2 h => by
        obtain ⟨A', c', h1, h2⟩ := h
        exact ⟨_, h1, ⟨(A', c'), rfl, trivial⟩, (rws_new hm h2).2⟩),
       StepK.pureX 19 125 (by kernel_rfl) (fun x => by kernel_rfl) rfl (by kernel_rfl) rfl,
       StepK.pure (by kernel_rfl) rfl,
       StepK.call 16 [.agg (cwAP g s k sz sl of gp lt ea d wk A2 ys.length c2)] (by kernel_rfl) rfl (by kernel_rfl) (fun ρ w1 hm hf => (items_any g s k sz sl of gp lt ea d wk A2 ys.length c2 ys w1 (rws_sls hf (.tail _ (.tail _ (.head _)))) (by omega)).mono fun e w2 h => by
        obtain ⟨A', c', h1, h2⟩ := h
        exact ⟨_, h1, ⟨(A', c'), rfl, trivial⟩, (rws_new hm h2).2⟩),
       StepK.pureX 22 128 (by kernel_rfl) (fun x => by kernel_rfl) rfl (by kernel_rfl) rfl,
       StepK.pure (by kernel_rfl) rfl,
       StepK.pureE (.bo (((itemsOf (xs ++ ys)).length : Int) == IntKind.i64.wrap (((itemsOf xs).length : Int) + ((itemsOf ys).length : Int)))) (by kernel_rfl) rfl (fun ρ => by rw [hit]; simp [SV.den]),
       StepK.pure (by kernel_rfl) rfl,
       StepK.pure (by kernel_rfl) rfl,
       StepK.pure (by kernel_rfl) rfl,
       StepK.pure (by kernel_rfl) rfl,
       StepK.call 8 [] (by kernel_rfl) rfl (by kernel_rfl) (fun ρ w1 hm hf => (known_true w1 (hw.below hm.below)).mono fun e w2 h => ⟨_, h.1, rfl, h.2⟩),
       StepK.pure (by kernel_rfl) rfl,
       StepK.pure (by kernel_rfl) rfl, trivial⟩) (by unfold subFr; kernel_rfl) ?_
      refine At.toJ (Rws.stable) Rws.fewer 0 300 [4] 0 ⟨.exit .ret, [], [(4, .v (.bool true))], []⟩ (by kernel_rfl) (by kernel_rfl) ?_
      refine At.ret (by kernel_rfl) (.v (.bool true)) (by kernel_rfl) ?_
      intro ρ w9 hm' hf
      exact ⟨rfl, hm'.below⟩
     ·exact absurd (chk_cat.2 ⟨hc1, hc2⟩) hc3
    ·rcases hg6 with ⟨hc3, _⟩ | ⟨hc3, rfl⟩
     ·exact absurd (chk_cat.1 hc3) hno
     ·obtain ⟨cc1, ww1, AA1, nn1, kk1, cc2, ww2, AA2, nn2, kk2, e, f, L⟩ := x
      simp only at hef
      refine At.toJ (Rws.stable) Rws.fewer 0 300 [5, 7, 8, 9, 10, 60] 4 ⟨pops B5 [1, 1, 1, 1, 1, 0, 0] 3, [.seq (sub B5 pAP4), .seq (sub B5 pAP5)], [(5, .lp 1 0), (7, .lp 2 0), (8, .io .i64 f), (9, .lp 3 0), (10, .io .i64 2), (60, .bo ((V5.mk cc1 ww1 AA1 nn1 kk1 cc2 ww2 AA2 nn2 kk2 e f L).e != 0))], [((cwAP g s k sz sl of gp lt ea d wk A n cap), 28), ([.io .i64 (V5.mk cc1 ww1 AA1 nn1 kk1 cc2 ww2 AA2 nn2 kk2 e f L).c1.g, .io .i64 (V5.mk cc1 ww1 AA1 nn1 kk1 cc2 ww2 AA2 nn2 kk2 e f L).c1.s, .io .i64 (V5.mk cc1 ww1 AA1 nn1 kk1 cc2 ww2 AA2 nn2 kk2 e f L).c1.k, .io .i64 (V5.mk cc1 ww1 AA1 nn1 kk1 cc2 ww2 AA2 nn2 kk2 e f L).c1.sz, .io .i64 (V5.mk cc1 ww1 AA1 nn1 kk1 cc2 ww2 AA2 nn2 kk2 e f L).c1.sl, .io .i64 (V5.mk cc1 ww1 AA1 nn1 kk1 cc2 ww2 AA2 nn2 kk2 e f L).c1.of, .io .i64 (V5.mk cc1 ww1 AA1 nn1 kk1 cc2 ww2 AA2 nn2 kk2 e f L).c1.gp, .io .i64 (V5.mk cc1 ww1 AA1 nn1 kk1 cc2 ww2 AA2 nn2 kk2 e f L).c1.lt, .io .i64 (V5.mk cc1 ww1 AA1 nn1 kk1 cc2 ww2 AA2 nn2 kk2 e f L).c1.ea, .bo (V5.mk cc1 ww1 AA1 nn1 kk1 cc2 ww2 AA2 nn2 kk2 e f L).c1.d, .io .i64 ww1, .sl AA1 nn1 kk1], 28), ([.io .i64 (V5.mk cc1 ww1 AA1 nn1 kk1 cc2 ww2 AA2 nn2 kk2 e f L).c2.g, .io .i64 (V5.mk cc1 ww1 AA1 nn1 kk1 cc2 ww2 AA2 nn2 kk2 e f L).c2.s, .io .i64 (V5.mk cc1 ww1 AA1 nn1 kk1 cc2 ww2 AA2 nn2 kk2 e f L).c2.k, .io .i64 (V5.mk cc1 ww1 AA1 nn1 kk1 cc2 ww2 AA2 nn2 kk2 e f L).c2.sz, .io .i64 (V5.mk cc1 ww1 AA1 nn1 kk1 cc2 ww2 AA2 nn2 kk2 e f L).c2.sl, .io .i64 (V5.mk cc1 ww1 AA1 nn1 kk1 cc2 ww2 AA2 nn2 kk2 e f L).c2.of, .io .i64 (V5.mk cc1 ww1 AA1 nn1 kk1 cc2 ww2 AA2 nn2 kk2 e f L).c2.gp, .io .i64 (V5.mk cc1 ww1 AA1 nn1 kk1 cc2 ww2 AA2 nn2 kk2 e f L).c2.lt, .io .i64 (V5.mk cc1 ww1 AA1 nn1 kk1 cc2 ww2 AA2 nn2 kk2 e f L).c2.ea, .bo (V5.mk cc1 ww1 AA1 nn1 kk1 cc2 ww2 AA2 nn2 kk2 e f L).c2.d, .io .i64 ww2, .sl AA2 nn2 kk2], 28), (zAP2, 28)]⟩ (by kernel_rfl) (by kernel_rfl) ?_
      rcases Bool.eq_false_or_eq_true ((V5.mk cc1 ww1 AA1 nn1 kk1 cc2 ww2 AA2 nn2 kk2 e f L).e != 0) with b0 | b0
      ·refine At.res 60 ((V5.mk cc1 ww1 AA1 nn1 kk1 cc2 ww2 AA2 nn2 kk2 e f L).e != 0) true (by kernel_rfl) b0 ?_
       refine At.toJ (Rws.stable) Rws.fewer 0 300 [9, 66] 4 ⟨pops B5 pAP3 3, [.seq (sub B5 pAP6), .seq (sub B5 pAP5)], [(9, .lp 3 0), (66, .bo true)], [((cwAP g s k sz sl of gp lt ea d wk A n cap), 28), ([.io .i64 (V5.mk cc1 ww1 AA1 nn1 kk1 cc2 ww2 AA2 nn2 kk2 e f L).c1.g, .io .i64 (V5.mk cc1 ww1 AA1 nn1 kk1 cc2 ww2 AA2 nn2 kk2 e f L).c1.s, .io .i64 (V5.mk cc1 ww1 AA1 nn1 kk1 cc2 ww2 AA2 nn2 kk2 e f L).c1.k, .io .i64 (V5.mk cc1 ww1 AA1 nn1 kk1 cc2 ww2 AA2 nn2 kk2 e f L).c1.sz, .io .i64 (V5.mk cc1 ww1 AA1 nn1 kk1 cc2 ww2 AA2 nn2 kk2 e f L).c1.sl, .io .i64 (V5.mk cc1 ww1 AA1 nn1 kk1 cc2 ww2 AA2 nn2 kk2 e f L).c1.of, .io .i64 (V5.mk cc1 ww1 AA1 nn1 kk1 cc2 ww2 AA2 nn2 kk2 e f L).c1.gp, .io .i64 (V5.mk cc1 ww1 AA1 nn1 kk1 cc2 ww2 AA2 nn2 kk2 e f L).c1.lt, .io .i64 (V5.mk cc1 ww1 AA1 nn1 kk1 cc2 ww2 AA2 nn2 kk2 e f L).c1.ea, .bo (V5.mk cc1 ww1 AA1 nn1 kk1 cc2 ww2 AA2 nn2 kk2 e f L).c1.d, .io .i64 ww1, .sl AA1 nn1 kk1], 28), ([.io .i64 (V5.mk cc1 ww1 AA1 nn1 kk1 cc2 ww2 AA2 nn2 kk2 e f L).c2.g, .io .i64 (V5.mk cc1 ww1 AA1 nn1 kk1 cc2 ww2 AA2 nn2 kk2 e f L).c2.s, .io .i64 (V5.mk cc1 ww1 AA1 nn1 kk1 cc2 ww2 AA2 nn2 kk2 e f L).c2.k, .io .i64 (V5.mk cc1 ww1 AA1 nn1 kk1 cc2 ww2 AA2 nn2 kk2 e f L).c2.sz, .io .i64 (V5.mk cc1 ww1 AA1 nn1 kk1 cc2 ww2 AA2 nn2 kk2 e f L).c2.sl, .io .i64 (V5.mk cc1 ww1 AA1 nn1 kk1 cc2 ww2 AA2 nn2 kk2 e f L).c2.of, .io .i64 (V5.mk cc1 ww1 AA1 nn1 kk1 cc2 ww2 AA2 nn2 kk2 e f L).c2.gp, .io .i64 (V5.mk cc1 ww1 AA1 nn1 kk1 cc2 ww2 AA2 nn2 kk2 e f L).c2.lt, .io .i64 (V5.mk cc1 ww1 AA1 nn1 kk1 cc2 ww2 AA2 nn2 kk2 e f L).c2.ea, .bo (V5.mk cc1 ww1 AA1 nn1 kk1 cc2 ww2 AA2 nn2 kk2 e f L).c2.d, .io .i64 ww2, .sl AA2 nn2 kk2], 28), (zAP2, 28)]⟩ (by kernel_rfl) (by kernel_rfl) ?_
       refine At.res 66 (true) true (by kernel_rfl) (by first | assumption | (simp only [*]; done) | (simp [*]; done)) ?_
       refine At.toJ (Rws.stable) Rws.fewer 0 300 [72] 0 ⟨pops B5 pAP3 9, [.seq (sub B5 pAP6), .seq (sub B5 pAP5)], [(72, .bo true)], []⟩ (by kernel_rfl) (by kernel_rfl) ?_
       refine At.res 72 (true) true (by kernel_rfl) (by first | assumption | (simp only [*]; done) | (simp [*]; done)) ?_
       refine At.toJ (Rws.stable) Rws.fewer 0 300 [72] 0 ⟨pops B5 pAP3 9, [.seq (sub B5 pAP6), .seq (sub B5 pAP5)], [(72, .v (.bool true))], []⟩ (by kernel_rfl) (by kernel_rfl) ?_
       refine At.call Rws.stable 8 [] (.v (.bool true)) (by kernel_rfl) (by kernel_rfl) (by kernel_rfl) (fun _ _ w1 hi _ => known_true w1 (hw.below hi.mem.below)) ?_
       refine At.toJ (Rws.stable) Rws.fewer 0 300 [4] 0 ⟨.exit .ret, [], [(4, .v (.bool true))], []⟩ (by kernel_rfl) (by kernel_rfl) ?_
       refine At.ret (by kernel_rfl) (.v (.bool true)) (by kernel_rfl) ?_
       intro ρ w9 hm' hf
       exact ⟨rfl, hm'.below⟩
      ·refine At.res 60 ((V5.mk cc1 ww1 AA1 nn1 kk1 cc2 ww2 AA2 nn2 kk2 e f L).e != 0) false (by kernel_rfl) b0 ?_
       refine At.toJ (Rws.stable) Rws.fewer 0 300 [5, 7, 9, 10, 63] 4 ⟨.code (sub B5 pAP4), [.seq (sub B5 pAP5)], [(5, .lp 1 0), (7, .lp 2 0), (9, .lp 3 0), (10, .io .i64 2), (63, .bo (f != 0))], [((cwAP g s k sz sl of gp lt ea d wk A n cap), 28), ([.io .i64 (V5.mk cc1 ww1 AA1 nn1 kk1 cc2 ww2 AA2 nn2 kk2 e f L).c1.g, .io .i64 (V5.mk cc1 ww1 AA1 nn1 kk1 cc2 ww2 AA2 nn2 kk2 e f L).c1.s, .io .i64 (V5.mk cc1 ww1 AA1 nn1 kk1 cc2 ww2 AA2 nn2 kk2 e f L).c1.k, .io .i64 (V5.mk cc1 ww1 AA1 nn1 kk1 cc2 ww2 AA2 nn2 kk2 e f L).c1.sz, .io .i64 (V5.mk cc1 ww1 AA1 nn1 kk1 cc2 ww2 AA2 nn2 kk2 e f L).c1.sl, .io .i64 (V5.mk cc1 ww1 AA1 nn1 kk1 cc2 ww2 AA2 nn2 kk2 e f L).c1.of, .io .i64 (V5.mk cc1 ww1 AA1 nn1 kk1 cc2 ww2 AA2 nn2 kk2 e f L).c1.gp, .io .i64 (V5.mk cc1 ww1 AA1 nn1 kk1 cc2 ww2 AA2 nn2 kk2 e f L).c1.lt, .io .i64 (V5.mk cc1 ww1 AA1 nn1 kk1 cc2 ww2 AA2 nn2 kk2 e f L).c1.ea, .bo (V5.mk cc1 ww1 AA1 nn1 kk1 cc2 ww2 AA2 nn2 kk2 e f L).c1.d, .io .i64 ww1, .sl AA1 nn1 kk1], 28), ([.io .i64 (V5.mk cc1 ww1 AA1 nn1 kk1 cc2 ww2 AA2 nn2 kk2 e f L).c2.g, .io .i64 (V5.mk cc1 ww1 AA1 nn1 kk1 cc2 ww2 AA2 nn2 kk2 e f L).c2.s, .io .i64 (V5.mk cc1 ww1 AA1 nn1 kk1 cc2 ww2 AA2 nn2 kk2 e f L).c2.k, .io .i64 (V5.mk cc1 ww1 AA1 nn1 kk1 cc2 ww2 AA2 nn2 kk2 e f L).c2.sz, .io .i64 (V5.mk cc1 ww1 AA1 nn1 kk1 cc2 ww2 AA2 nn2 kk2 e f L).c2.sl, .io .i64 (V5.mk cc1 ww1 AA1 nn1 kk1 cc2 ww2 AA2 nn2 kk2 e f L).c2.of, .io .i64 (V5.mk cc1 ww1 AA1 nn1 kk1 cc2 ww2 AA2 nn2 kk2 e f L).c2.gp, .io .i64 (V5.mk cc1 ww1 AA1 nn1 kk1 cc2 ww2 AA2 nn2 kk2 e f L).c2.lt, .io .i64 (V5.mk cc1 ww1 AA1 nn1 kk1 cc2 ww2 AA2 nn2 kk2 e f L).c2.ea, .bo (V5.mk cc1 ww1 AA1 nn1 kk1 cc2 ww2 AA2 nn2 kk2 e f L).c2.d, .io .i64 ww2, .sl AA2 nn2 kk2], 28), (zAP2, 28)]⟩ (by kernel_rfl) (by kernel_rfl) ?_
       rcases Bool.eq_false_or_eq_true (f != 0) with b1 | b1
       ·refine At.res 63 (f != 0) true (by kernel_rfl) b1 ?_
        refine At.toJ (Rws.stable) Rws.fewer 0 300 [9, 66] 4 ⟨pops B5 pAP3 3, [.seq (sub B5 pAP6), .seq (sub B5 pAP5)], [(9, .lp 3 0), (66, .bo true)], [((cwAP g s k sz sl of gp lt ea d wk A n cap), 28), ([.io .i64 (V5.mk cc1 ww1 AA1 nn1 kk1 cc2 ww2 AA2 nn2 kk2 e f L).c1.g, .io .i64 (V5.mk cc1 ww1 AA1 nn1 kk1 cc2 ww2 AA2 nn2 kk2 e f L).c1.s, .io .i64 (V5.mk cc1 ww1 AA1 nn1 kk1 cc2 ww2 AA2 nn2 kk2 e f L).c1.k, .io .i64 (V5.mk cc1 ww1 AA1 nn1 kk1 cc2 ww2 AA2 nn2 kk2 e f L).c1.sz, .io .i64 (V5.mk cc1 ww1 AA1 nn1 kk1 cc2 ww2 AA2 nn2 kk2 e f L).c1.sl, .io .i64 (V5.mk cc1 ww1 AA1 nn1 kk1 cc2 ww2 AA2 nn2 kk2 e f L).c1.of, .io .i64 (V5.mk cc1 ww1 AA1 nn1 kk1 cc2 ww2 AA2 nn2 kk2 e f L).c1.gp, .io .i64 (V5.mk cc1 ww1 AA1 nn1 kk1 cc2 ww2 AA2 nn2 kk2 e f L).c1.lt, .io .i64 (V5.mk cc1 ww1 AA1 nn1 kk1 cc2 ww2 AA2 nn2 kk2 e f L).c1.ea, .bo (V5.mk cc1 ww1 AA1 nn1 kk1 cc2 ww2 AA2 nn2 kk2 e f L).c1.d, .io .i64 ww1, .sl AA1 nn1 kk1], 28), ([.io .i64 (V5.mk cc1 ww1 AA1 nn1 kk1 cc2 ww2 AA2 nn2 kk2 e f L).c2.g, .io .i64 (V5.mk cc1 ww1 AA1 nn1 kk1 cc2 ww2 AA2 nn2 kk2 e f L).c2.s, .io .i64 (V5.mk cc1 ww1 AA1 nn1 kk1 cc2 ww2 AA2 nn2 kk2 e f L).c2.k, .io .i64 (V5.mk cc1 ww1 AA1 nn1 kk1 cc2 ww2 AA2 nn2 kk2 e f L).c2.sz, .io .i64 (V5.mk cc1 ww1 AA1 nn1 kk1 cc2 ww2 AA2 nn2 kk2 e f L).c2.sl, .io .i64 (V5.mk cc1 ww1 AA1 nn1 kk1 cc2 ww2 AA2 nn2 kk2 e f L).c2.of, .io .i64 (V5.mk cc1 ww1 AA1 nn1 kk1 cc2 ww2 AA2 nn2 kk2 e f L).c2.gp, .io .i64 (V5.mk cc1 ww1 AA1 nn1 kk1 cc2 ww2 AA2 nn2 kk2 e f L).c2.lt, .io .i64 (V5.mk cc1 ww1 AA1 nn1 kk1 cc2 ww2 AA2 nn2 kk2 e f L).c2.ea, .bo (V5.mk cc1 ww1 AA1 nn1 kk1 cc2 ww2 AA2 nn2 kk2 e f L).c2.d, .io .i64 ww2, .sl AA2 nn2 kk2], 28), (zAP2, 28)]⟩ (by kernel_rfl) (by kernel_rfl) ?_
        refine At.res 66 (true) true (by kernel_rfl) (by first | assumption | (simp only [*]; done) | (simp [*]; done)) ?_
        refine At.toJ (Rws.stable) Rws.fewer 0 300 [72] 0 ⟨pops B5 pAP3 9, [.seq (sub B5 pAP6), .seq (sub B5 pAP5)], [(72, .bo true)], []⟩ (by kernel_rfl) (by kernel_rfl) ?_
        refine At.res 72 (true) true (by kernel_rfl) (by first | assumption | (simp only [*]; done) | (simp [*]; done)) ?_
        refine At.toJ (Rws.stable) Rws.fewer 0 300 [72] 0 ⟨pops B5 pAP3 9, [.seq (sub B5 pAP6), .seq (sub B5 pAP5)], [(72, .v (.bool true))], []⟩ (by kernel_rfl) (by kernel_rfl) ?_
        refine At.call Rws.stable 8 [] (.v (.bool true)) (by kernel_rfl) (by kernel_rfl) (by kernel_rfl) (fun _ _ w1 hi _ => known_true w1 (hw.below hi.mem.below)) ?_
        refine At.toJ (Rws.stable) Rws.fewer 0 300 [4] 0 ⟨.exit .ret, [], [(4, .v (.bool true))], []⟩ (by kernel_rfl) (by kernel_rfl) ?_
        refine At.ret (by kernel_rfl) (.v (.bool true)) (by kernel_rfl) ?_
        intro ρ w9 hm' hf
        exact ⟨rfl, hm'.below⟩
       ·refine At.res 63 (f != 0) false (by kernel_rfl) b1 ?_
        exfalso
        simp only [bne_iff_ne, ne_eq, bne_eq_false_iff_eq] at b0 b1
        exact hef.elim (fun h => h b0) (fun h => h b1)
end Go.Proofs.YthfpekhpeiebjaaGreatDoor
end
