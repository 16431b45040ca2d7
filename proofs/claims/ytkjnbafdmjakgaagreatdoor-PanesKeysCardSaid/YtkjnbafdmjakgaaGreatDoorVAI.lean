/- Joined texts: TE, BL, ShB, RE, RF, NP, RG, RH, BP. -/
import Derived.Test.YtkjnbafdmjakgaaGreatDoorVAH
import Derived.Shelf.Strings.Builder1
import Derived.Shelf.Strings.Cut
set_option linter.unusedSimpArgs false
set_option linter.unusedVariables false
namespace Go.Sx
open Go
def pAI0 : List Nat := [1, 0, 4, 1, 2, 1, 0, 1, 2, 1]
def pAI1 : List Nat := [1, 0, 4, 1, 3, 1, 2, 1, 0, 1]
def pAI2 : List Nat := [1, 0, 4, 1, 3, 1, 2, 1, 1, 0]
def pAI3 : List Nat := [1, 0, 4, 1, 3, 1, 2, 1, 1, 1]
def pAI4 : List Nat := [1, 0, 4, 1, 3, 1, 2, 1, 1]
def pAI5 : List Nat := [1, 0, 4, 1, 2, 1, 0, 1]
def pAI6 : List Nat := [1, 0, 4, 1, 2, 1, 1, 0]
def pAI7 : List Nat := [1, 0, 4, 1, 2, 1, 1, 1]
def pAI8 : List Nat := [1, 0, 4, 1, 2, 1, 1]
def pAI9 : List Nat := [1, 0, 4, 1, 3, 0]
def pAI10 : List Nat := [1, 0, 4, 1, 3, 1]
def pAI11 : List Nat := [1, 1]
end Go.Sx
section
namespace Go.Proofs.YtkjnbafdmjakgaaGreatDoor
open Go.RowKit Go.Sx
theorem Tr.even_no {κ ν : Type} {k : κ} {v : ν} {l r : Tr κ ν} (h1 : ¬ r.high + 1 < l.high) (h2 : ¬ l.high + 1 < r.high) : Tr.even k v l r = .node k v l r := by
 unfold Tr.even
 rw [if_neg h1, if_neg h2]
theorem Tr.even_l1 {κ ν : Type} {k lk : κ} {v lv : ν} {ll lr r : Tr κ ν} (h1 : r.high + 1 < (Tr.node lk lv ll lr).high) (h2 : lr.high ≤ ll.high) : Tr.even k v (.node lk lv ll lr) r = .node lk lv ll (.node k v lr r) := by
 unfold Tr.even
 rw [if_pos h1]
 simp only [if_pos h2]
theorem Tr.even_l2 {κ ν : Type} {k lk mk : κ} {v lv mv : ν} {ll ml mr r : Tr κ ν} (h1 : r.high + 1 < (Tr.node lk lv ll (Tr.node mk mv ml mr)).high) (h2 : ¬ (Tr.node mk mv ml mr).high ≤ ll.high) : Tr.even k v (.node lk lv ll (.node mk mv ml mr)) r = .node mk mv (.node lk lv ll ml) (.node k v mr r) := by
 unfold Tr.even
 rw [if_pos h1]
 simp only [if_neg h2]
theorem Tr.even_r1 {κ ν : Type} {k rk : κ} {v rv : ν} {rl rr l : Tr κ ν} (h0 : ¬ (Tr.node rk rv rl rr).high + 1 < l.high) (h1 : l.high + 1 < (Tr.node rk rv rl rr).high) (h2 : rl.high ≤ rr.high) : Tr.even k v l (.node rk rv rl rr) = .node rk rv (.node k v l rl) rr := by
 unfold Tr.even
 rw [if_neg h0, if_pos h1]
 simp only [if_pos h2]
theorem Tr.even_r2 {κ ν : Type} {k rk mk : κ} {v rv mv : ν} {ml mr rr l : Tr κ ν} (h0 : ¬ (Tr.node rk rv (Tr.node mk mv ml mr) rr).high + 1 < l.high) (h1 : l.high + 1 < (Tr.node rk rv (Tr.node mk mv ml mr) rr).high) (h2 : ¬ (Tr.node mk mv ml mr).high ≤ rr.high) : Tr.even k v l (.node rk rv (.node mk mv ml mr) rr) = .node mk mv (.node k v l ml) (.node rk rv mr rr) := by
 unfold Tr.even
 rw [if_neg h0, if_pos h1]
 simp only [if_neg h2]
theorem FcF.perm {κ ν : Type} {kw : κ → List Value} {vw : ν → List Value} {ρ0 : List Nat} {L L' : List (Fc κ ν)} {ρ : List Nat} {w : World} (h : FcF kw vw ρ0 L ρ w) (hs : ∀ f ∈ L', f ∈ L) : FcF kw vw ρ0 L' ρ w := fun f hf => h f (hs f hf)
theorem fc_two {κ ν : Type} {kw : κ → List Value} {vw : ν → List Value} {ρ0 : List Nat} {p q : Option Addr} {t u : Tr κ ν} {w : World} (h1 : TrF kw vw p t ρ0 w) (h2 : TrF kw vw q u ρ0 w) : FcF kw vw ρ0 [.tr p t, .tr q u] [] w := fun f hf => by
 rcases List.mem_cons.1 hf with rfl | hf
 ·show TrF kw vw p t (ρ0 ++ []) w
  rw [List.append_nil]; exact h1
 rcases List.mem_cons.1 hf with rfl | hf
 ·show TrF kw vw q u (ρ0 ++ []) w
  rw [List.append_nil]; exact h2
 cases hf
theorem FcT.stable {κ ν : Type} {kw : κ → List Value} {vw : ν → List Value} {ρ0 : List Nat} {L : List (Fc κ ν)} {p : Option Addr} {t : Tr κ ν} : Stable (fun ρ w => FcF kw vw ρ0 L ρ w ∧ TrF kw vw p t (ρ0 ++ ρ) w) := FcF.stable.and TrF.stable
theorem FcT.fewer {κ ν : Type} {kw : κ → List Value} {vw : ν → List Value} {ρ0 : List Nat} {L : List (Fc κ ν)} {p : Option Addr} {t : Tr κ ν} : FewerK 0 (fun ρ w => FcF kw vw ρ0 L ρ w ∧ TrF kw vw p t (ρ0 ++ ρ) w) := FewerK.and2 FcF.fewer TrF.fewer
theorem part_k {k : AtK} {v : Pn} {p q : Option Addr} {h m j : Nat} {u : Value} {ρ : List Nat} (hj : (SV.denL ρ [.so (mkB k.key), .io .i64 k.st, .io .i64 k.en])[j]? = some u) : (nodeW kw2 vw2 k v p q h m)[0 + j]? = some u := by
 have h1 := (List.getElem?_eq_some_iff.1 hj).1
 rw [show (SV.denL ρ [.so (mkB k.key), .io .i64 k.st, .io .i64 k.en]).length = 3 from rfl] at h1
 have : j = 0 ∨ j = 1 ∨ j = 2 := by omega
 rcases this with rfl | rfl | rfl <;> exact hj
theorem part_v {k : AtK} {v : Pn} {p q : Option Addr} {h m j : Nat} {u : Value} {ρ : List Nat} (hj : (SV.denL ρ [.so (mkB v.key), .io .i64 v.st, .io .i64 v.en, .io .i64 v.kd, .io .i64 v.nt, .io .i64 v.ct, .io .i64 v.sm, .io .i64 v.mn, .io .i64 v.mx])[j]? = some u) : (nodeW kw2 vw2 k v p q h m)[3 + j]? = some u := by
 have h1 := (List.getElem?_eq_some_iff.1 hj).1
 rw [show (SV.denL ρ [.so (mkB v.key), .io .i64 v.st, .io .i64 v.en, .io .i64 v.kd, .io .i64 v.nt, .io .i64 v.ct, .io .i64 v.sm, .io .i64 v.mn, .io .i64 v.mx]).length = 9 from rfl] at h1
 have : j = 0 ∨ j = 1 ∨ j = 2 ∨ j = 3 ∨ j = 4 ∨ j = 5 ∨ j = 6 ∨ j = 7 ∨ j = 8 := by omega
 rcases this with rfl | rfl | rfl | rfl | rfl | rfl | rfl | rfl | rfl <;> exact hj
theorem StepK.pureXE {P : Program} {N : Nat} {w0 : World} {ntm : Nat} {F : List Nat → World → Prop} {all : Array Oper} {L0 : Array Bool} {kn : List (Nat × Kn)} {fr0 : Fr} {loc : Sx.Loc} {i : Nat} {X : Type} {r : X → SV} {G : X → List Nat → World → Prop} (j t : Nat) (hk : knOf kn i = some (.ex X r G)) (hat : (atK all L0 kn fr0 i).isSome = true) (hj : exAt all L0 i j = some t) (hkj : knOf kn j = some (.ex X r G))
  (hq : ∀ x, ((atK all L0 kn fr0 i).bind fun y => pureOp P loc ((t, r x) :: y.2) y.1.op) = some (r x)) : StepK P N w0 ntm F all L0 kn fr0 loc i :=
 StepK.runXE j t hk hat hj hkj fun o fr ho x ρ a w ha hw hf hx => by
  have h := hq x
  rw [ho] at h
  exact ⟨x, run_pureOp (N := N) (w0 := w0) ha (fun _ => hw) h, hx⟩
theorem At.drawnE {P : Program} {Q : Exit → Act → World → Prop} {N : Nat} {w0 : World} {ntm : Nat} {F : List Nat → World → Prop} {X : Type} {s : S} {all : Array Oper} {g : Nat} {dn : List Nat} (kn : List (Nat × Kn)) (js : List Nat) (fr' : Fr) (j t : Nat) (r : X → SV) (G : X → List Nat → World → Prop) (hpc : s.pc = .any all g dn) (hok : okK ntm all g (listedOf all.size dn) kn = true) (hjs : pendL all.size (listedOf all.size dn) = js) (hF : Stable F) (hkn : knSts kn)
  (hst : allOf js fun i => StepK P N w0 ntm F all (listedOf all.size dn) kn (drops ((unl all (listedOf all.size dn)).filterMap (·.dst)) s.fr) s.loc i)
  (hsub : subFr fr' (eqFr all (listedOf all.size dn) kn js (drops ((unl all (listedOf all.size dn)).filterMap (·.dst)) s.fr))) (hj : ((all[j]?).bind fun o => match (listedOf all.size dn).getD j true with | false => o.dst | true => none) = some t) (hkj : knOf kn j = some (.ex X r G))
  (h : ∀ x, At P Q N w0 ntm (fun ρ w => F ρ w ∧ G x ρ w) ⟨.exit .normal, s.ks, (t, r x) :: fr', s.loc⟩) : At P Q N w0 ntm F s :=
 At.drawnY (Y := X) kn js (fun x => (t, r x) :: fr') (fun x ρ w => F ρ w ∧ G x ρ w) hpc hok hjs hF hkn hst (fun ρ a w ha hd hf => by
  obtain ⟨o, ho, hm⟩ := Option.bind_eq_some_iff.1 hj
  split at hm
  ·rename_i h0
   obtain ⟨v, hv, x, rfl, hx⟩ := hd j o t _ ho h0 (by have := (Array.getElem?_eq_some_iff.1 ho).1; simp [this]) hm hkj
   exact ⟨x, (ha.sub hsub).moreK hv, hf, hx⟩
  cases hm) h
noncomputable def B60 : Code := (Tryz.f60.body).getD .skip
set_option maxHeartbeats 20000000 in
set_option maxRecDepth 100000 in
theorem even1_any {ρ0 : List Nat} (k : List UInt8) (v : SlV) {pl pr : Option Addr} {l r : Tr (List UInt8) (SlV)} (w : World) (hρ : ∀ x ∈ ρ0, x < w.heap.size) (hl : TrF kw1 vw1 pl l ρ0 w) (hr : TrF kw1 vw1 pr r ρ0 w) (hn : l.many + r.many ≤ 900000) :
  Calls Tryz.prog 60 #[.string (mkB k), .slice v.A v.n v.c, .pointer pl, .pointer pr] w fun e w' => ∃ p, e = .returned (.pointer p) ∧ TrF kw1 vw1 p (Tr.even k v l r) ρ0 w' ∧ Below w.heap.size w w' := by
 have hhl := Tr.high_le l
 have hhr := Tr.high_le r
 have hwr : IntKind.i64.wrap ((r.high : Int) + 1) = ((r.high + 1 : Nat) : Int) := by
  rw [wrap63 (by omega) (by omega)]
  omega
 have hwl : IntKind.i64.wrap ((l.high : Int) + 1) = ((l.high + 1 : Nat) : Int) := by
  rw [wrap63 (by omega) (by omega)]
  omega
 refine enterF (N := w.heap.size) (F := FcF kw1 vw1 ρ0 [.tr pl l, .tr pr r]) (fn := Tryz.f60) (c := B60) [.so (mkB k), .sl v.A v.n v.c, .v (.pointer pl), .v (.pointer pr)] Tryz.func60 rfl rfl (Nat.le_refl _) (fc_two hl hr) ?_
 refine zT FcF.stable FcF.fewer [0, 1, 2, 3, 14] 0 ⟨pops B60 [1, 0, 4, 0] 1, [.seq (sub B60 [1, 0, 4, 1]), .block 0, .seq (sub B60 pAI11)], [(0, .so (mkB k)), (1, .sl v.A v.n v.c), (2, .v (.pointer pl)), (3, .v (.pointer pr)), (14, .v (.pointer pl))], []⟩ ?_
 refine zC FcF.stable 78 [.v (.pointer pl)] (.io .i64 (l.high : Int)) (fun ρ _ w1 hi hf => high1_any w1 (hf.tree (.head _))) ?_
 refine zT FcF.stable FcF.fewer [0, 1, 2, 3, 15, 16] 0 ⟨pops B60 [1, 0, 4, 0] 3, [.seq (sub B60 [1, 0, 4, 1]), .block 0, .seq (sub B60 pAI11)], [(0, .so (mkB k)), (1, .sl v.A v.n v.c), (2, .v (.pointer pl)), (3, .v (.pointer pr)), (15, .io .i64 (↑l.high : Int)), (16, .v (.pointer pr))], []⟩ ?_
 refine zC FcF.stable 78 [.v (.pointer pr)] (.io .i64 (r.high : Int)) (fun ρ _ w1 hi hf => high1_any w1 (hf.tree (.tail _ (.head _)))) ?_
 refine zTq FcF.stable FcF.fewer [0, 1, 2, 3, 13] 0 ?_
 rcases Bool.eq_false_or_eq_true (decide ((↑l.high : Int) > IntKind.i64.wrap ((↑r.high : Int) + 1))) with b0 | b0
 ·refine zR 13 b0 ?_
  refine zT FcF.stable FcF.fewer [0, 1, 3, 9, 21] 0 ⟨pqops B60 [1, 0, 4, 1, 2, 1, 0, 0] 1, [.seq (sub B60 pAI5), .seq (sub B60 pAI8), .block 0, .seq (sub B60 pAI11)], [(0, .so (mkB k)), (1, .sl v.A v.n v.c), (3, .v (.pointer pr)), (9, .v (.pointer pl)), (21, .v (.pointer pl))], []⟩ ?_
  have hA : r.high + 1 < l.high := by have h9 := of_decide_eq_true b0; rw [hwr] at h9; omega
  clear b0
  obtain ⟨lk, lv, ll, lr, rfl⟩ : ∃ x y z u, l = Tr.node x y z u := by
   cases l with
   | nil => simp only [Tr.high] at hA; omega
   | node x y z u => exact ⟨x, y, z, u, rfl⟩
  refine At.mono (F' := FcF kw1 vw1 ρ0 [.tr pl (Tr.node lk lv ll lr), .tr pr (r)]) (fun ρ w1 h => h.perm (by simp)) ?_
  refine At.mono (fun ρ w1 h => FcF.apart h) (At.ex fun x => ?_)
  obtain ⟨lb, pll, plr⟩ := x
  refine At.mono (F' := fun ρ w1 => FcF kw1 vw1 ρ0 [.cel lb (nodeW kw1 vw1 lk lv pll plr (Tr.node lk lv ll lr).high (Tr.node lk lv ll lr).many), .tr pll (ll), .tr plr (lr), .tr pr (r)] ρ w1 ∧ pl = some ⟨lb, 0, none⟩) (fun ρ w1 h => ⟨h.2, h.1⟩) (At.pure fun hp => ?_)
  subst hp
  refine At.nck ⟨lb, 0, none⟩ (by kernel_rfl) FcF.stable ?_
  refine zT FcF.stable FcF.fewer [0, 1, 3, 9, 22] 0 ⟨pqops B60 [1, 0, 4, 1, 2, 1, 0, 0] 2, [.seq (sub B60 pAI5), .seq (sub B60 pAI8), .block 0, .seq (sub B60 pAI11)], [(0, .so (mkB k)), (1, .sl v.A v.n v.c), (3, .v (.pointer pr)), (9, .v (.pointer (some (Addr.mk lb 0 none)))), (22, .v (.pointer (some (Addr.mk lb 0 none))))], []⟩ ?_
  refine At.fax ⟨lb, 0, none⟩ 2 (by kernel_rfl) FcF.stable ?_
  refine zT FcF.stable FcF.fewer [0, 1, 3, 9, 23] 0 ⟨pqops B60 [1, 0, 4, 1, 2, 1, 0, 0] 3, [.seq (sub B60 pAI5), .seq (sub B60 pAI8), .block 0, .seq (sub B60 pAI11)], [(0, .so (mkB k)), (1, .sl v.A v.n v.c), (3, .v (.pointer pr)), (9, .v (.pointer (some (Addr.mk lb 0 none)))), (23, .v (.pointer (some (Addr.mk lb 2 none))))], []⟩ ?_
  refine At.ldx ((⟨lb, 0, none⟩ : Addr).add 2) (.v (.pointer pll)) (by kernel_rfl) FcF.stable (fun ρ w1 hm' hf => hf.cell (.head _) rfl) ?_
  refine zT FcF.stable FcF.fewer [0, 1, 3, 9, 24] 0 ⟨pqops B60 [1, 0, 4, 1, 2, 1, 0, 0] 4, [.seq (sub B60 pAI5), .seq (sub B60 pAI8), .block 0, .seq (sub B60 pAI11)], [(0, .so (mkB k)), (1, .sl v.A v.n v.c), (3, .v (.pointer pr)), (9, .v (.pointer (some (Addr.mk lb 0 none)))), (24, .v (.pointer pll))], []⟩ ?_
  refine zC FcF.stable 78 [.v (.pointer pll)] (.io .i64 (ll.high : Int)) (fun ρ _ w1 hi hf => high1_any w1 (hf.tree (.tail _ (.head _)))) ?_
  refine zT FcF.stable FcF.fewer [0, 1, 3, 9, 25, 26] 0 ⟨pqops B60 [1, 0, 4, 1, 2, 1, 0, 0] 6, [.seq (sub B60 pAI5), .seq (sub B60 pAI8), .block 0, .seq (sub B60 pAI11)], [(0, .so (mkB k)), (1, .sl v.A v.n v.c), (3, .v (.pointer pr)), (9, .v (.pointer (some (Addr.mk lb 0 none)))), (25, .io .i64 (↑ll.high : Int)), (26, .v (.pointer (some (Addr.mk lb 0 none))))], []⟩ ?_
  refine At.nck ⟨lb, 0, none⟩ (by kernel_rfl) FcF.stable ?_
  refine zT FcF.stable FcF.fewer [0, 1, 3, 9, 25, 27] 0 ⟨pqops B60 [1, 0, 4, 1, 2, 1, 0, 0] 7, [.seq (sub B60 pAI5), .seq (sub B60 pAI8), .block 0, .seq (sub B60 pAI11)], [(0, .so (mkB k)), (1, .sl v.A v.n v.c), (3, .v (.pointer pr)), (9, .v (.pointer (some (Addr.mk lb 0 none)))), (25, .io .i64 (↑ll.high : Int)), (27, .v (.pointer (some (Addr.mk lb 0 none))))], []⟩ ?_
  refine At.fax ⟨lb, 0, none⟩ 3 (by kernel_rfl) FcF.stable ?_
  refine zT FcF.stable FcF.fewer [0, 1, 3, 9, 25, 28] 0 ⟨pqops B60 [1, 0, 4, 1, 2, 1, 0, 0] 8, [.seq (sub B60 pAI5), .seq (sub B60 pAI8), .block 0, .seq (sub B60 pAI11)], [(0, .so (mkB k)), (1, .sl v.A v.n v.c), (3, .v (.pointer pr)), (9, .v (.pointer (some (Addr.mk lb 0 none)))), (25, .io .i64 (↑ll.high : Int)), (28, .v (.pointer (some (Addr.mk lb 3 none))))], []⟩ ?_
  refine At.ldx ((⟨lb, 0, none⟩ : Addr).add 3) (.v (.pointer plr)) (by kernel_rfl) FcF.stable (fun ρ w1 hm' hf => hf.cell (.head _) rfl) ?_
  refine zT FcF.stable FcF.fewer [0, 1, 3, 9, 25, 29] 0 ⟨pqops B60 [1, 0, 4, 1, 2, 1, 0, 0] 9, [.seq (sub B60 pAI5), .seq (sub B60 pAI8), .block 0, .seq (sub B60 pAI11)], [(0, .so (mkB k)), (1, .sl v.A v.n v.c), (3, .v (.pointer pr)), (9, .v (.pointer (some (Addr.mk lb 0 none)))), (25, .io .i64 (↑ll.high : Int)), (29, .v (.pointer plr))], []⟩ ?_
  refine zC FcF.stable 78 [.v (.pointer plr)] (.io .i64 (lr.high : Int)) (fun ρ _ w1 hi hf => high1_any w1 (hf.tree (.tail _ (.tail _ (.head _))))) ?_
  refine zTq FcF.stable FcF.fewer [0, 1, 3, 9, 31] 0 ?_
  rcases Bool.eq_false_or_eq_true (decide ((↑ll.high : Int) ≥ (↑lr.high : Int))) with b0 | b0
  ·refine zR 31 b0 ?_
   refine zT FcF.stable FcF.fewer [0, 1, 3, 9] 0 ⟨.any (opsOf (sub B60 [1, 0, 4, 1, 2, 1, 0, 1, 2, 0])) 22 [], [.seq (sub B60 pAI0), .seq (sub B60 pAI8), .block 0, .seq (sub B60 pAI11)], [(0, .so (mkB k)), (1, .sl v.A v.n v.c), (3, .v (.pointer pr)), (9, .v (.pointer (some (Addr.mk lb 0 none))))], []⟩ ?_
   have hC : lr.high ≤ ll.high := by have h9 := of_decide_eq_true b0; omega
   refine At.drawnE [(0, .eq (.v (.pointer (some ⟨lb, 0, none⟩)))), (1, .eq (.v (.pointer (some ⟨lb, 0, none⟩)))), (2, .eq (.v (.pointer (some ((⟨lb, 0, none⟩ : Addr).add 0))))), (3, .eq (.so (mkB lk))), (4, .eq (.v (.pointer (some ⟨lb, 0, none⟩)))), (5, .eq (.v (.pointer (some ⟨lb, 0, none⟩)))), (6, .eq (.v (.pointer (some ((⟨lb, 0, none⟩ : Addr).add 1))))), (7, .eq (.sl lv.A lv.n lv.c)), (8, .eq (.v (.pointer (some ⟨lb, 0, none⟩)))), (9, .eq (.v (.pointer (some ⟨lb, 0, none⟩)))), (10, .eq (.v (.pointer (some ((⟨lb, 0, none⟩ : Addr).add 2))))), (11, .eq (.v (.pointer pll))), (12, .eq (.so (mkB k))), (13, .eq (.sl v.A v.n v.c)), (14, .eq (.v (.pointer (some ⟨lb, 0, none⟩)))), (15, .eq (.v (.pointer (some ⟨lb, 0, none⟩)))), (16, .eq (.v (.pointer (some ((⟨lb, 0, none⟩ : Addr).add 3))))), (17, .eq (.v (.pointer plr))), (18, .eq (.v (.pointer pr))), (19, .ex Nat (fun b => .v (.pointer (some ⟨b, 0, none⟩))) (fun b ρ w1 => TrF kw1 vw1 (some ⟨b, 0, none⟩) (Tr.node k v (lr) (r)) (ρ0 ++ ρ) w1)), (20, .ex Nat (fun b => .v (.pointer (some ⟨b, 0, none⟩))) (fun b ρ w1 => TrF kw1 vw1 (some ⟨b, 0, none⟩) (Tr.node lk lv (ll) (Tr.node k v (lr) (r))) (ρ0 ++ ρ) w1)), (21, .ex Nat (fun b => .v (.pointer (some ⟨b, 0, none⟩))) (fun b ρ w1 => TrF kw1 vw1 (some ⟨b, 0, none⟩) (Tr.node lk lv (ll) (Tr.node k v (lr) (r))) (ρ0 ++ ρ) w1))] [0, 1, 2, 3, 4, 5, 6, 7, 8, 9, 10, 11, 12, 13, 14, 15, 16, 17, 18, 19, 20, 21] [] 21 8 (fun b => .v (.pointer (some ⟨b, 0, none⟩))) (fun b ρ w1 => TrF kw1 vw1 (some ⟨b, 0, none⟩) (Tr.node lk lv (ll) (Tr.node k v (lr) (r))) (ρ0 ++ ρ) w1) rfl (by kernel_rfl) (by kernel_rfl) FcF.stable (by exact ⟨trivial, trivial, trivial, trivial, trivial, trivial, trivial, trivial, trivial, trivial, trivial, trivial, trivial, trivial, trivial, trivial, trivial, trivial, trivial, fun b => TrF.stable, fun b => TrF.stable, fun b => TrF.stable, trivial⟩) (by exact ⟨StepK.pure (by kernel_rfl) rfl,
    StepK.nck ⟨lb, 0, none⟩ (by kernel_rfl) rfl,
    StepK.fax ⟨lb, 0, none⟩ 0 (by kernel_rfl) rfl,
    StepK.ldx ((⟨lb, 0, none⟩ : Addr).add 0) (by kernel_rfl) rfl (fun ρ w1 hm hf => hf.cell (.head _) rfl),
    StepK.pure (by kernel_rfl) rfl,
    StepK.nck ⟨lb, 0, none⟩ (by kernel_rfl) rfl,
    StepK.fax ⟨lb, 0, none⟩ 1 (by kernel_rfl) rfl,
    StepK.ldx ((⟨lb, 0, none⟩ : Addr).add 1) (by kernel_rfl) rfl (fun ρ w1 hm hf => hf.cell (.head _) rfl),
    StepK.pure (by kernel_rfl) rfl,
    StepK.nck ⟨lb, 0, none⟩ (by kernel_rfl) rfl,
    StepK.fax ⟨lb, 0, none⟩ 2 (by kernel_rfl) rfl,
    StepK.ldx ((⟨lb, 0, none⟩ : Addr).add 2) (by kernel_rfl) rfl (fun ρ w1 hm hf => hf.cell (.head _) rfl),
    StepK.pure (by kernel_rfl) rfl,
    StepK.pure (by kernel_rfl) rfl,
    StepK.pure (by kernel_rfl) rfl,
    StepK.nck ⟨lb, 0, none⟩ (by kernel_rfl) rfl,
    StepK.fax ⟨lb, 0, none⟩ 3 (by kernel_rfl) rfl,
    StepK.ldx ((⟨lb, 0, none⟩ : Addr).add 3) (by kernel_rfl) rfl (fun ρ w1 hm hf => hf.cell (.head _) rfl),
    StepK.pure (by kernel_rfl) rfl,
    StepK.call 59 [.so (mkB k), .sl v.A v.n v.c, .v (.pointer plr), .v (.pointer pr)] (by kernel_rfl) rfl (by kernel_rfl) (fun ρ w1 hm hf => (with1_any k v w1 (low_all hm hρ rfl) (hf.tree (.tail _ (.tail _ (.head _)))) (hf.tree (.tail _ (.tail _ (.tail _ (.head _))))) (by simp only [Tr.many] at hn ⊢; omega)).mono fun e w2 h => by
     obtain ⟨b, h1, h2, h3⟩ := h
     exact ⟨_, h1, ⟨b, rfl, h2⟩, h3⟩),
    StepK.callX 19 51 59 (fun x => [.so (mkB lk), .sl lv.A lv.n lv.c, .v (.pointer pll), .v (.pointer (some ⟨x, 0, none⟩))]) (by kernel_rfl) (by kernel_rfl) rfl (fun x => by kernel_rfl) rfl (by kernel_rfl) (fun x ρ w1 hm hf hx => (with1_any lk lv w1 (low_all hm hρ rfl) (hf.tree (.tail _ (.head _))) hx (by simp only [Tr.many] at hn ⊢; omega)).mono fun e w2 h => by
     obtain ⟨b, h1, h2, h3⟩ := h
     exact ⟨_, h1, ⟨b, rfl, h2⟩, h3⟩),
    StepK.pureXE 20 52 rfl (by kernel_rfl) (by kernel_rfl) rfl (fun b => by kernel_rfl), trivial⟩) (by unfold subFr; kernel_rfl) (by kernel_rfl) rfl (fun x => ?_)
   refine zT FcT.stable FcT.fewer [8] 0 ⟨.exit .ret, [], [(8, .v (.pointer (some (Addr.mk x 0 none))))], []⟩ ?_
   refine zE (.v (.pointer (some (Addr.mk x 0 none)))) ?_
   intro ρ w9 hm hf
   refine ⟨_, rfl, ?_, hm.below⟩
   rw [Tr.even_l1 hA hC]
   exact hf.2.sub (fun x hx => List.mem_append_left _ hx)
  refine zR 31 b0 ?_
  refine zT FcF.stable FcF.fewer [0, 1, 3, 9, 53] 0 ⟨pops B60 pAI6 1, [.seq (sub B60 pAI7), .block 0, .seq (sub B60 pAI11)], [(0, .so (mkB k)), (1, .sl v.A v.n v.c), (3, .v (.pointer pr)), (9, .v (.pointer (some (Addr.mk lb 0 none)))), (53, .v (.pointer (some (Addr.mk lb 0 none))))], []⟩ ?_
  refine At.nck ⟨lb, 0, none⟩ (by kernel_rfl) FcF.stable ?_
  refine zT FcF.stable FcF.fewer [0, 1, 3, 9, 54] 0 ⟨pops B60 pAI6 2, [.seq (sub B60 pAI7), .block 0, .seq (sub B60 pAI11)], [(0, .so (mkB k)), (1, .sl v.A v.n v.c), (3, .v (.pointer pr)), (9, .v (.pointer (some (Addr.mk lb 0 none)))), (54, .v (.pointer (some (Addr.mk lb 0 none))))], []⟩ ?_
  refine At.fax ⟨lb, 0, none⟩ 3 (by kernel_rfl) FcF.stable ?_
  refine zT FcF.stable FcF.fewer [0, 1, 3, 9, 55] 0 ⟨pops B60 pAI6 3, [.seq (sub B60 pAI7), .block 0, .seq (sub B60 pAI11)], [(0, .so (mkB k)), (1, .sl v.A v.n v.c), (3, .v (.pointer pr)), (9, .v (.pointer (some (Addr.mk lb 0 none)))), (55, .v (.pointer (some (Addr.mk lb 3 none))))], []⟩ ?_
  refine At.ldx ((⟨lb, 0, none⟩ : Addr).add 3) (.v (.pointer plr)) (by kernel_rfl) FcF.stable (fun ρ w1 hm' hf => hf.cell (.head _) rfl) ?_
  refine zT FcF.stable FcF.fewer [0, 1, 3, 9, 10] 0 ⟨.any (opsOf (sub B60 [1, 0, 4, 1, 2, 1, 1, 1, 0])) 35 [], [.seq (sub B60 pAI0), .block 0, .seq (sub B60 pAI11)], [(0, .so (mkB k)), (1, .sl v.A v.n v.c), (3, .v (.pointer pr)), (9, .v (.pointer (some (Addr.mk lb 0 none)))), (10, .v (.pointer plr))], []⟩ ?_
  have hC : ¬ lr.high ≤ ll.high := by have h9 := of_decide_eq_false b0; omega
  obtain ⟨mk, mv, ml, mr, rfl⟩ : ∃ x y z u, lr = Tr.node x y z u := by
   cases lr with
   | nil => simp only [Tr.high] at hC; omega
   | node x y z u => exact ⟨x, y, z, u, rfl⟩
  refine At.mono (F' := FcF kw1 vw1 ρ0 [.tr plr (Tr.node mk mv ml mr), .cel lb (nodeW kw1 vw1 lk lv pll plr (Tr.node lk lv ll (Tr.node mk mv ml mr)).high (Tr.node lk lv ll (Tr.node mk mv ml mr)).many), .tr pll (ll), .tr pr (r)]) (fun ρ w1 h => h.perm (by simp)) ?_
  refine At.mono (fun ρ w1 h => FcF.apart h) (At.ex fun x => ?_)
  obtain ⟨mb, pml, pmr⟩ := x
  refine At.mono (F' := fun ρ w1 => FcF kw1 vw1 ρ0 [.cel mb (nodeW kw1 vw1 mk mv pml pmr (Tr.node mk mv ml mr).high (Tr.node mk mv ml mr).many), .tr pml (ml), .tr pmr (mr), .cel lb (nodeW kw1 vw1 lk lv pll plr (Tr.node lk lv ll (Tr.node mk mv ml mr)).high (Tr.node lk lv ll (Tr.node mk mv ml mr)).many), .tr pll (ll), .tr pr (r)] ρ w1 ∧ plr = some ⟨mb, 0, none⟩) (fun ρ w1 h => ⟨h.2, h.1⟩) (At.pure fun hp => ?_)
  subst hp
  refine At.drawnE [(0, .eq (.v (.pointer (some ⟨mb, 0, none⟩)))), (1, .eq (.v (.pointer (some ⟨mb, 0, none⟩)))), (2, .eq (.v (.pointer (some ((⟨mb, 0, none⟩ : Addr).add 0))))), (3, .eq (.so (mkB mk))), (4, .eq (.v (.pointer (some ⟨mb, 0, none⟩)))), (5, .eq (.v (.pointer (some ⟨mb, 0, none⟩)))), (6, .eq (.v (.pointer (some ((⟨mb, 0, none⟩ : Addr).add 1))))), (7, .eq (.sl mv.A mv.n mv.c)), (8, .eq (.v (.pointer (some ⟨lb, 0, none⟩)))), (9, .eq (.v (.pointer (some ⟨lb, 0, none⟩)))), (10, .eq (.v (.pointer (some ((⟨lb, 0, none⟩ : Addr).add 0))))), (11, .eq (.so (mkB lk))), (12, .eq (.v (.pointer (some ⟨lb, 0, none⟩)))), (13, .eq (.v (.pointer (some ⟨lb, 0, none⟩)))), (14, .eq (.v (.pointer (some ((⟨lb, 0, none⟩ : Addr).add 1))))), (15, .eq (.sl lv.A lv.n lv.c)), (16, .eq (.v (.pointer (some ⟨lb, 0, none⟩)))), (17, .eq (.v (.pointer (some ⟨lb, 0, none⟩)))), (18, .eq (.v (.pointer (some ((⟨lb, 0, none⟩ : Addr).add 2))))), (19, .eq (.v (.pointer pll))), (20, .eq (.v (.pointer (some ⟨mb, 0, none⟩)))), (21, .eq (.v (.pointer (some ⟨mb, 0, none⟩)))), (22, .eq (.v (.pointer (some ((⟨mb, 0, none⟩ : Addr).add 2))))), (23, .eq (.v (.pointer pml))), (24, .ex Nat (fun b => .v (.pointer (some ⟨b, 0, none⟩))) (fun b ρ w1 => TrF kw1 vw1 (some ⟨b, 0, none⟩) (Tr.node lk lv (ll) (ml)) (ρ0 ++ ρ) w1)), (25, .eq (.so (mkB k))), (26, .eq (.sl v.A v.n v.c)), (27, .eq (.v (.pointer (some ⟨mb, 0, none⟩)))), (28, .eq (.v (.pointer (some ⟨mb, 0, none⟩)))), (29, .eq (.v (.pointer (some ((⟨mb, 0, none⟩ : Addr).add 3))))), (30, .eq (.v (.pointer pmr))), (31, .eq (.v (.pointer pr))), (32, .ex Nat (fun b => .v (.pointer (some ⟨b, 0, none⟩))) (fun b ρ w1 => TrF kw1 vw1 (some ⟨b, 0, none⟩) (Tr.node k v (mr) (r)) (ρ0 ++ ρ) w1)), (33, .ex Nat (fun b => .v (.pointer (some ⟨b, 0, none⟩))) (fun b ρ w1 => TrF kw1 vw1 (some ⟨b, 0, none⟩) (Tr.node mk mv (Tr.node lk lv (ll) (ml)) (Tr.node k v (mr) (r))) (ρ0 ++ ρ) w1)), (34, .ex Nat (fun b => .v (.pointer (some ⟨b, 0, none⟩))) (fun b ρ w1 => TrF kw1 vw1 (some ⟨b, 0, none⟩) (Tr.node mk mv (Tr.node lk lv (ll) (ml)) (Tr.node k v (mr) (r))) (ρ0 ++ ρ) w1))] [0, 1, 2, 3, 4, 5, 6, 7, 8, 9, 10, 11, 12, 13, 14, 15, 16, 17, 18, 19, 20, 21, 22, 23, 24, 25, 26, 27, 28, 29, 30, 31, 32, 33, 34] [] 34 8 (fun b => .v (.pointer (some ⟨b, 0, none⟩))) (fun b ρ w1 => TrF kw1 vw1 (some ⟨b, 0, none⟩) (Tr.node mk mv (Tr.node lk lv (ll) (ml)) (Tr.node k v (mr) (r))) (ρ0 ++ ρ) w1) rfl (by kernel_rfl) (by kernel_rfl) FcF.stable (by exact ⟨trivial, trivial, trivial, trivial, trivial, trivial, trivial, trivial, trivial, trivial, trivial, trivial, trivial, trivial, trivial, trivial, trivial, trivial, trivial, trivial, trivial, trivial, trivial, trivial, fun b => TrF.stable, trivial, trivial, trivial, trivial, trivial, trivial, trivial, fun b => TrF.stable, fun b => TrF.stable, fun b => TrF.stable, trivial⟩) (by exact ⟨StepK.pure (by kernel_rfl) rfl,
   StepK.nck ⟨mb, 0, none⟩ (by kernel_rfl) rfl,
   StepK.fax ⟨mb, 0, none⟩ 0 (by kernel_rfl) rfl,
   StepK.ldx ((⟨mb, 0, none⟩ : Addr).add 0) (by kernel_rfl) rfl (fun ρ w1 hm hf => hf.cell (.head _) rfl),
   StepK.pure (by kernel_rfl) rfl,
   StepK.nck ⟨mb, 0, none⟩ (by kernel_rfl) rfl,
   StepK.fax ⟨mb, 0, none⟩ 1 (by kernel_rfl) rfl,
   StepK.ldx ((⟨mb, 0, none⟩ : Addr).add 1) (by kernel_rfl) rfl (fun ρ w1 hm hf => hf.cell (.head _) rfl),
   StepK.pure (by kernel_rfl) rfl,
   StepK.nck ⟨lb, 0, none⟩ (by kernel_rfl) rfl,
   StepK.fax ⟨lb, 0, none⟩ 0 (by kernel_rfl) rfl,
   StepK.ldx ((⟨lb, 0, none⟩ : Addr).add 0) (by kernel_rfl) rfl (fun ρ w1 hm hf => hf.cell (.tail _ (.tail _ (.tail _ (.head _)))) rfl),
   StepK.pure (by kernel_rfl) rfl,
   StepK.nck ⟨lb, 0, none⟩ (by kernel_rfl) rfl,
   StepK.fax ⟨lb, 0, none⟩ 1 (by kernel_rfl) rfl,
   StepK.ldx ((⟨lb, 0, none⟩ : Addr).add 1) (by kernel_rfl) rfl (fun ρ w1 hm hf => hf.cell (.tail _ (.tail _ (.tail _ (.head _)))) rfl),
   StepK.pure (by kernel_rfl) rfl,
   StepK.nck ⟨lb, 0, none⟩ (by kernel_rfl) rfl,
   StepK.fax ⟨lb, 0, none⟩ 2 (by kernel_rfl) rfl,
   StepK.ldx ((⟨lb, 0, none⟩ : Addr).add 2) (by kernel_rfl) rfl (fun ρ w1 hm hf => hf.cell (.tail _ (.tail _ (.tail _ (.head _)))) rfl),
   StepK.pure (by kernel_rfl) rfl,
   StepK.nck ⟨mb, 0, none⟩ (by kernel_rfl) rfl,
   StepK.fax ⟨mb, 0, none⟩ 2 (by kernel_rfl) rfl,
   StepK.ldx ((⟨mb, 0, none⟩ : Addr).add 2) (by kernel_rfl) rfl (fun ρ w1 hm hf => hf.cell (.head _) rfl),
   StepK.call 59 [.so (mkB lk), .sl lv.A lv.n lv.c, .v (.pointer pll), .v (.pointer pml)] (by kernel_rfl) rfl (by kernel_rfl) (fun ρ w1 hm hf => (with1_any lk lv w1 (low_all hm hρ rfl) (hf.tree (.tail _ (.tail _ (.tail _ (.tail _ (.head _)))))) (hf.tree (.tail _ (.head _))) (by simp only [Tr.many] at hn ⊢; omega)).mono fun e w2 h => by
    obtain ⟨b, h1, h2, h3⟩ := h
    exact ⟨_, h1, ⟨b, rfl, h2⟩, h3⟩),
   StepK.pure (by kernel_rfl) rfl,
   StepK.pure (by kernel_rfl) rfl,
   StepK.pure (by kernel_rfl) rfl,
   StepK.nck ⟨mb, 0, none⟩ (by kernel_rfl) rfl,
   StepK.fax ⟨mb, 0, none⟩ 3 (by kernel_rfl) rfl,
   StepK.ldx ((⟨mb, 0, none⟩ : Addr).add 3) (by kernel_rfl) rfl (fun ρ w1 hm hf => hf.cell (.head _) rfl),
   StepK.pure (by kernel_rfl) rfl,
   StepK.call 59 [.so (mkB k), .sl v.A v.n v.c, .v (.pointer pmr), .v (.pointer pr)] (by kernel_rfl) rfl (by kernel_rfl) (fun ρ w1 hm hf => (with1_any k v w1 (low_all hm hρ rfl) (hf.tree (.tail _ (.tail _ (.head _)))) (hf.tree (.tail _ (.tail _ (.tail _ (.tail _ (.tail _ (.head _))))))) (by simp only [Tr.many] at hn ⊢; omega)).mono fun e w2 h => by
    obtain ⟨b, h1, h2, h3⟩ := h
    exact ⟨_, h1, ⟨b, rfl, h2⟩, h3⟩),
   StepK.callX2 24 81 32 89 59 (fun x y => [.so (mkB mk), .sl mv.A mv.n mv.c, .v (.pointer (some ⟨x, 0, none⟩)), .v (.pointer (some ⟨y, 0, none⟩))]) (by kernel_rfl) (by kernel_rfl) rfl (by kernel_rfl) rfl (fun x y => by kernel_rfl) rfl (by kernel_rfl) (fun x y ρ w1 hm hf hx hy => (with1_any mk mv w1 (low_all hm hρ rfl) hx hy (by simp only [Tr.many] at hn ⊢; omega)).mono fun e w2 h => by
    obtain ⟨b, h1, h2, h3⟩ := h
    exact ⟨_, h1, ⟨b, rfl, h2⟩, h3⟩),
   StepK.pureXE 33 90 rfl (by kernel_rfl) (by kernel_rfl) rfl (fun b => by kernel_rfl), trivial⟩) (by unfold subFr; kernel_rfl) (by kernel_rfl) rfl (fun x => ?_)
  refine zT FcT.stable FcT.fewer [8] 0 ⟨.exit .ret, [], [(8, .v (.pointer (some (Addr.mk x 0 none))))], []⟩ ?_
  refine zE (.v (.pointer (some (Addr.mk x 0 none)))) ?_
  intro ρ w9 hm hf
  refine ⟨_, rfl, ?_, hm.below⟩
  rw [Tr.even_l2 hA hC]
  exact hf.2.sub (fun x hx => List.mem_append_left _ hx)
 refine zR 13 b0 ?_
 refine zT FcF.stable FcF.fewer [0, 1, 2, 3, 92] 0 ⟨pops B60 pAI9 1, [.seq (sub B60 pAI10), .block 0, .seq (sub B60 pAI11)], [(0, .so (mkB k)), (1, .sl v.A v.n v.c), (2, .v (.pointer pl)), (3, .v (.pointer pr)), (92, .v (.pointer pr))], []⟩ ?_
 have hA : ¬ r.high + 1 < l.high := by have h9 := of_decide_eq_false b0; rw [hwr] at h9; omega
 clear b0
 refine zC FcF.stable 78 [.v (.pointer pr)] (.io .i64 (r.high : Int)) (fun ρ _ w1 hi hf => high1_any w1 (hf.tree (.tail _ (.head _)))) ?_
 refine zT FcF.stable FcF.fewer [0, 1, 2, 3, 93, 94] 0 ⟨pops B60 pAI9 3, [.seq (sub B60 pAI10), .block 0, .seq (sub B60 pAI11)], [(0, .so (mkB k)), (1, .sl v.A v.n v.c), (2, .v (.pointer pl)), (3, .v (.pointer pr)), (93, .io .i64 (↑r.high : Int)), (94, .v (.pointer pl))], []⟩ ?_
 refine zC FcF.stable 78 [.v (.pointer pl)] (.io .i64 (l.high : Int)) (fun ρ _ w1 hi hf => high1_any w1 (hf.tree (.head _))) ?_
 refine zTq FcF.stable FcF.fewer [0, 1, 2, 3, 91] 0 ?_
 rcases Bool.eq_false_or_eq_true (decide ((↑r.high : Int) > IntKind.i64.wrap ((↑l.high : Int) + 1))) with b0 | b0
 ·refine zR 91 b0 ?_
  refine zT FcF.stable FcF.fewer [0, 1, 2, 11, 99] 0 ⟨pqops B60 [1, 0, 4, 1, 3, 1, 2, 1, 0, 0] 1, [.seq (sub B60 pAI1), .seq (sub B60 pAI4), .block 0, .seq (sub B60 pAI11)], [(0, .so (mkB k)), (1, .sl v.A v.n v.c), (2, .v (.pointer pl)), (11, .v (.pointer pr)), (99, .v (.pointer pr))], []⟩ ?_
  have hB : l.high + 1 < r.high := by have h9 := of_decide_eq_true b0; rw [hwl] at h9; omega
  clear b0
  obtain ⟨rk, rv, rl, rr, rfl⟩ : ∃ x y z u, r = Tr.node x y z u := by
   cases r with
   | nil => simp only [Tr.high] at hB; omega
   | node x y z u => exact ⟨x, y, z, u, rfl⟩
  refine At.mono (F' := FcF kw1 vw1 ρ0 [.tr pr (Tr.node rk rv rl rr), .tr pl (l)]) (fun ρ w1 h => h.perm (by simp)) ?_
  refine At.mono (fun ρ w1 h => FcF.apart h) (At.ex fun x => ?_)
  obtain ⟨rb, prl, prr⟩ := x
  refine At.mono (F' := fun ρ w1 => FcF kw1 vw1 ρ0 [.cel rb (nodeW kw1 vw1 rk rv prl prr (Tr.node rk rv rl rr).high (Tr.node rk rv rl rr).many), .tr prl (rl), .tr prr (rr), .tr pl (l)] ρ w1 ∧ pr = some ⟨rb, 0, none⟩) (fun ρ w1 h => ⟨h.2, h.1⟩) (At.pure fun hp => ?_)
  subst hp
  refine At.nck ⟨rb, 0, none⟩ (by kernel_rfl) FcF.stable ?_
  refine zT FcF.stable FcF.fewer [0, 1, 2, 11, 100] 0 ⟨pqops B60 [1, 0, 4, 1, 3, 1, 2, 1, 0, 0] 2, [.seq (sub B60 pAI1), .seq (sub B60 pAI4), .block 0, .seq (sub B60 pAI11)], [(0, .so (mkB k)), (1, .sl v.A v.n v.c), (2, .v (.pointer pl)), (11, .v (.pointer (some (Addr.mk rb 0 none)))), (100, .v (.pointer (some (Addr.mk rb 0 none))))], []⟩ ?_
  refine At.fax ⟨rb, 0, none⟩ 3 (by kernel_rfl) FcF.stable ?_
  refine zT FcF.stable FcF.fewer [0, 1, 2, 11, 101] 0 ⟨pqops B60 [1, 0, 4, 1, 3, 1, 2, 1, 0, 0] 3, [.seq (sub B60 pAI1), .seq (sub B60 pAI4), .block 0, .seq (sub B60 pAI11)], [(0, .so (mkB k)), (1, .sl v.A v.n v.c), (2, .v (.pointer pl)), (11, .v (.pointer (some (Addr.mk rb 0 none)))), (101, .v (.pointer (some (Addr.mk rb 3 none))))], []⟩ ?_
  refine At.ldx ((⟨rb, 0, none⟩ : Addr).add 3) (.v (.pointer prr)) (by kernel_rfl) FcF.stable (fun ρ w1 hm' hf => hf.cell (.head _) rfl) ?_
  refine zT FcF.stable FcF.fewer [0, 1, 2, 11, 102] 0 ⟨pqops B60 [1, 0, 4, 1, 3, 1, 2, 1, 0, 0] 4, [.seq (sub B60 pAI1), .seq (sub B60 pAI4), .block 0, .seq (sub B60 pAI11)], [(0, .so (mkB k)), (1, .sl v.A v.n v.c), (2, .v (.pointer pl)), (11, .v (.pointer (some (Addr.mk rb 0 none)))), (102, .v (.pointer prr))], []⟩ ?_
  refine zC FcF.stable 78 [.v (.pointer prr)] (.io .i64 (rr.high : Int)) (fun ρ _ w1 hi hf => high1_any w1 (hf.tree (.tail _ (.tail _ (.head _))))) ?_
  refine zT FcF.stable FcF.fewer [0, 1, 2, 11, 103, 104] 0 ⟨pqops B60 [1, 0, 4, 1, 3, 1, 2, 1, 0, 0] 6, [.seq (sub B60 pAI1), .seq (sub B60 pAI4), .block 0, .seq (sub B60 pAI11)], [(0, .so (mkB k)), (1, .sl v.A v.n v.c), (2, .v (.pointer pl)), (11, .v (.pointer (some (Addr.mk rb 0 none)))), (103, .io .i64 (↑rr.high : Int)), (104, .v (.pointer (some (Addr.mk rb 0 none))))], []⟩ ?_
  refine At.nck ⟨rb, 0, none⟩ (by kernel_rfl) FcF.stable ?_
  refine zT FcF.stable FcF.fewer [0, 1, 2, 11, 103, 105] 0 ⟨pqops B60 [1, 0, 4, 1, 3, 1, 2, 1, 0, 0] 7, [.seq (sub B60 pAI1), .seq (sub B60 pAI4), .block 0, .seq (sub B60 pAI11)], [(0, .so (mkB k)), (1, .sl v.A v.n v.c), (2, .v (.pointer pl)), (11, .v (.pointer (some (Addr.mk rb 0 none)))), (103, .io .i64 (↑rr.high : Int)), (105, .v (.pointer (some (Addr.mk rb 0 none))))], []⟩ ?_
  refine At.fax ⟨rb, 0, none⟩ 2 (by kernel_rfl) FcF.stable ?_
  refine zT FcF.stable FcF.fewer [0, 1, 2, 11, 103, 106] 0 ⟨pqops B60 [1, 0, 4, 1, 3, 1, 2, 1, 0, 0] 8, [.seq (sub B60 pAI1), .seq (sub B60 pAI4), .block 0, .seq (sub B60 pAI11)], [(0, .so (mkB k)), (1, .sl v.A v.n v.c), (2, .v (.pointer pl)), (11, .v (.pointer (some (Addr.mk rb 0 none)))), (103, .io .i64 (↑rr.high : Int)), (106, .v (.pointer (some (Addr.mk rb 2 none))))], []⟩ ?_
  refine At.ldx ((⟨rb, 0, none⟩ : Addr).add 2) (.v (.pointer prl)) (by kernel_rfl) FcF.stable (fun ρ w1 hm' hf => hf.cell (.head _) rfl) ?_
  refine zT FcF.stable FcF.fewer [0, 1, 2, 11, 103, 107] 0 ⟨pqops B60 [1, 0, 4, 1, 3, 1, 2, 1, 0, 0] 9, [.seq (sub B60 pAI1), .seq (sub B60 pAI4), .block 0, .seq (sub B60 pAI11)], [(0, .so (mkB k)), (1, .sl v.A v.n v.c), (2, .v (.pointer pl)), (11, .v (.pointer (some (Addr.mk rb 0 none)))), (103, .io .i64 (↑rr.high : Int)), (107, .v (.pointer prl))], []⟩ ?_
  refine zC FcF.stable 78 [.v (.pointer prl)] (.io .i64 (rl.high : Int)) (fun ρ _ w1 hi hf => high1_any w1 (hf.tree (.tail _ (.head _)))) ?_
  refine zTq FcF.stable FcF.fewer [0, 1, 2, 11, 109] 0 ?_
  rcases Bool.eq_false_or_eq_true (decide ((↑rr.high : Int) ≥ (↑rl.high : Int))) with b0 | b0
  ·refine zR 109 b0 ?_
   refine zT FcF.stable FcF.fewer [0, 1, 2, 11] 0 ⟨.any (opsOf (sub B60 [1, 0, 4, 1, 3, 1, 2, 1, 0, 1, 2, 0])) 22 [], [.seq (sub B60 pAI0), .seq (sub B60 pAI4), .block 0, .seq (sub B60 pAI11)], [(0, .so (mkB k)), (1, .sl v.A v.n v.c), (2, .v (.pointer pl)), (11, .v (.pointer (some (Addr.mk rb 0 none))))], []⟩ ?_
   have hC : rl.high ≤ rr.high := by have h9 := of_decide_eq_true b0; omega
   refine At.drawnE [(0, .eq (.v (.pointer (some ⟨rb, 0, none⟩)))), (1, .eq (.v (.pointer (some ⟨rb, 0, none⟩)))), (2, .eq (.v (.pointer (some ((⟨rb, 0, none⟩ : Addr).add 0))))), (3, .eq (.so (mkB rk))), (4, .eq (.v (.pointer (some ⟨rb, 0, none⟩)))), (5, .eq (.v (.pointer (some ⟨rb, 0, none⟩)))), (6, .eq (.v (.pointer (some ((⟨rb, 0, none⟩ : Addr).add 1))))), (7, .eq (.sl rv.A rv.n rv.c)), (8, .eq (.so (mkB k))), (9, .eq (.sl v.A v.n v.c)), (10, .eq (.v (.pointer pl))), (11, .eq (.v (.pointer (some ⟨rb, 0, none⟩)))), (12, .eq (.v (.pointer (some ⟨rb, 0, none⟩)))), (13, .eq (.v (.pointer (some ((⟨rb, 0, none⟩ : Addr).add 2))))), (14, .eq (.v (.pointer prl))), (15, .ex Nat (fun b => .v (.pointer (some ⟨b, 0, none⟩))) (fun b ρ w1 => TrF kw1 vw1 (some ⟨b, 0, none⟩) (Tr.node k v (l) (rl)) (ρ0 ++ ρ) w1)), (16, .eq (.v (.pointer (some ⟨rb, 0, none⟩)))), (17, .eq (.v (.pointer (some ⟨rb, 0, none⟩)))), (18, .eq (.v (.pointer (some ((⟨rb, 0, none⟩ : Addr).add 3))))), (19, .eq (.v (.pointer prr))), (20, .ex Nat (fun b => .v (.pointer (some ⟨b, 0, none⟩))) (fun b ρ w1 => TrF kw1 vw1 (some ⟨b, 0, none⟩) (Tr.node rk rv (Tr.node k v (l) (rl)) (rr)) (ρ0 ++ ρ) w1)), (21, .ex Nat (fun b => .v (.pointer (some ⟨b, 0, none⟩))) (fun b ρ w1 => TrF kw1 vw1 (some ⟨b, 0, none⟩) (Tr.node rk rv (Tr.node k v (l) (rl)) (rr)) (ρ0 ++ ρ) w1))] [0, 1, 2, 3, 4, 5, 6, 7, 8, 9, 10, 11, 12, 13, 14, 15, 16, 17, 18, 19, 20, 21] [] 21 8 (fun b => .v (.pointer (some ⟨b, 0, none⟩))) (fun b ρ w1 => TrF kw1 vw1 (some ⟨b, 0, none⟩) (Tr.node rk rv (Tr.node k v (l) (rl)) (rr)) (ρ0 ++ ρ) w1) rfl (by kernel_rfl) (by kernel_rfl) FcF.stable (by exact ⟨trivial, trivial, trivial, trivial, trivial, trivial, trivial, trivial, trivial, trivial, trivial, trivial, trivial, trivial, trivial, fun b => TrF.stable, trivial, trivial, trivial, trivial, fun b => TrF.stable, fun b => TrF.stable, trivial⟩) (by exact ⟨StepK.pure (by kernel_rfl) rfl,
    StepK.nck ⟨rb, 0, none⟩ (by kernel_rfl) rfl,
    StepK.fax ⟨rb, 0, none⟩ 0 (by kernel_rfl) rfl,
    StepK.ldx ((⟨rb, 0, none⟩ : Addr).add 0) (by kernel_rfl) rfl (fun ρ w1 hm hf => hf.cell (.head _) rfl),
    StepK.pure (by kernel_rfl) rfl,
    StepK.nck ⟨rb, 0, none⟩ (by kernel_rfl) rfl,
    StepK.fax ⟨rb, 0, none⟩ 1 (by kernel_rfl) rfl,
    StepK.ldx ((⟨rb, 0, none⟩ : Addr).add 1) (by kernel_rfl) rfl (fun ρ w1 hm hf => hf.cell (.head _) rfl),
    StepK.pure (by kernel_rfl) rfl,
    StepK.pure (by kernel_rfl) rfl,
    StepK.pure (by kernel_rfl) rfl,
    StepK.pure (by kernel_rfl) rfl,
    StepK.nck ⟨rb, 0, none⟩ (by kernel_rfl) rfl,
    StepK.fax ⟨rb, 0, none⟩ 2 (by kernel_rfl) rfl,
    StepK.ldx ((⟨rb, 0, none⟩ : Addr).add 2) (by kernel_rfl) rfl (fun ρ w1 hm hf => hf.cell (.head _) rfl),
    StepK.call 59 [.so (mkB k), .sl v.A v.n v.c, .v (.pointer pl), .v (.pointer prl)] (by kernel_rfl) rfl (by kernel_rfl) (fun ρ w1 hm hf => (with1_any k v w1 (low_all hm hρ rfl) (hf.tree (.tail _ (.tail _ (.tail _ (.head _))))) (hf.tree (.tail _ (.head _))) (by simp only [Tr.many] at hn ⊢; omega)).mono fun e w2 h => by
     obtain ⟨b, h1, h2, h3⟩ := h
     exact ⟨_, h1, ⟨b, rfl, h2⟩, h3⟩),
    StepK.pure (by kernel_rfl) rfl,
    StepK.nck ⟨rb, 0, none⟩ (by kernel_rfl) rfl,
    StepK.fax ⟨rb, 0, none⟩ 3 (by kernel_rfl) rfl,
    StepK.ldx ((⟨rb, 0, none⟩ : Addr).add 3) (by kernel_rfl) rfl (fun ρ w1 hm hf => hf.cell (.head _) rfl),
    StepK.callX 15 125 59 (fun x => [.so (mkB rk), .sl rv.A rv.n rv.c, .v (.pointer (some ⟨x, 0, none⟩)), .v (.pointer prr)]) (by kernel_rfl) (by kernel_rfl) rfl (fun x => by kernel_rfl) rfl (by kernel_rfl) (fun x ρ w1 hm hf hx => (with1_any rk rv w1 (low_all hm hρ rfl) hx (hf.tree (.tail _ (.tail _ (.head _)))) (by simp only [Tr.many] at hn ⊢; omega)).mono fun e w2 h => by
     obtain ⟨b, h1, h2, h3⟩ := h
     exact ⟨_, h1, ⟨b, rfl, h2⟩, h3⟩),
    StepK.pureXE 20 130 rfl (by kernel_rfl) (by kernel_rfl) rfl (fun b => by kernel_rfl), trivial⟩) (by unfold subFr; kernel_rfl) (by kernel_rfl) rfl (fun x => ?_)
   refine zT FcT.stable FcT.fewer [8] 0 ⟨.exit .ret, [], [(8, .v (.pointer (some (Addr.mk x 0 none))))], []⟩ ?_
   refine zE (.v (.pointer (some (Addr.mk x 0 none)))) ?_
   intro ρ w9 hm hf
   refine ⟨_, rfl, ?_, hm.below⟩
   rw [Tr.even_r1 hA hB hC]
   exact hf.2.sub (fun x hx => List.mem_append_left _ hx)
  refine zR 109 b0 ?_
  refine zT FcF.stable FcF.fewer [0, 1, 2, 11, 131] 0 ⟨pops B60 pAI2 1, [.seq (sub B60 pAI3), .block 0, .seq (sub B60 pAI11)], [(0, .so (mkB k)), (1, .sl v.A v.n v.c), (2, .v (.pointer pl)), (11, .v (.pointer (some (Addr.mk rb 0 none)))), (131, .v (.pointer (some (Addr.mk rb 0 none))))], []⟩ ?_
  refine At.nck ⟨rb, 0, none⟩ (by kernel_rfl) FcF.stable ?_
  refine zT FcF.stable FcF.fewer [0, 1, 2, 11, 132] 0 ⟨pops B60 pAI2 2, [.seq (sub B60 pAI3), .block 0, .seq (sub B60 pAI11)], [(0, .so (mkB k)), (1, .sl v.A v.n v.c), (2, .v (.pointer pl)), (11, .v (.pointer (some (Addr.mk rb 0 none)))), (132, .v (.pointer (some (Addr.mk rb 0 none))))], []⟩ ?_
  refine At.fax ⟨rb, 0, none⟩ 2 (by kernel_rfl) FcF.stable ?_
  refine zT FcF.stable FcF.fewer [0, 1, 2, 11, 133] 0 ⟨pops B60 pAI2 3, [.seq (sub B60 pAI3), .block 0, .seq (sub B60 pAI11)], [(0, .so (mkB k)), (1, .sl v.A v.n v.c), (2, .v (.pointer pl)), (11, .v (.pointer (some (Addr.mk rb 0 none)))), (133, .v (.pointer (some (Addr.mk rb 2 none))))], []⟩ ?_
  refine At.ldx ((⟨rb, 0, none⟩ : Addr).add 2) (.v (.pointer prl)) (by kernel_rfl) FcF.stable (fun ρ w1 hm' hf => hf.cell (.head _) rfl) ?_
  refine zT FcF.stable FcF.fewer [0, 1, 2, 11, 12] 0 ⟨.any (opsOf (sub B60 [1, 0, 4, 1, 3, 1, 2, 1, 1, 1, 0])) 35 [], [.seq (sub B60 pAI0), .block 0, .seq (sub B60 pAI11)], [(0, .so (mkB k)), (1, .sl v.A v.n v.c), (2, .v (.pointer pl)), (11, .v (.pointer (some (Addr.mk rb 0 none)))), (12, .v (.pointer prl))], []⟩ ?_
  have hC : ¬ rl.high ≤ rr.high := by have h9 := of_decide_eq_false b0; omega
  obtain ⟨mk, mv, ml, mr, rfl⟩ : ∃ x y z u, rl = Tr.node x y z u := by
   cases rl with
   | nil => simp only [Tr.high] at hC; omega
   | node x y z u => exact ⟨x, y, z, u, rfl⟩
  refine At.mono (F' := FcF kw1 vw1 ρ0 [.tr prl (Tr.node mk mv ml mr), .cel rb (nodeW kw1 vw1 rk rv prl prr (Tr.node rk rv (Tr.node mk mv ml mr) rr).high (Tr.node rk rv (Tr.node mk mv ml mr) rr).many), .tr prr (rr), .tr pl (l)]) (fun ρ w1 h => h.perm (by simp)) ?_
  refine At.mono (fun ρ w1 h => FcF.apart h) (At.ex fun x => ?_)
  obtain ⟨mb, pml, pmr⟩ := x
  refine At.mono (F' := fun ρ w1 => FcF kw1 vw1 ρ0 [.cel mb (nodeW kw1 vw1 mk mv pml pmr (Tr.node mk mv ml mr).high (Tr.node mk mv ml mr).many), .tr pml (ml), .tr pmr (mr), .cel rb (nodeW kw1 vw1 rk rv prl prr (Tr.node rk rv (Tr.node mk mv ml mr) rr).high (Tr.node rk rv (Tr.node mk mv ml mr) rr).many), .tr prr (rr), .tr pl (l)] ρ w1 ∧ prl = some ⟨mb, 0, none⟩) (fun ρ w1 h => ⟨h.2, h.1⟩) (At.pure fun hp => ?_)
  subst hp
  refine At.drawnE [(0, .eq (.v (.pointer (some ⟨mb, 0, none⟩)))), (1, .eq (.v (.pointer (some ⟨mb, 0, none⟩)))), (2, .eq (.v (.pointer (some ((⟨mb, 0, none⟩ : Addr).add 0))))), (3, .eq (.so (mkB mk))), (4, .eq (.v (.pointer (some ⟨mb, 0, none⟩)))), (5, .eq (.v (.pointer (some ⟨mb, 0, none⟩)))), (6, .eq (.v (.pointer (some ((⟨mb, 0, none⟩ : Addr).add 1))))), (7, .eq (.sl mv.A mv.n mv.c)), (8, .eq (.so (mkB k))), (9, .eq (.sl v.A v.n v.c)), (10, .eq (.v (.pointer pl))), (11, .eq (.v (.pointer (some ⟨mb, 0, none⟩)))), (12, .eq (.v (.pointer (some ⟨mb, 0, none⟩)))), (13, .eq (.v (.pointer (some ((⟨mb, 0, none⟩ : Addr).add 2))))), (14, .eq (.v (.pointer pml))), (15, .ex Nat (fun b => .v (.pointer (some ⟨b, 0, none⟩))) (fun b ρ w1 => TrF kw1 vw1 (some ⟨b, 0, none⟩) (Tr.node k v (l) (ml)) (ρ0 ++ ρ) w1)), (16, .eq (.v (.pointer (some ⟨rb, 0, none⟩)))), (17, .eq (.v (.pointer (some ⟨rb, 0, none⟩)))), (18, .eq (.v (.pointer (some ((⟨rb, 0, none⟩ : Addr).add 0))))), (19, .eq (.so (mkB rk))), (20, .eq (.v (.pointer (some ⟨rb, 0, none⟩)))), (21, .eq (.v (.pointer (some ⟨rb, 0, none⟩)))), (22, .eq (.v (.pointer (some ((⟨rb, 0, none⟩ : Addr).add 1))))), (23, .eq (.sl rv.A rv.n rv.c)), (24, .eq (.v (.pointer (some ⟨mb, 0, none⟩)))), (25, .eq (.v (.pointer (some ⟨mb, 0, none⟩)))), (26, .eq (.v (.pointer (some ((⟨mb, 0, none⟩ : Addr).add 3))))), (27, .eq (.v (.pointer pmr))), (28, .eq (.v (.pointer (some ⟨rb, 0, none⟩)))), (29, .eq (.v (.pointer (some ⟨rb, 0, none⟩)))), (30, .eq (.v (.pointer (some ((⟨rb, 0, none⟩ : Addr).add 3))))), (31, .eq (.v (.pointer prr))), (32, .ex Nat (fun b => .v (.pointer (some ⟨b, 0, none⟩))) (fun b ρ w1 => TrF kw1 vw1 (some ⟨b, 0, none⟩) (Tr.node rk rv (mr) (rr)) (ρ0 ++ ρ) w1)), (33, .ex Nat (fun b => .v (.pointer (some ⟨b, 0, none⟩))) (fun b ρ w1 => TrF kw1 vw1 (some ⟨b, 0, none⟩) (Tr.node mk mv (Tr.node k v (l) (ml)) (Tr.node rk rv (mr) (rr))) (ρ0 ++ ρ) w1)), (34, .ex Nat (fun b => .v (.pointer (some ⟨b, 0, none⟩))) (fun b ρ w1 => TrF kw1 vw1 (some ⟨b, 0, none⟩) (Tr.node mk mv (Tr.node k v (l) (ml)) (Tr.node rk rv (mr) (rr))) (ρ0 ++ ρ) w1))] [0, 1, 2, 3, 4, 5, 6, 7, 8, 9, 10, 11, 12, 13, 14, 15, 16, 17, 18, 19, 20, 21, 22, 23, 24, 25, 26, 27, 28, 29, 30, 31, 32, 33, 34] [] 34 8 (fun b => .v (.pointer (some ⟨b, 0, none⟩))) (fun b ρ w1 => TrF kw1 vw1 (some ⟨b, 0, none⟩) (Tr.node mk mv (Tr.node k v (l) (ml)) (Tr.node rk rv (mr) (rr))) (ρ0 ++ ρ) w1) rfl (by kernel_rfl) (by kernel_rfl) FcF.stable (by exact ⟨trivial, trivial, trivial, trivial, trivial, trivial, trivial, trivial, trivial, trivial, trivial, trivial, trivial, trivial, trivial, fun b => TrF.stable, trivial, trivial, trivial, trivial, trivial, trivial, trivial, trivial, trivial, trivial, trivial, trivial, trivial, trivial, trivial, trivial, fun b => TrF.stable, fun b => TrF.stable, fun b => TrF.stable, trivial⟩) (by exact ⟨StepK.pure (by kernel_rfl) rfl,
   StepK.nck ⟨mb, 0, none⟩ (by kernel_rfl) rfl,
   StepK.fax ⟨mb, 0, none⟩ 0 (by kernel_rfl) rfl,
   StepK.ldx ((⟨mb, 0, none⟩ : Addr).add 0) (by kernel_rfl) rfl (fun ρ w1 hm hf => hf.cell (.head _) rfl),
   StepK.pure (by kernel_rfl) rfl,
   StepK.nck ⟨mb, 0, none⟩ (by kernel_rfl) rfl,
   StepK.fax ⟨mb, 0, none⟩ 1 (by kernel_rfl) rfl,
   StepK.ldx ((⟨mb, 0, none⟩ : Addr).add 1) (by kernel_rfl) rfl (fun ρ w1 hm hf => hf.cell (.head _) rfl),
   StepK.pure (by kernel_rfl) rfl,
   StepK.pure (by kernel_rfl) rfl,
   StepK.pure (by kernel_rfl) rfl,
   StepK.pure (by kernel_rfl) rfl,
   StepK.nck ⟨mb, 0, none⟩ (by kernel_rfl) rfl,
   StepK.fax ⟨mb, 0, none⟩ 2 (by kernel_rfl) rfl,
   StepK.ldx ((⟨mb, 0, none⟩ : Addr).add 2) (by kernel_rfl) rfl (fun ρ w1 hm hf => hf.cell (.head _) rfl),
   StepK.call 59 [.so (mkB k), .sl v.A v.n v.c, .v (.pointer pl), .v (.pointer pml)] (by kernel_rfl) rfl (by kernel_rfl) (fun ρ w1 hm hf => (with1_any k v w1 (low_all hm hρ rfl) (hf.tree (.tail _ (.tail _ (.tail _ (.tail _ (.tail _ (.head _))))))) (hf.tree (.tail _ (.head _))) (by simp only [Tr.many] at hn ⊢; omega)).mono fun e w2 h => by
    obtain ⟨b, h1, h2, h3⟩ := h
    exact ⟨_, h1, ⟨b, rfl, h2⟩, h3⟩),
   StepK.pure (by kernel_rfl) rfl,
   StepK.nck ⟨rb, 0, none⟩ (by kernel_rfl) rfl,
   StepK.fax ⟨rb, 0, none⟩ 0 (by kernel_rfl) rfl,
   StepK.ldx ((⟨rb, 0, none⟩ : Addr).add 0) (by kernel_rfl) rfl (fun ρ w1 hm hf => hf.cell (.tail _ (.tail _ (.tail _ (.head _)))) rfl),
   StepK.pure (by kernel_rfl) rfl,
   StepK.nck ⟨rb, 0, none⟩ (by kernel_rfl) rfl,
   StepK.fax ⟨rb, 0, none⟩ 1 (by kernel_rfl) rfl,
   StepK.ldx ((⟨rb, 0, none⟩ : Addr).add 1) (by kernel_rfl) rfl (fun ρ w1 hm hf => hf.cell (.tail _ (.tail _ (.tail _ (.head _)))) rfl),
   StepK.pure (by kernel_rfl) rfl,
   StepK.nck ⟨mb, 0, none⟩ (by kernel_rfl) rfl,
   StepK.fax ⟨mb, 0, none⟩ 3 (by kernel_rfl) rfl,
   StepK.ldx ((⟨mb, 0, none⟩ : Addr).add 3) (by kernel_rfl) rfl (fun ρ w1 hm hf => hf.cell (.head _) rfl),
   StepK.pure (by kernel_rfl) rfl,
   StepK.nck ⟨rb, 0, none⟩ (by kernel_rfl) rfl,
   StepK.fax ⟨rb, 0, none⟩ 3 (by kernel_rfl) rfl,
   StepK.ldx ((⟨rb, 0, none⟩ : Addr).add 3) (by kernel_rfl) rfl (fun ρ w1 hm hf => hf.cell (.tail _ (.tail _ (.tail _ (.head _)))) rfl),
   StepK.call 59 [.so (mkB rk), .sl rv.A rv.n rv.c, .v (.pointer pmr), .v (.pointer prr)] (by kernel_rfl) rfl (by kernel_rfl) (fun ρ w1 hm hf => (with1_any rk rv w1 (low_all hm hρ rfl) (hf.tree (.tail _ (.tail _ (.head _)))) (hf.tree (.tail _ (.tail _ (.tail _ (.tail _ (.head _)))))) (by simp only [Tr.many] at hn ⊢; omega)).mono fun e w2 h => by
    obtain ⟨b, h1, h2, h3⟩ := h
    exact ⟨_, h1, ⟨b, rfl, h2⟩, h3⟩),
   StepK.callX2 15 150 32 167 59 (fun x y => [.so (mkB mk), .sl mv.A mv.n mv.c, .v (.pointer (some ⟨x, 0, none⟩)), .v (.pointer (some ⟨y, 0, none⟩))]) (by kernel_rfl) (by kernel_rfl) rfl (by kernel_rfl) rfl (fun x y => by kernel_rfl) rfl (by kernel_rfl) (fun x y ρ w1 hm hf hx hy => (with1_any mk mv w1 (low_all hm hρ rfl) hx hy (by simp only [Tr.many] at hn ⊢; omega)).mono fun e w2 h => by
    obtain ⟨b, h1, h2, h3⟩ := h
    exact ⟨_, h1, ⟨b, rfl, h2⟩, h3⟩),
   StepK.pureXE 33 168 rfl (by kernel_rfl) (by kernel_rfl) rfl (fun b => by kernel_rfl), trivial⟩) (by unfold subFr; kernel_rfl) (by kernel_rfl) rfl (fun x => ?_)
  refine zT FcT.stable FcT.fewer [8] 0 ⟨.exit .ret, [], [(8, .v (.pointer (some (Addr.mk x 0 none))))], []⟩ ?_
  refine zE (.v (.pointer (some (Addr.mk x 0 none)))) ?_
  intro ρ w9 hm hf
  refine ⟨_, rfl, ?_, hm.below⟩
  rw [Tr.even_r2 hA hB hC]
  exact hf.2.sub (fun x hx => List.mem_append_left _ hx)
 refine zR 91 b0 ?_
 refine zT FcF.stable FcF.fewer [169, 170, 171, 172] 0 ⟨pops B60 [1, 1, 0] 4, [.seq (sub B60 pAI0)], [(169, .so (mkB k)), (170, .sl v.A v.n v.c), (171, .v (.pointer pl)), (172, .v (.pointer pr))], []⟩ ?_
 have hB : ¬ l.high + 1 < r.high := by have h9 := of_decide_eq_false b0; rw [hwl] at h9; omega
 clear b0
 refine At.callx FcF.stable (X := Nat) 59 [.so (mkB k), .sl v.A v.n v.c, .v (.pointer pl), .v (.pointer pr)] (fun x => .v (.pointer (some ⟨x, 0, none⟩))) (fun x ρ w1 => TrF kw1 vw1 (some ⟨x, 0, none⟩) (Tr.node k v l r) (ρ0 ++ ρ) w1) (fun x => TrF.stable) (by kernel_rfl) (by kernel_rfl) (by kernel_rfl) (by kernel_rfl) (fun ρ a w1 hi hf => (with1_any k v w1 (low_all hi.mem hρ rfl) (hf.tree (.head _)) (hf.tree (.tail _ (.head _))) (by omega)).mono fun e w2 h => by
  obtain ⟨b, h1, h2, h3⟩ := h
  exact ⟨b, h1, h3, h2⟩) (fun x => ?_)
 refine zT FcT.stable FcT.fewer [8] 0 ⟨.exit .ret, [], [(8, .v (.pointer (some (Addr.mk x 0 none))))], []⟩ ?_
 refine zE (.v (.pointer (some (Addr.mk x 0 none)))) ?_
 intro ρ w9 hm hf
 refine ⟨_, rfl, ?_, hm.below⟩
 rw [Tr.even_no hA hB]
 exact hf.2.sub (fun x hx => List.mem_append_left _ hx)
noncomputable def B63 : Code := (Tryz.f63.body).getD .skip
set_option maxHeartbeats 20000000 in
set_option maxRecDepth 100000 in
theorem even2_any {ρ0 : List Nat} (k : AtK) (v : Pn) {pl pr : Option Addr} {l r : Tr (AtK) (Pn)} (w : World) (hρ : ∀ x ∈ ρ0, x < w.heap.size) (hl : TrF kw2 vw2 pl l ρ0 w) (hr : TrF kw2 vw2 pr r ρ0 w) (hn : l.many + r.many ≤ 900000) :
  Calls Tryz.prog 63 #[.agg #[.string (mkB k.key), .int .i64 k.st, .int .i64 k.en], v.val, .pointer pl, .pointer pr] w fun e w' => ∃ p, e = .returned (.pointer p) ∧ TrF kw2 vw2 p (Tr.even k v l r) ρ0 w' ∧ Below w.heap.size w w' := by
 have hhl := Tr.high_le l
 have hhr := Tr.high_le r
 have hwr : IntKind.i64.wrap ((r.high : Int) + 1) = ((r.high + 1 : Nat) : Int) := by
  rw [wrap63 (by omega) (by omega)]
  omega
 have hwl : IntKind.i64.wrap ((l.high : Int) + 1) = ((l.high + 1 : Nat) : Int) := by
  rw [wrap63 (by omega) (by omega)]
  omega
 refine enterF (N := w.heap.size) (F := FcF kw2 vw2 ρ0 [.tr pl l, .tr pr r]) (fn := Tryz.f63) (c := B63) [.agg [.so (mkB k.key), .io .i64 k.st, .io .i64 k.en], .agg [.so (mkB v.key), .io .i64 v.st, .io .i64 v.en, .io .i64 v.kd, .io .i64 v.nt, .io .i64 v.ct, .io .i64 v.sm, .io .i64 v.mn, .io .i64 v.mx], .v (.pointer pl), .v (.pointer pr)] Tryz.func63 rfl rfl (Nat.le_refl _) (fc_two hl hr) ?_
 refine zT FcF.stable FcF.fewer [2, 3, 4, 5, 14] 2 ⟨pops B63 [1, 0, 4, 0] 1, [.seq (sub B63 [1, 0, 4, 1]), .block 0, .seq (sub B63 pAI11)], [(2, .v (.pointer pl)), (3, .v (.pointer pr)), (4, .lp 0 0), (5, .lp 1 0), (14, .v (.pointer pl))], [([.so (mkB k.key), .io .i64 k.st, .io .i64 k.en], 59), ([.so (mkB v.key), .io .i64 v.st, .io .i64 v.en, .io .i64 v.kd, .io .i64 v.nt, .io .i64 v.ct, .io .i64 v.sm, .io .i64 v.mn, .io .i64 v.mx], 40)]⟩ ?_
 refine zC FcF.stable 80 [.v (.pointer pl)] (.io .i64 (l.high : Int)) (fun ρ _ w1 hi hf => high2_any w1 (hf.tree (.head _))) ?_
 refine zT FcF.stable FcF.fewer [2, 3, 4, 5, 15, 16] 2 ⟨pops B63 [1, 0, 4, 0] 3, [.seq (sub B63 [1, 0, 4, 1]), .block 0, .seq (sub B63 pAI11)], [(2, .v (.pointer pl)), (3, .v (.pointer pr)), (4, .lp 0 0), (5, .lp 1 0), (15, .io .i64 (↑l.high : Int)), (16, .v (.pointer pr))], [([.so (mkB k.key), .io .i64 k.st, .io .i64 k.en], 59), ([.so (mkB v.key), .io .i64 v.st, .io .i64 v.en, .io .i64 v.kd, .io .i64 v.nt, .io .i64 v.ct, .io .i64 v.sm, .io .i64 v.mn, .io .i64 v.mx], 40)]⟩ ?_
 refine zC FcF.stable 80 [.v (.pointer pr)] (.io .i64 (r.high : Int)) (fun ρ _ w1 hi hf => high2_any w1 (hf.tree (.tail _ (.head _)))) ?_
 refine zTq FcF.stable FcF.fewer [2, 3, 4, 5, 13] 2 ?_
 rcases Bool.eq_false_or_eq_true (decide ((↑l.high : Int) > IntKind.i64.wrap ((↑r.high : Int) + 1))) with b0 | b0
 ·refine zR 13 b0 ?_
  refine zT FcF.stable FcF.fewer [3, 4, 5, 9, 21] 2 ⟨pqops B63 [1, 0, 4, 1, 2, 1, 0, 0] 1, [.seq (sub B63 pAI5), .seq (sub B63 pAI8), .block 0, .seq (sub B63 pAI11)], [(3, .v (.pointer pr)), (4, .lp 0 0), (5, .lp 1 0), (9, .v (.pointer pl)), (21, .v (.pointer pl))], [([.so (mkB k.key), .io .i64 k.st, .io .i64 k.en], 59), ([.so (mkB v.key), .io .i64 v.st, .io .i64 v.en, .io .i64 v.kd, .io .i64 v.nt, .io .i64 v.ct, .io .i64 v.sm, .io .i64 v.mn, .io .i64 v.mx], 40)]⟩ ?_
  have hA : r.high + 1 < l.high := by have h9 := of_decide_eq_true b0; rw [hwr] at h9; omega
  clear b0
  obtain ⟨lk, lv, ll, lr, rfl⟩ : ∃ x y z u, l = Tr.node x y z u := by
   cases l with
   | nil => simp only [Tr.high] at hA; omega
   | node x y z u => exact ⟨x, y, z, u, rfl⟩
  refine At.mono (F' := FcF kw2 vw2 ρ0 [.tr pl (Tr.node lk lv ll lr), .tr pr (r)]) (fun ρ w1 h => h.perm (by simp)) ?_
  refine At.mono (fun ρ w1 h => FcF.apart h) (At.ex fun x => ?_)
  obtain ⟨lb, pll, plr⟩ := x
  refine At.mono (F' := fun ρ w1 => FcF kw2 vw2 ρ0 [.cel lb (nodeW kw2 vw2 lk lv pll plr (Tr.node lk lv ll lr).high (Tr.node lk lv ll lr).many), .tr pll (ll), .tr plr (lr), .tr pr (r)] ρ w1 ∧ pl = some ⟨lb, 0, none⟩) (fun ρ w1 h => ⟨h.2, h.1⟩) (At.pure fun hp => ?_)
  subst hp
  refine At.nck ⟨lb, 0, none⟩ (by kernel_rfl) FcF.stable ?_
  refine zT FcF.stable FcF.fewer [3, 4, 5, 9, 22] 2 ⟨pqops B63 [1, 0, 4, 1, 2, 1, 0, 0] 2, [.seq (sub B63 pAI5), .seq (sub B63 pAI8), .block 0, .seq (sub B63 pAI11)], [(3, .v (.pointer pr)), (4, .lp 0 0), (5, .lp 1 0), (9, .v (.pointer (some (Addr.mk lb 0 none)))), (22, .v (.pointer (some (Addr.mk lb 0 none))))], [([.so (mkB k.key), .io .i64 k.st, .io .i64 k.en], 59), ([.so (mkB v.key), .io .i64 v.st, .io .i64 v.en, .io .i64 v.kd, .io .i64 v.nt, .io .i64 v.ct, .io .i64 v.sm, .io .i64 v.mn, .io .i64 v.mx], 40)]⟩ ?_
  refine At.fax ⟨lb, 0, none⟩ 12 (by kernel_rfl) FcF.stable ?_
  refine zT FcF.stable FcF.fewer [3, 4, 5, 9, 23] 2 ⟨pqops B63 [1, 0, 4, 1, 2, 1, 0, 0] 3, [.seq (sub B63 pAI5), .seq (sub B63 pAI8), .block 0, .seq (sub B63 pAI11)], [(3, .v (.pointer pr)), (4, .lp 0 0), (5, .lp 1 0), (9, .v (.pointer (some (Addr.mk lb 0 none)))), (23, .v (.pointer (some (Addr.mk lb 12 none))))], [([.so (mkB k.key), .io .i64 k.st, .io .i64 k.en], 59), ([.so (mkB v.key), .io .i64 v.st, .io .i64 v.en, .io .i64 v.kd, .io .i64 v.nt, .io .i64 v.ct, .io .i64 v.sm, .io .i64 v.mn, .io .i64 v.mx], 40)]⟩ ?_
  refine At.ldx ((⟨lb, 0, none⟩ : Addr).add 12) (.v (.pointer pll)) (by kernel_rfl) FcF.stable (fun ρ w1 hm' hf => hf.cell (.head _) rfl) ?_
  refine zT FcF.stable FcF.fewer [3, 4, 5, 9, 24] 2 ⟨pqops B63 [1, 0, 4, 1, 2, 1, 0, 0] 4, [.seq (sub B63 pAI5), .seq (sub B63 pAI8), .block 0, .seq (sub B63 pAI11)], [(3, .v (.pointer pr)), (4, .lp 0 0), (5, .lp 1 0), (9, .v (.pointer (some (Addr.mk lb 0 none)))), (24, .v (.pointer pll))], [([.so (mkB k.key), .io .i64 k.st, .io .i64 k.en], 59), ([.so (mkB v.key), .io .i64 v.st, .io .i64 v.en, .io .i64 v.kd, .io .i64 v.nt, .io .i64 v.ct, .io .i64 v.sm, .io .i64 v.mn, .io .i64 v.mx], 40)]⟩ ?_
  refine zC FcF.stable 80 [.v (.pointer pll)] (.io .i64 (ll.high : Int)) (fun ρ _ w1 hi hf => high2_any w1 (hf.tree (.tail _ (.head _)))) ?_
  refine zT FcF.stable FcF.fewer [3, 4, 5, 9, 25, 26] 2 ⟨pqops B63 [1, 0, 4, 1, 2, 1, 0, 0] 6, [.seq (sub B63 pAI5), .seq (sub B63 pAI8), .block 0, .seq (sub B63 pAI11)], [(3, .v (.pointer pr)), (4, .lp 0 0), (5, .lp 1 0), (9, .v (.pointer (some (Addr.mk lb 0 none)))), (25, .io .i64 (↑ll.high : Int)), (26, .v (.pointer (some (Addr.mk lb 0 none))))], [([.so (mkB k.key), .io .i64 k.st, .io .i64 k.en], 59), ([.so (mkB v.key), .io .i64 v.st, .io .i64 v.en, .io .i64 v.kd, .io .i64 v.nt, .io .i64 v.ct, .io .i64 v.sm, .io .i64 v.mn, .io .i64 v.mx], 40)]⟩ ?_
  refine At.nck ⟨lb, 0, none⟩ (by kernel_rfl) FcF.stable ?_
  refine zT FcF.stable FcF.fewer [3, 4, 5, 9, 25, 27] 2 ⟨pqops B63 [1, 0, 4, 1, 2, 1, 0, 0] 7, [.seq (sub B63 pAI5), .seq (sub B63 pAI8), .block 0, .seq (sub B63 pAI11)], [(3, .v (.pointer pr)), (4, .lp 0 0), (5, .lp 1 0), (9, .v (.pointer (some (Addr.mk lb 0 none)))), (25, .io .i64 (↑ll.high : Int)), (27, .v (.pointer (some (Addr.mk lb 0 none))))], [([.so (mkB k.key), .io .i64 k.st, .io .i64 k.en], 59), ([.so (mkB v.key), .io .i64 v.st, .io .i64 v.en, .io .i64 v.kd, .io .i64 v.nt, .io .i64 v.ct, .io .i64 v.sm, .io .i64 v.mn, .io .i64 v.mx], 40)]⟩ ?_
  refine At.fax ⟨lb, 0, none⟩ 13 (by kernel_rfl) FcF.stable ?_
  refine zT FcF.stable FcF.fewer [3, 4, 5, 9, 25, 28] 2 ⟨pqops B63 [1, 0, 4, 1, 2, 1, 0, 0] 8, [.seq (sub B63 pAI5), .seq (sub B63 pAI8), .block 0, .seq (sub B63 pAI11)], [(3, .v (.pointer pr)), (4, .lp 0 0), (5, .lp 1 0), (9, .v (.pointer (some (Addr.mk lb 0 none)))), (25, .io .i64 (↑ll.high : Int)), (28, .v (.pointer (some (Addr.mk lb 13 none))))], [([.so (mkB k.key), .io .i64 k.st, .io .i64 k.en], 59), ([.so (mkB v.key), .io .i64 v.st, .io .i64 v.en, .io .i64 v.kd, .io .i64 v.nt, .io .i64 v.ct, .io .i64 v.sm, .io .i64 v.mn, .io .i64 v.mx], 40)]⟩ ?_
  refine At.ldx ((⟨lb, 0, none⟩ : Addr).add 13) (.v (.pointer plr)) (by kernel_rfl) FcF.stable (fun ρ w1 hm' hf => hf.cell (.head _) rfl) ?_
  refine zT FcF.stable FcF.fewer [3, 4, 5, 9, 25, 29] 2 ⟨pqops B63 [1, 0, 4, 1, 2, 1, 0, 0] 9, [.seq (sub B63 pAI5), .seq (sub B63 pAI8), .block 0, .seq (sub B63 pAI11)], [(3, .v (.pointer pr)), (4, .lp 0 0), (5, .lp 1 0), (9, .v (.pointer (some (Addr.mk lb 0 none)))), (25, .io .i64 (↑ll.high : Int)), (29, .v (.pointer plr))], [([.so (mkB k.key), .io .i64 k.st, .io .i64 k.en], 59), ([.so (mkB v.key), .io .i64 v.st, .io .i64 v.en, .io .i64 v.kd, .io .i64 v.nt, .io .i64 v.ct, .io .i64 v.sm, .io .i64 v.mn, .io .i64 v.mx], 40)]⟩ ?_
  refine zC FcF.stable 80 [.v (.pointer plr)] (.io .i64 (lr.high : Int)) (fun ρ _ w1 hi hf => high2_any w1 (hf.tree (.tail _ (.tail _ (.head _))))) ?_
  refine zTq FcF.stable FcF.fewer [3, 4, 5, 9, 31] 2 ?_
  rcases Bool.eq_false_or_eq_true (decide ((↑ll.high : Int) ≥ (↑lr.high : Int))) with b0 | b0
  ·refine zR 31 b0 ?_
   refine zT FcF.stable FcF.fewer [3, 4, 5, 9] 2 ⟨.any (opsOf (sub B63 [1, 0, 4, 1, 2, 1, 0, 1, 2, 0])) 22 [], [.seq (sub B63 pAI0), .seq (sub B63 pAI8), .block 0, .seq (sub B63 pAI11)], [(3, .v (.pointer pr)), (4, .lp 0 0), (5, .lp 1 0), (9, .v (.pointer (some (Addr.mk lb 0 none))))], [([.so (mkB k.key), .io .i64 k.st, .io .i64 k.en], 59), ([.so (mkB v.key), .io .i64 v.st, .io .i64 v.en, .io .i64 v.kd, .io .i64 v.nt, .io .i64 v.ct, .io .i64 v.sm, .io .i64 v.mn, .io .i64 v.mx], 40)]⟩ ?_
   have hC : lr.high ≤ ll.high := by have h9 := of_decide_eq_true b0; omega
   refine At.drawnE [(0, .eq (.v (.pointer (some ⟨lb, 0, none⟩)))), (1, .eq (.v (.pointer (some ⟨lb, 0, none⟩)))), (2, .eq (.v (.pointer (some ((⟨lb, 0, none⟩ : Addr).add 0))))), (3, .eq (.agg [.so (mkB lk.key), .io .i64 lk.st, .io .i64 lk.en])), (4, .eq (.v (.pointer (some ⟨lb, 0, none⟩)))), (5, .eq (.v (.pointer (some ⟨lb, 0, none⟩)))), (6, .eq (.v (.pointer (some ((⟨lb, 0, none⟩ : Addr).add 3))))), (7, .eq (.agg [.so (mkB lv.key), .io .i64 lv.st, .io .i64 lv.en, .io .i64 lv.kd, .io .i64 lv.nt, .io .i64 lv.ct, .io .i64 lv.sm, .io .i64 lv.mn, .io .i64 lv.mx])), (8, .eq (.v (.pointer (some ⟨lb, 0, none⟩)))), (9, .eq (.v (.pointer (some ⟨lb, 0, none⟩)))), (10, .eq (.v (.pointer (some ((⟨lb, 0, none⟩ : Addr).add 12))))), (11, .eq (.v (.pointer pll))), (12, .eq (.agg [.so (mkB k.key), .io .i64 k.st, .io .i64 k.en])), (13, .eq (.agg [.so (mkB v.key), .io .i64 v.st, .io .i64 v.en, .io .i64 v.kd, .io .i64 v.nt, .io .i64 v.ct, .io .i64 v.sm, .io .i64 v.mn, .io .i64 v.mx])), (14, .eq (.v (.pointer (some ⟨lb, 0, none⟩)))), (15, .eq (.v (.pointer (some ⟨lb, 0, none⟩)))), (16, .eq (.v (.pointer (some ((⟨lb, 0, none⟩ : Addr).add 13))))), (17, .eq (.v (.pointer plr))), (18, .eq (.v (.pointer pr))), (19, .ex Nat (fun b => .v (.pointer (some ⟨b, 0, none⟩))) (fun b ρ w1 => TrF kw2 vw2 (some ⟨b, 0, none⟩) (Tr.node k v (lr) (r)) (ρ0 ++ ρ) w1)), (20, .ex Nat (fun b => .v (.pointer (some ⟨b, 0, none⟩))) (fun b ρ w1 => TrF kw2 vw2 (some ⟨b, 0, none⟩) (Tr.node lk lv (ll) (Tr.node k v (lr) (r))) (ρ0 ++ ρ) w1)), (21, .ex Nat (fun b => .v (.pointer (some ⟨b, 0, none⟩))) (fun b ρ w1 => TrF kw2 vw2 (some ⟨b, 0, none⟩) (Tr.node lk lv (ll) (Tr.node k v (lr) (r))) (ρ0 ++ ρ) w1))] [0, 1, 2, 3, 4, 5, 6, 7, 8, 9, 10, 11, 12, 13, 14, 15, 16, 17, 18, 19, 20, 21] [] 21 8 (fun b => .v (.pointer (some ⟨b, 0, none⟩))) (fun b ρ w1 => TrF kw2 vw2 (some ⟨b, 0, none⟩) (Tr.node lk lv (ll) (Tr.node k v (lr) (r))) (ρ0 ++ ρ) w1) rfl (by kernel_rfl) (by kernel_rfl) FcF.stable (by exact ⟨trivial, trivial, trivial, trivial, trivial, trivial, trivial, trivial, trivial, trivial, trivial, trivial, trivial, trivial, trivial, trivial, trivial, trivial, trivial, fun b => TrF.stable, fun b => TrF.stable, fun b => TrF.stable, trivial⟩) (by exact ⟨StepK.pure (by kernel_rfl) rfl,
    StepK.nck ⟨lb, 0, none⟩ (by kernel_rfl) rfl,
    StepK.fax ⟨lb, 0, none⟩ 0 (by kernel_rfl) rfl,
    StepK.lda ((⟨lb, 0, none⟩ : Addr).add 0) 3 [.so (mkB lk.key), .io .i64 lk.st, .io .i64 lk.en] (by kernel_rfl) rfl rfl (fun ρ w1 hm hf j u hj => by rw [Addr.add_add]; exact hf.cell (.head _) (part_k hj)),
    StepK.pure (by kernel_rfl) rfl,
    StepK.nck ⟨lb, 0, none⟩ (by kernel_rfl) rfl,
    StepK.fax ⟨lb, 0, none⟩ 3 (by kernel_rfl) rfl,
    StepK.lda ((⟨lb, 0, none⟩ : Addr).add 3) 9 [.so (mkB lv.key), .io .i64 lv.st, .io .i64 lv.en, .io .i64 lv.kd, .io .i64 lv.nt, .io .i64 lv.ct, .io .i64 lv.sm, .io .i64 lv.mn, .io .i64 lv.mx] (by kernel_rfl) rfl rfl (fun ρ w1 hm hf j u hj => by rw [Addr.add_add]; exact hf.cell (.head _) (part_v hj)),
    StepK.pure (by kernel_rfl) rfl,
    StepK.nck ⟨lb, 0, none⟩ (by kernel_rfl) rfl,
    StepK.fax ⟨lb, 0, none⟩ 12 (by kernel_rfl) rfl,
    StepK.ldx ((⟨lb, 0, none⟩ : Addr).add 12) (by kernel_rfl) rfl (fun ρ w1 hm hf => hf.cell (.head _) rfl),
    StepK.pure (by kernel_rfl) rfl,
    StepK.pure (by kernel_rfl) rfl,
    StepK.pure (by kernel_rfl) rfl,
    StepK.nck ⟨lb, 0, none⟩ (by kernel_rfl) rfl,
    StepK.fax ⟨lb, 0, none⟩ 13 (by kernel_rfl) rfl,
    StepK.ldx ((⟨lb, 0, none⟩ : Addr).add 13) (by kernel_rfl) rfl (fun ρ w1 hm hf => hf.cell (.head _) rfl),
    StepK.pure (by kernel_rfl) rfl,
    StepK.call 62 [.agg [.so (mkB k.key), .io .i64 k.st, .io .i64 k.en], .agg [.so (mkB v.key), .io .i64 v.st, .io .i64 v.en, .io .i64 v.kd, .io .i64 v.nt, .io .i64 v.ct, .io .i64 v.sm, .io .i64 v.mn, .io .i64 v.mx], .v (.pointer plr), .v (.pointer pr)] (by kernel_rfl) rfl (by kernel_rfl) (fun ρ w1 hm hf => (with2_any k v w1 (low_all hm hρ rfl) (hf.tree (.tail _ (.tail _ (.head _)))) (hf.tree (.tail _ (.tail _ (.tail _ (.head _))))) (by simp only [Tr.many] at hn ⊢; omega)).mono fun e w2 h => by
     obtain ⟨b, h1, h2, h3⟩ := h
     exact ⟨_, h1, ⟨b, rfl, h2⟩, h3⟩),
    StepK.callX 19 51 62 (fun x => [.agg [.so (mkB lk.key), .io .i64 lk.st, .io .i64 lk.en], .agg [.so (mkB lv.key), .io .i64 lv.st, .io .i64 lv.en, .io .i64 lv.kd, .io .i64 lv.nt, .io .i64 lv.ct, .io .i64 lv.sm, .io .i64 lv.mn, .io .i64 lv.mx], .v (.pointer pll), .v (.pointer (some ⟨x, 0, none⟩))]) (by kernel_rfl) (by kernel_rfl) rfl (fun x => by kernel_rfl) rfl (by kernel_rfl) (fun x ρ w1 hm hf hx => (with2_any lk lv w1 (low_all hm hρ rfl) (hf.tree (.tail _ (.head _))) hx (by simp only [Tr.many] at hn ⊢; omega)).mono fun e w2 h => by
     obtain ⟨b, h1, h2, h3⟩ := h
     exact ⟨_, h1, ⟨b, rfl, h2⟩, h3⟩),
    StepK.pureXE 20 52 rfl (by kernel_rfl) (by kernel_rfl) rfl (fun b => by kernel_rfl), trivial⟩) (by unfold subFr; kernel_rfl) (by kernel_rfl) rfl (fun x => ?_)
   refine zT FcT.stable FcT.fewer [8] 0 ⟨.exit .ret, [], [(8, .v (.pointer (some (Addr.mk x 0 none))))], []⟩ ?_
   refine zE (.v (.pointer (some (Addr.mk x 0 none)))) ?_
   intro ρ w9 hm hf
   refine ⟨_, rfl, ?_, hm.below⟩
   rw [Tr.even_l1 hA hC]
   exact hf.2.sub (fun x hx => List.mem_append_left _ hx)
  refine zR 31 b0 ?_
  refine zT FcF.stable FcF.fewer [3, 4, 5, 9, 53] 2 ⟨pops B63 pAI6 1, [.seq (sub B63 pAI7), .block 0, .seq (sub B63 pAI11)], [(3, .v (.pointer pr)), (4, .lp 0 0), (5, .lp 1 0), (9, .v (.pointer (some (Addr.mk lb 0 none)))), (53, .v (.pointer (some (Addr.mk lb 0 none))))], [([.so (mkB k.key), .io .i64 k.st, .io .i64 k.en], 59), ([.so (mkB v.key), .io .i64 v.st, .io .i64 v.en, .io .i64 v.kd, .io .i64 v.nt, .io .i64 v.ct, .io .i64 v.sm, .io .i64 v.mn, .io .i64 v.mx], 40)]⟩ ?_
  refine At.nck ⟨lb, 0, none⟩ (by kernel_rfl) FcF.stable ?_
  refine zT FcF.stable FcF.fewer [3, 4, 5, 9, 54] 2 ⟨pops B63 pAI6 2, [.seq (sub B63 pAI7), .block 0, .seq (sub B63 pAI11)], [(3, .v (.pointer pr)), (4, .lp 0 0), (5, .lp 1 0), (9, .v (.pointer (some (Addr.mk lb 0 none)))), (54, .v (.pointer (some (Addr.mk lb 0 none))))], [([.so (mkB k.key), .io .i64 k.st, .io .i64 k.en], 59), ([.so (mkB v.key), .io .i64 v.st, .io .i64 v.en, .io .i64 v.kd, .io .i64 v.nt, .io .i64 v.ct, .io .i64 v.sm, .io .i64 v.mn, .io .i64 v.mx], 40)]⟩ ?_
  refine At.fax ⟨lb, 0, none⟩ 13 (by kernel_rfl) FcF.stable ?_
  refine zT FcF.stable FcF.fewer [3, 4, 5, 9, 55] 2 ⟨pops B63 pAI6 3, [.seq (sub B63 pAI7), .block 0, .seq (sub B63 pAI11)], [(3, .v (.pointer pr)), (4, .lp 0 0), (5, .lp 1 0), (9, .v (.pointer (some (Addr.mk lb 0 none)))), (55, .v (.pointer (some (Addr.mk lb 13 none))))], [([.so (mkB k.key), .io .i64 k.st, .io .i64 k.en], 59), ([.so (mkB v.key), .io .i64 v.st, .io .i64 v.en, .io .i64 v.kd, .io .i64 v.nt, .io .i64 v.ct, .io .i64 v.sm, .io .i64 v.mn, .io .i64 v.mx], 40)]⟩ ?_
  refine At.ldx ((⟨lb, 0, none⟩ : Addr).add 13) (.v (.pointer plr)) (by kernel_rfl) FcF.stable (fun ρ w1 hm' hf => hf.cell (.head _) rfl) ?_
  refine zT FcF.stable FcF.fewer [3, 4, 5, 9, 10] 2 ⟨.any (opsOf (sub B63 [1, 0, 4, 1, 2, 1, 1, 1, 0])) 35 [], [.seq (sub B63 pAI0), .block 0, .seq (sub B63 pAI11)], [(3, .v (.pointer pr)), (4, .lp 0 0), (5, .lp 1 0), (9, .v (.pointer (some (Addr.mk lb 0 none)))), (10, .v (.pointer plr))], [([.so (mkB k.key), .io .i64 k.st, .io .i64 k.en], 59), ([.so (mkB v.key), .io .i64 v.st, .io .i64 v.en, .io .i64 v.kd, .io .i64 v.nt, .io .i64 v.ct, .io .i64 v.sm, .io .i64 v.mn, .io .i64 v.mx], 40)]⟩ ?_
  have hC : ¬ lr.high ≤ ll.high := by have h9 := of_decide_eq_false b0; omega
  obtain ⟨mk, mv, ml, mr, rfl⟩ : ∃ x y z u, lr = Tr.node x y z u := by
   cases lr with
   | nil => simp only [Tr.high] at hC; omega
   | node x y z u => exact ⟨x, y, z, u, rfl⟩
  refine At.mono (F' := FcF kw2 vw2 ρ0 [.tr plr (Tr.node mk mv ml mr), .cel lb (nodeW kw2 vw2 lk lv pll plr (Tr.node lk lv ll (Tr.node mk mv ml mr)).high (Tr.node lk lv ll (Tr.node mk mv ml mr)).many), .tr pll (ll), .tr pr (r)]) (fun ρ w1 h => h.perm (by simp)) ?_
  refine At.mono (fun ρ w1 h => FcF.apart h) (At.ex fun x => ?_)
  obtain ⟨mb, pml, pmr⟩ := x
  refine At.mono (F' := fun ρ w1 => FcF kw2 vw2 ρ0 [.cel mb (nodeW kw2 vw2 mk mv pml pmr (Tr.node mk mv ml mr).high (Tr.node mk mv ml mr).many), .tr pml (ml), .tr pmr (mr), .cel lb (nodeW kw2 vw2 lk lv pll plr (Tr.node lk lv ll (Tr.node mk mv ml mr)).high (Tr.node lk lv ll (Tr.node mk mv ml mr)).many), .tr pll (ll), .tr pr (r)] ρ w1 ∧ plr = some ⟨mb, 0, none⟩) (fun ρ w1 h => ⟨h.2, h.1⟩) (At.pure fun hp => ?_)
  subst hp
  refine At.drawnE [(0, .eq (.v (.pointer (some ⟨mb, 0, none⟩)))), (1, .eq (.v (.pointer (some ⟨mb, 0, none⟩)))), (2, .eq (.v (.pointer (some ((⟨mb, 0, none⟩ : Addr).add 0))))), (3, .eq (.agg [.so (mkB mk.key), .io .i64 mk.st, .io .i64 mk.en])), (4, .eq (.v (.pointer (some ⟨mb, 0, none⟩)))), (5, .eq (.v (.pointer (some ⟨mb, 0, none⟩)))), (6, .eq (.v (.pointer (some ((⟨mb, 0, none⟩ : Addr).add 3))))), (7, .eq (.agg [.so (mkB mv.key), .io .i64 mv.st, .io .i64 mv.en, .io .i64 mv.kd, .io .i64 mv.nt, .io .i64 mv.ct, .io .i64 mv.sm, .io .i64 mv.mn, .io .i64 mv.mx])), (8, .eq (.v (.pointer (some ⟨lb, 0, none⟩)))), (9, .eq (.v (.pointer (some ⟨lb, 0, none⟩)))), (10, .eq (.v (.pointer (some ((⟨lb, 0, none⟩ : Addr).add 0))))), (11, .eq (.agg [.so (mkB lk.key), .io .i64 lk.st, .io .i64 lk.en])), (12, .eq (.v (.pointer (some ⟨lb, 0, none⟩)))), (13, .eq (.v (.pointer (some ⟨lb, 0, none⟩)))), (14, .eq (.v (.pointer (some ((⟨lb, 0, none⟩ : Addr).add 3))))), (15, .eq (.agg [.so (mkB lv.key), .io .i64 lv.st, .io .i64 lv.en, .io .i64 lv.kd, .io .i64 lv.nt, .io .i64 lv.ct, .io .i64 lv.sm, .io .i64 lv.mn, .io .i64 lv.mx])), (16, .eq (.v (.pointer (some ⟨lb, 0, none⟩)))), (17, .eq (.v (.pointer (some ⟨lb, 0, none⟩)))), (18, .eq (.v (.pointer (some ((⟨lb, 0, none⟩ : Addr).add 12))))), (19, .eq (.v (.pointer pll))), (20, .eq (.v (.pointer (some ⟨mb, 0, none⟩)))), (21, .eq (.v (.pointer (some ⟨mb, 0, none⟩)))), (22, .eq (.v (.pointer (some ((⟨mb, 0, none⟩ : Addr).add 12))))), (23, .eq (.v (.pointer pml))), (24, .ex Nat (fun b => .v (.pointer (some ⟨b, 0, none⟩))) (fun b ρ w1 => TrF kw2 vw2 (some ⟨b, 0, none⟩) (Tr.node lk lv (ll) (ml)) (ρ0 ++ ρ) w1)), (25, .eq (.agg [.so (mkB k.key), .io .i64 k.st, .io .i64 k.en])), (26, .eq (.agg [.so (mkB v.key), .io .i64 v.st, .io .i64 v.en, .io .i64 v.kd, .io .i64 v.nt, .io .i64 v.ct, .io .i64 v.sm, .io .i64 v.mn, .io .i64 v.mx])), (27, .eq (.v (.pointer (some ⟨mb, 0, none⟩)))), (28, .eq (.v (.pointer (some ⟨mb, 0, none⟩)))), (29, .eq (.v (.pointer (some ((⟨mb, 0, none⟩ : Addr).add 13))))), (30, .eq (.v (.pointer pmr))), (31, .eq (.v (.pointer pr))), (32, .ex Nat (fun b => .v (.pointer (some ⟨b, 0, none⟩))) (fun b ρ w1 => TrF kw2 vw2 (some ⟨b, 0, none⟩) (Tr.node k v (mr) (r)) (ρ0 ++ ρ) w1)), (33, .ex Nat (fun b => .v (.pointer (some ⟨b, 0, none⟩))) (fun b ρ w1 => TrF kw2 vw2 (some ⟨b, 0, none⟩) (Tr.node mk mv (Tr.node lk lv (ll) (ml)) (Tr.node k v (mr) (r))) (ρ0 ++ ρ) w1)), (34, .ex Nat (fun b => .v (.pointer (some ⟨b, 0, none⟩))) (fun b ρ w1 => TrF kw2 vw2 (some ⟨b, 0, none⟩) (Tr.node mk mv (Tr.node lk lv (ll) (ml)) (Tr.node k v (mr) (r))) (ρ0 ++ ρ) w1))] [0, 1, 2, 3, 4, 5, 6, 7, 8, 9, 10, 11, 12, 13, 14, 15, 16, 17, 18, 19, 20, 21, 22, 23, 24, 25, 26, 27, 28, 29, 30, 31, 32, 33, 34] [] 34 8 (fun b => .v (.pointer (some ⟨b, 0, none⟩))) (fun b ρ w1 => TrF kw2 vw2 (some ⟨b, 0, none⟩) (Tr.node mk mv (Tr.node lk lv (ll) (ml)) (Tr.node k v (mr) (r))) (ρ0 ++ ρ) w1) rfl (by kernel_rfl) (by kernel_rfl) FcF.stable (by exact ⟨trivial, trivial, trivial, trivial, trivial, trivial, trivial, trivial, trivial, trivial, trivial, trivial, trivial, trivial, trivial, trivial, trivial, trivial, trivial, trivial, trivial, trivial, trivial, trivial, fun b => TrF.stable, trivial, trivial, trivial, trivial, trivial, trivial, trivial, fun b => TrF.stable, fun b => TrF.stable, fun b => TrF.stable, trivial⟩) (by exact ⟨StepK.pure (by kernel_rfl) rfl,
   StepK.nck ⟨mb, 0, none⟩ (by kernel_rfl) rfl,
   StepK.fax ⟨mb, 0, none⟩ 0 (by kernel_rfl) rfl,
   StepK.lda ((⟨mb, 0, none⟩ : Addr).add 0) 3 [.so (mkB mk.key), .io .i64 mk.st, .io .i64 mk.en] (by kernel_rfl) rfl rfl (fun ρ w1 hm hf j u hj => by rw [Addr.add_add]; exact hf.cell (.head _) (part_k hj)),
   StepK.pure (by kernel_rfl) rfl,
   StepK.nck ⟨mb, 0, none⟩ (by kernel_rfl) rfl,
   StepK.fax ⟨mb, 0, none⟩ 3 (by kernel_rfl) rfl,
   StepK.lda ((⟨mb, 0, none⟩ : Addr).add 3) 9 [.so (mkB mv.key), .io .i64 mv.st, .io .i64 mv.en, .io .i64 mv.kd, .io .i64 mv.nt, .io .i64 mv.ct, .io .i64 mv.sm, .io .i64 mv.mn, .io .i64 mv.mx] (by kernel_rfl) rfl rfl (fun ρ w1 hm hf j u hj => by rw [Addr.add_add]; exact hf.cell (.head _) (part_v hj)),
   StepK.pure (by kernel_rfl) rfl,
   StepK.nck ⟨lb, 0, none⟩ (by kernel_rfl) rfl,
   StepK.fax ⟨lb, 0, none⟩ 0 (by kernel_rfl) rfl,
   StepK.lda ((⟨lb, 0, none⟩ : Addr).add 0) 3 [.so (mkB lk.key), .io .i64 lk.st, .io .i64 lk.en] (by kernel_rfl) rfl rfl (fun ρ w1 hm hf j u hj => by rw [Addr.add_add]; exact hf.cell (.tail _ (.tail _ (.tail _ (.head _)))) (part_k hj)),
   StepK.pure (by kernel_rfl) rfl,
   StepK.nck ⟨lb, 0, none⟩ (by kernel_rfl) rfl,
   StepK.fax ⟨lb, 0, none⟩ 3 (by kernel_rfl) rfl,
   StepK.lda ((⟨lb, 0, none⟩ : Addr).add 3) 9 [.so (mkB lv.key), .io .i64 lv.st, .io .i64 lv.en, .io .i64 lv.kd, .io .i64 lv.nt, .io .i64 lv.ct, .io .i64 lv.sm, .io .i64 lv.mn, .io .i64 lv.mx] (by kernel_rfl) rfl rfl (fun ρ w1 hm hf j u hj => by rw [Addr.add_add]; exact hf.cell (.tail _ (.tail _ (.tail _ (.head _)))) (part_v hj)),
   StepK.pure (by kernel_rfl) rfl,
   StepK.nck ⟨lb, 0, none⟩ (by kernel_rfl) rfl,
   StepK.fax ⟨lb, 0, none⟩ 12 (by kernel_rfl) rfl,
   StepK.ldx ((⟨lb, 0, none⟩ : Addr).add 12) (by kernel_rfl) rfl (fun ρ w1 hm hf => hf.cell (.tail _ (.tail _ (.tail _ (.head _)))) rfl),
   StepK.pure (by kernel_rfl) rfl,
   StepK.nck ⟨mb, 0, none⟩ (by kernel_rfl) rfl,
   StepK.fax ⟨mb, 0, none⟩ 12 (by kernel_rfl) rfl,
   StepK.ldx ((⟨mb, 0, none⟩ : Addr).add 12) (by kernel_rfl) rfl (fun ρ w1 hm hf => hf.cell (.head _) rfl),
   StepK.call 62 [.agg [.so (mkB lk.key), .io .i64 lk.st, .io .i64 lk.en], .agg [.so (mkB lv.key), .io .i64 lv.st, .io .i64 lv.en, .io .i64 lv.kd, .io .i64 lv.nt, .io .i64 lv.ct, .io .i64 lv.sm, .io .i64 lv.mn, .io .i64 lv.mx], .v (.pointer pll), .v (.pointer pml)] (by kernel_rfl) rfl (by kernel_rfl) (fun ρ w1 hm hf => (with2_any lk lv w1 (low_all hm hρ rfl) (hf.tree (.tail _ (.tail _ (.tail _ (.tail _ (.head _)))))) (hf.tree (.tail _ (.head _))) (by simp only [Tr.many] at hn ⊢; omega)).mono fun e w2 h => by
    obtain ⟨b, h1, h2, h3⟩ := h
    exact ⟨_, h1, ⟨b, rfl, h2⟩, h3⟩),
   StepK.pure (by kernel_rfl) rfl,
   StepK.pure (by kernel_rfl) rfl,
   StepK.pure (by kernel_rfl) rfl,
   StepK.nck ⟨mb, 0, none⟩ (by kernel_rfl) rfl,
   StepK.fax ⟨mb, 0, none⟩ 13 (by kernel_rfl) rfl,
   StepK.ldx ((⟨mb, 0, none⟩ : Addr).add 13) (by kernel_rfl) rfl (fun ρ w1 hm hf => hf.cell (.head _) rfl),
   StepK.pure (by kernel_rfl) rfl,
   StepK.call 62 [.agg [.so (mkB k.key), .io .i64 k.st, .io .i64 k.en], .agg [.so (mkB v.key), .io .i64 v.st, .io .i64 v.en, .io .i64 v.kd, .io .i64 v.nt, .io .i64 v.ct, .io .i64 v.sm, .io .i64 v.mn, .io .i64 v.mx], .v (.pointer pmr), .v (.pointer pr)] (by kernel_rfl) rfl (by kernel_rfl) (fun ρ w1 hm hf => (with2_any k v w1 (low_all hm hρ rfl) (hf.tree (.tail _ (.tail _ (.head _)))) (hf.tree (.tail _ (.tail _ (.tail _ (.tail _ (.tail _ (.head _))))))) (by simp only [Tr.many] at hn ⊢; omega)).mono fun e w2 h => by
    obtain ⟨b, h1, h2, h3⟩ := h
    exact ⟨_, h1, ⟨b, rfl, h2⟩, h3⟩),
   StepK.callX2 24 81 32 89 62 (fun x y => [.agg [.so (mkB mk.key), .io .i64 mk.st, .io .i64 mk.en], .agg [.so (mkB mv.key), .io .i64 mv.st, .io .i64 mv.en, .io .i64 mv.kd, .io .i64 mv.nt, .io .i64 mv.ct, .io .i64 mv.sm, .io .i64 mv.mn, .io .i64 mv.mx], .v (.pointer (some ⟨x, 0, none⟩)), .v (.pointer (some ⟨y, 0, none⟩))]) (by kernel_rfl) (by kernel_rfl) rfl (by kernel_rfl) rfl (fun x y => by kernel_rfl) rfl (by kernel_rfl) (fun x y ρ w1 hm hf hx hy => (with2_any mk mv w1 (low_all hm hρ rfl) hx hy (by simp only [Tr.many] at hn ⊢; omega)).mono fun e w2 h => by
    obtain ⟨b, h1, h2, h3⟩ := h
    exact ⟨_, h1, ⟨b, rfl, h2⟩, h3⟩),
   StepK.pureXE 33 90 rfl (by kernel_rfl) (by kernel_rfl) rfl (fun b => by kernel_rfl), trivial⟩) (by unfold subFr; kernel_rfl) (by kernel_rfl) rfl (fun x => ?_)
  refine zT FcT.stable FcT.fewer [8] 0 ⟨.exit .ret, [], [(8, .v (.pointer (some (Addr.mk x 0 none))))], []⟩ ?_
  refine zE (.v (.pointer (some (Addr.mk x 0 none)))) ?_
  intro ρ w9 hm hf
  refine ⟨_, rfl, ?_, hm.below⟩
  rw [Tr.even_l2 hA hC]
  exact hf.2.sub (fun x hx => List.mem_append_left _ hx)
 refine zR 13 b0 ?_
 refine zT FcF.stable FcF.fewer [2, 3, 4, 5, 92] 2 ⟨pops B63 pAI9 1, [.seq (sub B63 pAI10), .block 0, .seq (sub B63 pAI11)], [(2, .v (.pointer pl)), (3, .v (.pointer pr)), (4, .lp 0 0), (5, .lp 1 0), (92, .v (.pointer pr))], [([.so (mkB k.key), .io .i64 k.st, .io .i64 k.en], 59), ([.so (mkB v.key), .io .i64 v.st, .io .i64 v.en, .io .i64 v.kd, .io .i64 v.nt, .io .i64 v.ct, .io .i64 v.sm, .io .i64 v.mn, .io .i64 v.mx], 40)]⟩ ?_
 have hA : ¬ r.high + 1 < l.high := by have h9 := of_decide_eq_false b0; rw [hwr] at h9; omega
 clear b0
 refine zC FcF.stable 80 [.v (.pointer pr)] (.io .i64 (r.high : Int)) (fun ρ _ w1 hi hf => high2_any w1 (hf.tree (.tail _ (.head _)))) ?_
 refine zT FcF.stable FcF.fewer [2, 3, 4, 5, 93, 94] 2 ⟨pops B63 pAI9 3, [.seq (sub B63 pAI10), .block 0, .seq (sub B63 pAI11)], [(2, .v (.pointer pl)), (3, .v (.pointer pr)), (4, .lp 0 0), (5, .lp 1 0), (93, .io .i64 (↑r.high : Int)), (94, .v (.pointer pl))], [([.so (mkB k.key), .io .i64 k.st, .io .i64 k.en], 59), ([.so (mkB v.key), .io .i64 v.st, .io .i64 v.en, .io .i64 v.kd, .io .i64 v.nt, .io .i64 v.ct, .io .i64 v.sm, .io .i64 v.mn, .io .i64 v.mx], 40)]⟩ ?_
 refine zC FcF.stable 80 [.v (.pointer pl)] (.io .i64 (l.high : Int)) (fun ρ _ w1 hi hf => high2_any w1 (hf.tree (.head _))) ?_
 refine zTq FcF.stable FcF.fewer [2, 3, 4, 5, 91] 2 ?_
 rcases Bool.eq_false_or_eq_true (decide ((↑r.high : Int) > IntKind.i64.wrap ((↑l.high : Int) + 1))) with b0 | b0
 ·refine zR 91 b0 ?_
  refine zT FcF.stable FcF.fewer [2, 4, 5, 11, 99] 2 ⟨pqops B63 [1, 0, 4, 1, 3, 1, 2, 1, 0, 0] 1, [.seq (sub B63 pAI1), .seq (sub B63 pAI4), .block 0, .seq (sub B63 pAI11)], [(2, .v (.pointer pl)), (4, .lp 0 0), (5, .lp 1 0), (11, .v (.pointer pr)), (99, .v (.pointer pr))], [([.so (mkB k.key), .io .i64 k.st, .io .i64 k.en], 59), ([.so (mkB v.key), .io .i64 v.st, .io .i64 v.en, .io .i64 v.kd, .io .i64 v.nt, .io .i64 v.ct, .io .i64 v.sm, .io .i64 v.mn, .io .i64 v.mx], 40)]⟩ ?_
  have hB : l.high + 1 < r.high := by have h9 := of_decide_eq_true b0; rw [hwl] at h9; omega
  clear b0
  obtain ⟨rk, rv, rl, rr, rfl⟩ : ∃ x y z u, r = Tr.node x y z u := by
   cases r with
   | nil => simp only [Tr.high] at hB; omega
   | node x y z u => exact ⟨x, y, z, u, rfl⟩
  refine At.mono (F' := FcF kw2 vw2 ρ0 [.tr pr (Tr.node rk rv rl rr), .tr pl (l)]) (fun ρ w1 h => h.perm (by simp)) ?_
  refine At.mono (fun ρ w1 h => FcF.apart h) (At.ex fun x => ?_)
  obtain ⟨rb, prl, prr⟩ := x
  refine At.mono (F' := fun ρ w1 => FcF kw2 vw2 ρ0 [.cel rb (nodeW kw2 vw2 rk rv prl prr (Tr.node rk rv rl rr).high (Tr.node rk rv rl rr).many), .tr prl (rl), .tr prr (rr), .tr pl (l)] ρ w1 ∧ pr = some ⟨rb, 0, none⟩) (fun ρ w1 h => ⟨h.2, h.1⟩) (At.pure fun hp => ?_)
  subst hp
  refine At.nck ⟨rb, 0, none⟩ (by kernel_rfl) FcF.stable ?_
  refine zT FcF.stable FcF.fewer [2, 4, 5, 11, 100] 2 ⟨pqops B63 [1, 0, 4, 1, 3, 1, 2, 1, 0, 0] 2, [.seq (sub B63 pAI1), .seq (sub B63 pAI4), .block 0, .seq (sub B63 pAI11)], [(2, .v (.pointer pl)), (4, .lp 0 0), (5, .lp 1 0), (11, .v (.pointer (some (Addr.mk rb 0 none)))), (100, .v (.pointer (some (Addr.mk rb 0 none))))], [([.so (mkB k.key), .io .i64 k.st, .io .i64 k.en], 59), ([.so (mkB v.key), .io .i64 v.st, .io .i64 v.en, .io .i64 v.kd, .io .i64 v.nt, .io .i64 v.ct, .io .i64 v.sm, .io .i64 v.mn, .io .i64 v.mx], 40)]⟩ ?_
  refine At.fax ⟨rb, 0, none⟩ 13 (by kernel_rfl) FcF.stable ?_
  refine zT FcF.stable FcF.fewer [2, 4, 5, 11, 101] 2 ⟨pqops B63 [1, 0, 4, 1, 3, 1, 2, 1, 0, 0] 3, [.seq (sub B63 pAI1), .seq (sub B63 pAI4), .block 0, .seq (sub B63 pAI11)], [(2, .v (.pointer pl)), (4, .lp 0 0), (5, .lp 1 0), (11, .v (.pointer (some (Addr.mk rb 0 none)))), (101, .v (.pointer (some (Addr.mk rb 13 none))))], [([.so (mkB k.key), .io .i64 k.st, .io .i64 k.en], 59), ([.so (mkB v.key), .io .i64 v.st, .io .i64 v.en, .io .i64 v.kd, .io .i64 v.nt, .io .i64 v.ct, .io .i64 v.sm, .io .i64 v.mn, .io .i64 v.mx], 40)]⟩ ?_
  refine At.ldx ((⟨rb, 0, none⟩ : Addr).add 13) (.v (.pointer prr)) (by kernel_rfl) FcF.stable (fun ρ w1 hm' hf => hf.cell (.head _) rfl) ?_
  refine zT FcF.stable FcF.fewer [2, 4, 5, 11, 102] 2 ⟨pqops B63 [1, 0, 4, 1, 3, 1, 2, 1, 0, 0] 4, [.seq (sub B63 pAI1), .seq (sub B63 pAI4), .block 0, .seq (sub B63 pAI11)], [(2, .v (.pointer pl)), (4, .lp 0 0), (5, .lp 1 0), (11, .v (.pointer (some (Addr.mk rb 0 none)))), (102, .v (.pointer prr))], [([.so (mkB k.key), .io .i64 k.st, .io .i64 k.en], 59), ([.so (mkB v.key), .io .i64 v.st, .io .i64 v.en, .io .i64 v.kd, .io .i64 v.nt, .io .i64 v.ct, .io .i64 v.sm, .io .i64 v.mn, .io .i64 v.mx], 40)]⟩ ?_
  refine zC FcF.stable 80 [.v (.pointer prr)] (.io .i64 (rr.high : Int)) (fun ρ _ w1 hi hf => high2_any w1 (hf.tree (.tail _ (.tail _ (.head _))))) ?_
  refine zT FcF.stable FcF.fewer [2, 4, 5, 11, 103, 104] 2 ⟨pqops B63 [1, 0, 4, 1, 3, 1, 2, 1, 0, 0] 6, [.seq (sub B63 pAI1), .seq (sub B63 pAI4), .block 0, .seq (sub B63 pAI11)], [(2, .v (.pointer pl)), (4, .lp 0 0), (5, .lp 1 0), (11, .v (.pointer (some (Addr.mk rb 0 none)))), (103, .io .i64 (↑rr.high : Int)), (104, .v (.pointer (some (Addr.mk rb 0 none))))], [([.so (mkB k.key), .io .i64 k.st, .io .i64 k.en], 59), ([.so (mkB v.key), .io .i64 v.st, .io .i64 v.en, .io .i64 v.kd, .io .i64 v.nt, .io .i64 v.ct, .io .i64 v.sm, .io .i64 v.mn, .io .i64 v.mx], 40)]⟩ ?_
  refine At.nck ⟨rb, 0, none⟩ (by kernel_rfl) FcF.stable ?_
  refine zT FcF.stable FcF.fewer [2, 4, 5, 11, 103, 105] 2 ⟨pqops B63 [1, 0, 4, 1, 3, 1, 2, 1, 0, 0] 7, [.seq (sub B63 pAI1), .seq (sub B63 pAI4), .block 0, .seq (sub B63 pAI11)], [(2, .v (.pointer pl)), (4, .lp 0 0), (5, .lp 1 0), (11, .v (.pointer (some (Addr.mk rb 0 none)))), (103, .io .i64 (↑rr.high : Int)), (105, .v (.pointer (some (Addr.mk rb 0 none))))], [([.so (mkB k.key), .io .i64 k.st, .io .i64 k.en], 59), ([.so (mkB v.key), .io .i64 v.st, .io .i64 v.en, .io .i64 v.kd, .io .i64 v.nt, .io .i64 v.ct, .io .i64 v.sm, .io .i64 v.mn, .io .i64 v.mx], 40)]⟩ ?_
  refine At.fax ⟨rb, 0, none⟩ 12 (by kernel_rfl) FcF.stable ?_
  refine zT FcF.stable FcF.fewer [2, 4, 5, 11, 103, 106] 2 ⟨pqops B63 [1, 0, 4, 1, 3, 1, 2, 1, 0, 0] 8, [.seq (sub B63 pAI1), .seq (sub B63 pAI4), .block 0, .seq (sub B63 pAI11)], [(2, .v (.pointer pl)), (4, .lp 0 0), (5, .lp 1 0), (11, .v (.pointer (some (Addr.mk rb 0 none)))), (103, .io .i64 (↑rr.high : Int)), (106, .v (.pointer (some (Addr.mk rb 12 none))))], [([.so (mkB k.key), .io .i64 k.st, .io .i64 k.en], 59), ([.so (mkB v.key), .io .i64 v.st, .io .i64 v.en, .io .i64 v.kd, .io .i64 v.nt, .io .i64 v.ct, .io .i64 v.sm, .io .i64 v.mn, .io .i64 v.mx], 40)]⟩ ?_
  refine At.ldx ((⟨rb, 0, none⟩ : Addr).add 12) (.v (.pointer prl)) (by kernel_rfl) FcF.stable (fun ρ w1 hm' hf => hf.cell (.head _) rfl) ?_
  refine zT FcF.stable FcF.fewer [2, 4, 5, 11, 103, 107] 2 ⟨pqops B63 [1, 0, 4, 1, 3, 1, 2, 1, 0, 0] 9, [.seq (sub B63 pAI1), .seq (sub B63 pAI4), .block 0, .seq (sub B63 pAI11)], [(2, .v (.pointer pl)), (4, .lp 0 0), (5, .lp 1 0), (11, .v (.pointer (some (Addr.mk rb 0 none)))), (103, .io .i64 (↑rr.high : Int)), (107, .v (.pointer prl))], [([.so (mkB k.key), .io .i64 k.st, .io .i64 k.en], 59), ([.so (mkB v.key), .io .i64 v.st, .io .i64 v.en, .io .i64 v.kd, .io .i64 v.nt, .io .i64 v.ct, .io .i64 v.sm, .io .i64 v.mn, .io .i64 v.mx], 40)]⟩ ?_
  refine zC FcF.stable 80 [.v (.pointer prl)] (.io .i64 (rl.high : Int)) (fun ρ _ w1 hi hf => high2_any w1 (hf.tree (.tail _ (.head _)))) ?_
  refine zTq FcF.stable FcF.fewer [2, 4, 5, 11, 109] 2 ?_
  rcases Bool.eq_false_or_eq_true (decide ((↑rr.high : Int) ≥ (↑rl.high : Int))) with b0 | b0
  ·refine zR 109 b0 ?_
   refine zT FcF.stable FcF.fewer [2, 4, 5, 11] 2 ⟨.any (opsOf (sub B63 [1, 0, 4, 1, 3, 1, 2, 1, 0, 1, 2, 0])) 22 [], [.seq (sub B63 pAI0), .seq (sub B63 pAI4), .block 0, .seq (sub B63 pAI11)], [(2, .v (.pointer pl)), (4, .lp 0 0), (5, .lp 1 0), (11, .v (.pointer (some (Addr.mk rb 0 none))))], [([.so (mkB k.key), .io .i64 k.st, .io .i64 k.en], 59), ([.so (mkB v.key), .io .i64 v.st, .io .i64 v.en, .io .i64 v.kd, .io .i64 v.nt, .io .i64 v.ct, .io .i64 v.sm, .io .i64 v.mn, .io .i64 v.mx], 40)]⟩ ?_
   have hC : rl.high ≤ rr.high := by have h9 := of_decide_eq_true b0; omega
   refine At.drawnE [(0, .eq (.v (.pointer (some ⟨rb, 0, none⟩)))), (1, .eq (.v (.pointer (some ⟨rb, 0, none⟩)))), (2, .eq (.v (.pointer (some ((⟨rb, 0, none⟩ : Addr).add 0))))), (3, .eq (.agg [.so (mkB rk.key), .io .i64 rk.st, .io .i64 rk.en])), (4, .eq (.v (.pointer (some ⟨rb, 0, none⟩)))), (5, .eq (.v (.pointer (some ⟨rb, 0, none⟩)))), (6, .eq (.v (.pointer (some ((⟨rb, 0, none⟩ : Addr).add 3))))), (7, .eq (.agg [.so (mkB rv.key), .io .i64 rv.st, .io .i64 rv.en, .io .i64 rv.kd, .io .i64 rv.nt, .io .i64 rv.ct, .io .i64 rv.sm, .io .i64 rv.mn, .io .i64 rv.mx])), (8, .eq (.agg [.so (mkB k.key), .io .i64 k.st, .io .i64 k.en])), (9, .eq (.agg [.so (mkB v.key), .io .i64 v.st, .io .i64 v.en, .io .i64 v.kd, .io .i64 v.nt, .io .i64 v.ct, .io .i64 v.sm, .io .i64 v.mn, .io .i64 v.mx])), (10, .eq (.v (.pointer pl))), (11, .eq (.v (.pointer (some ⟨rb, 0, none⟩)))), (12, .eq (.v (.pointer (some ⟨rb, 0, none⟩)))), (13, .eq (.v (.pointer (some ((⟨rb, 0, none⟩ : Addr).add 12))))), (14, .eq (.v (.pointer prl))), (15, .ex Nat (fun b => .v (.pointer (some ⟨b, 0, none⟩))) (fun b ρ w1 => TrF kw2 vw2 (some ⟨b, 0, none⟩) (Tr.node k v (l) (rl)) (ρ0 ++ ρ) w1)), (16, .eq (.v (.pointer (some ⟨rb, 0, none⟩)))), (17, .eq (.v (.pointer (some ⟨rb, 0, none⟩)))), (18, .eq (.v (.pointer (some ((⟨rb, 0, none⟩ : Addr).add 13))))), (19, .eq (.v (.pointer prr))), (20, .ex Nat (fun b => .v (.pointer (some ⟨b, 0, none⟩))) (fun b ρ w1 => TrF kw2 vw2 (some ⟨b, 0, none⟩) (Tr.node rk rv (Tr.node k v (l) (rl)) (rr)) (ρ0 ++ ρ) w1)), (21, .ex Nat (fun b => .v (.pointer (some ⟨b, 0, none⟩))) (fun b ρ w1 => TrF kw2 vw2 (some ⟨b, 0, none⟩) (Tr.node rk rv (Tr.node k v (l) (rl)) (rr)) (ρ0 ++ ρ) w1))] [0, 1, 2, 3, 4, 5, 6, 7, 8, 9, 10, 11, 12, 13, 14, 15, 16, 17, 18, 19, 20, 21] [] 21 8 (fun b => .v (.pointer (some ⟨b, 0, none⟩))) (fun b ρ w1 => TrF kw2 vw2 (some ⟨b, 0, none⟩) (Tr.node rk rv (Tr.node k v (l) (rl)) (rr)) (ρ0 ++ ρ) w1) rfl (by kernel_rfl) (by kernel_rfl) FcF.stable (by exact ⟨trivial, trivial, trivial, trivial, trivial, trivial, trivial, trivial, trivial, trivial, trivial, trivial, trivial, trivial, trivial, fun b => TrF.stable, trivial, trivial, trivial, trivial, fun b => TrF.stable, fun b => TrF.stable, trivial⟩) (by exact ⟨StepK.pure (by kernel_rfl) rfl,
    StepK.nck ⟨rb, 0, none⟩ (by kernel_rfl) rfl,
    StepK.fax ⟨rb, 0, none⟩ 0 (by kernel_rfl) rfl,
    StepK.lda ((⟨rb, 0, none⟩ : Addr).add 0) 3 [.so (mkB rk.key), .io .i64 rk.st, .io .i64 rk.en] (by kernel_rfl) rfl rfl (fun ρ w1 hm hf j u hj => by rw [Addr.add_add]; exact hf.cell (.head _) (part_k hj)),
    StepK.pure (by kernel_rfl) rfl,
    StepK.nck ⟨rb, 0, none⟩ (by kernel_rfl) rfl,
    StepK.fax ⟨rb, 0, none⟩ 3 (by kernel_rfl) rfl,
    StepK.lda ((⟨rb, 0, none⟩ : Addr).add 3) 9 [.so (mkB rv.key), .io .i64 rv.st, .io .i64 rv.en, .io .i64 rv.kd, .io .i64 rv.nt, .io .i64 rv.ct, .io .i64 rv.sm, .io .i64 rv.mn, .io .i64 rv.mx] (by kernel_rfl) rfl rfl (fun ρ w1 hm hf j u hj => by rw [Addr.add_add]; exact hf.cell (.head _) (part_v hj)),
    StepK.pure (by kernel_rfl) rfl,
    StepK.pure (by kernel_rfl) rfl,
    StepK.pure (by kernel_rfl) rfl,
    StepK.pure (by kernel_rfl) rfl,
    StepK.nck ⟨rb, 0, none⟩ (by kernel_rfl) rfl,
    StepK.fax ⟨rb, 0, none⟩ 12 (by kernel_rfl) rfl,
    StepK.ldx ((⟨rb, 0, none⟩ : Addr).add 12) (by kernel_rfl) rfl (fun ρ w1 hm hf => hf.cell (.head _) rfl),
    StepK.call 62 [.agg [.so (mkB k.key), .io .i64 k.st, .io .i64 k.en], .agg [.so (mkB v.key), .io .i64 v.st, .io .i64 v.en, .io .i64 v.kd, .io .i64 v.nt, .io .i64 v.ct, .io .i64 v.sm, .io .i64 v.mn, .io .i64 v.mx], .v (.pointer pl), .v (.pointer prl)] (by kernel_rfl) rfl (by kernel_rfl) (fun ρ w1 hm hf => (with2_any k v w1 (low_all hm hρ rfl) (hf.tree (.tail _ (.tail _ (.tail _ (.head _))))) (hf.tree (.tail _ (.head _))) (by simp only [Tr.many] at hn ⊢; omega)).mono fun e w2 h => by
     obtain ⟨b, h1, h2, h3⟩ := h
     exact ⟨_, h1, ⟨b, rfl, h2⟩, h3⟩),
    StepK.pure (by kernel_rfl) rfl,
    StepK.nck ⟨rb, 0, none⟩ (by kernel_rfl) rfl,
    StepK.fax ⟨rb, 0, none⟩ 13 (by kernel_rfl) rfl,
    StepK.ldx ((⟨rb, 0, none⟩ : Addr).add 13) (by kernel_rfl) rfl (fun ρ w1 hm hf => hf.cell (.head _) rfl),
    StepK.callX 15 125 62 (fun x => [.agg [.so (mkB rk.key), .io .i64 rk.st, .io .i64 rk.en], .agg [.so (mkB rv.key), .io .i64 rv.st, .io .i64 rv.en, .io .i64 rv.kd, .io .i64 rv.nt, .io .i64 rv.ct, .io .i64 rv.sm, .io .i64 rv.mn, .io .i64 rv.mx], .v (.pointer (some ⟨x, 0, none⟩)), .v (.pointer prr)]) (by kernel_rfl) (by kernel_rfl) rfl (fun x => by kernel_rfl) rfl (by kernel_rfl) (fun x ρ w1 hm hf hx => (with2_any rk rv w1 (low_all hm hρ rfl) hx (hf.tree (.tail _ (.tail _ (.head _)))) (by simp only [Tr.many] at hn ⊢; omega)).mono fun e w2 h => by
     obtain ⟨b, h1, h2, h3⟩ := h
     exact ⟨_, h1, ⟨b, rfl, h2⟩, h3⟩),
    StepK.pureXE 20 130 rfl (by kernel_rfl) (by kernel_rfl) rfl (fun b => by kernel_rfl), trivial⟩) (by unfold subFr; kernel_rfl) (by kernel_rfl) rfl (fun x => ?_)
   refine zT FcT.stable FcT.fewer [8] 0 ⟨.exit .ret, [], [(8, .v (.pointer (some (Addr.mk x 0 none))))], []⟩ ?_
   refine zE (.v (.pointer (some (Addr.mk x 0 none)))) ?_
   intro ρ w9 hm hf
   refine ⟨_, rfl, ?_, hm.below⟩
   rw [Tr.even_r1 hA hB hC]
   exact hf.2.sub (fun x hx => List.mem_append_left _ hx)
  refine zR 109 b0 ?_
  refine zT FcF.stable FcF.fewer [2, 4, 5, 11, 131] 2 ⟨pops B63 pAI2 1, [.seq (sub B63 pAI3), .block 0, .seq (sub B63 pAI11)], [(2, .v (.pointer pl)), (4, .lp 0 0), (5, .lp 1 0), (11, .v (.pointer (some (Addr.mk rb 0 none)))), (131, .v (.pointer (some (Addr.mk rb 0 none))))], [([.so (mkB k.key), .io .i64 k.st, .io .i64 k.en], 59), ([.so (mkB v.key), .io .i64 v.st, .io .i64 v.en, .io .i64 v.kd, .io .i64 v.nt, .io .i64 v.ct, .io .i64 v.sm, .io .i64 v.mn, .io .i64 v.mx], 40)]⟩ ?_
  refine At.nck ⟨rb, 0, none⟩ (by kernel_rfl) FcF.stable ?_
  refine zT FcF.stable FcF.fewer [2, 4, 5, 11, 132] 2 ⟨pops B63 pAI2 2, [.seq (sub B63 pAI3), .block 0, .seq (sub B63 pAI11)], [(2, .v (.pointer pl)), (4, .lp 0 0), (5, .lp 1 0), (11, .v (.pointer (some (Addr.mk rb 0 none)))), (132, .v (.pointer (some (Addr.mk rb 0 none))))], [([.so (mkB k.key), .io .i64 k.st, .io .i64 k.en], 59), ([.so (mkB v.key), .io .i64 v.st, .io .i64 v.en, .io .i64 v.kd, .io .i64 v.nt, .io .i64 v.ct, .io .i64 v.sm, .io .i64 v.mn, .io .i64 v.mx], 40)]⟩ ?_
  refine At.fax ⟨rb, 0, none⟩ 12 (by kernel_rfl) FcF.stable ?_
  refine zT FcF.stable FcF.fewer [2, 4, 5, 11, 133] 2 ⟨pops B63 pAI2 3, [.seq (sub B63 pAI3), .block 0, .seq (sub B63 pAI11)], [(2, .v (.pointer pl)), (4, .lp 0 0), (5, .lp 1 0), (11, .v (.pointer (some (Addr.mk rb 0 none)))), (133, .v (.pointer (some (Addr.mk rb 12 none))))], [([.so (mkB k.key), .io .i64 k.st, .io .i64 k.en], 59), ([.so (mkB v.key), .io .i64 v.st, .io .i64 v.en, .io .i64 v.kd, .io .i64 v.nt, .io .i64 v.ct, .io .i64 v.sm, .io .i64 v.mn, .io .i64 v.mx], 40)]⟩ ?_
  refine At.ldx ((⟨rb, 0, none⟩ : Addr).add 12) (.v (.pointer prl)) (by kernel_rfl) FcF.stable (fun ρ w1 hm' hf => hf.cell (.head _) rfl) ?_
  refine zT FcF.stable FcF.fewer [2, 4, 5, 11, 12] 2 ⟨.any (opsOf (sub B63 [1, 0, 4, 1, 3, 1, 2, 1, 1, 1, 0])) 35 [], [.seq (sub B63 pAI0), .block 0, .seq (sub B63 pAI11)], [(2, .v (.pointer pl)), (4, .lp 0 0), (5, .lp 1 0), (11, .v (.pointer (some (Addr.mk rb 0 none)))), (12, .v (.pointer prl))], [([.so (mkB k.key), .io .i64 k.st, .io .i64 k.en], 59), ([.so (mkB v.key), .io .i64 v.st, .io .i64 v.en, .io .i64 v.kd, .io .i64 v.nt, .io .i64 v.ct, .io .i64 v.sm, .io .i64 v.mn, .io .i64 v.mx], 40)]⟩ ?_
  have hC : ¬ rl.high ≤ rr.high := by have h9 := of_decide_eq_false b0; omega
  obtain ⟨mk, mv, ml, mr, rfl⟩ : ∃ x y z u, rl = Tr.node x y z u := by
   cases rl with
   | nil => simp only [Tr.high] at hC; omega
   | node x y z u => exact ⟨x, y, z, u, rfl⟩
  refine At.mono (F' := FcF kw2 vw2 ρ0 [.tr prl (Tr.node mk mv ml mr), .cel rb (nodeW kw2 vw2 rk rv prl prr (Tr.node rk rv (Tr.node mk mv ml mr) rr).high (Tr.node rk rv (Tr.node mk mv ml mr) rr).many), .tr prr (rr), .tr pl (l)]) (fun ρ w1 h => h.perm (by simp)) ?_
  refine At.mono (fun ρ w1 h => FcF.apart h) (At.ex fun x => ?_)
  obtain ⟨mb, pml, pmr⟩ := x
  refine At.mono (F' := fun ρ w1 => FcF kw2 vw2 ρ0 [.cel mb (nodeW kw2 vw2 mk mv pml pmr (Tr.node mk mv ml mr).high (Tr.node mk mv ml mr).many), .tr pml (ml), .tr pmr (mr), .cel rb (nodeW kw2 vw2 rk rv prl prr (Tr.node rk rv (Tr.node mk mv ml mr) rr).high (Tr.node rk rv (Tr.node mk mv ml mr) rr).many), .tr prr (rr), .tr pl (l)] ρ w1 ∧ prl = some ⟨mb, 0, none⟩) (fun ρ w1 h => ⟨h.2, h.1⟩) (At.pure fun hp => ?_)
  subst hp
  refine At.drawnE [(0, .eq (.v (.pointer (some ⟨mb, 0, none⟩)))), (1, .eq (.v (.pointer (some ⟨mb, 0, none⟩)))), (2, .eq (.v (.pointer (some ((⟨mb, 0, none⟩ : Addr).add 0))))), (3, .eq (.agg [.so (mkB mk.key), .io .i64 mk.st, .io .i64 mk.en])), (4, .eq (.v (.pointer (some ⟨mb, 0, none⟩)))), (5, .eq (.v (.pointer (some ⟨mb, 0, none⟩)))), (6, .eq (.v (.pointer (some ((⟨mb, 0, none⟩ : Addr).add 3))))), (7, .eq (.agg [.so (mkB mv.key), .io .i64 mv.st, .io .i64 mv.en, .io .i64 mv.kd, .io .i64 mv.nt, .io .i64 mv.ct, .io .i64 mv.sm, .io .i64 mv.mn, .io .i64 mv.mx])), (8, .eq (.agg [.so (mkB k.key), .io .i64 k.st, .io .i64 k.en])), (9, .eq (.agg [.so (mkB v.key), .io .i64 v.st, .io .i64 v.en, .io .i64 v.kd, .io .i64 v.nt, .io .i64 v.ct, .io .i64 v.sm, .io .i64 v.mn, .io .i64 v.mx])), (10, .eq (.v (.pointer pl))), (11, .eq (.v (.pointer (some ⟨mb, 0, none⟩)))), (12, .eq (.v (.pointer (some ⟨mb, 0, none⟩)))), (13, .eq (.v (.pointer (some ((⟨mb, 0, none⟩ : Addr).add 12))))), (14, .eq (.v (.pointer pml))), (15, .ex Nat (fun b => .v (.pointer (some ⟨b, 0, none⟩))) (fun b ρ w1 => TrF kw2 vw2 (some ⟨b, 0, none⟩) (Tr.node k v (l) (ml)) (ρ0 ++ ρ) w1)), (16, .eq (.v (.pointer (some ⟨rb, 0, none⟩)))), (17, .eq (.v (.pointer (some ⟨rb, 0, none⟩)))), (18, .eq (.v (.pointer (some ((⟨rb, 0, none⟩ : Addr).add 0))))), (19, .eq (.agg [.so (mkB rk.key), .io .i64 rk.st, .io .i64 rk.en])), (20, .eq (.v (.pointer (some ⟨rb, 0, none⟩)))), (21, .eq (.v (.pointer (some ⟨rb, 0, none⟩)))), (22, .eq (.v (.pointer (some ((⟨rb, 0, none⟩ : Addr).add 3))))), (23, .eq (.agg [.so (mkB rv.key), .io .i64 rv.st, .io .i64 rv.en, .io .i64 rv.kd, .io .i64 rv.nt, .io .i64 rv.ct, .io .i64 rv.sm, .io .i64 rv.mn, .io .i64 rv.mx])), (24, .eq (.v (.pointer (some ⟨mb, 0, none⟩)))), (25, .eq (.v (.pointer (some ⟨mb, 0, none⟩)))), (26, .eq (.v (.pointer (some ((⟨mb, 0, none⟩ : Addr).add 13))))), (27, .eq (.v (.pointer pmr))), (28, .eq (.v (.pointer (some ⟨rb, 0, none⟩)))), (29, .eq (.v (.pointer (some ⟨rb, 0, none⟩)))), (30, .eq (.v (.pointer (some ((⟨rb, 0, none⟩ : Addr).add 13))))), (31, .eq (.v (.pointer prr))), (32, .ex Nat (fun b => .v (.pointer (some ⟨b, 0, none⟩))) (fun b ρ w1 => TrF kw2 vw2 (some ⟨b, 0, none⟩) (Tr.node rk rv (mr) (rr)) (ρ0 ++ ρ) w1)), (33, .ex Nat (fun b => .v (.pointer (some ⟨b, 0, none⟩))) (fun b ρ w1 => TrF kw2 vw2 (some ⟨b, 0, none⟩) (Tr.node mk mv (Tr.node k v (l) (ml)) (Tr.node rk rv (mr) (rr))) (ρ0 ++ ρ) w1)), (34, .ex Nat (fun b => .v (.pointer (some ⟨b, 0, none⟩))) (fun b ρ w1 => TrF kw2 vw2 (some ⟨b, 0, none⟩) (Tr.node mk mv (Tr.node k v (l) (ml)) (Tr.node rk rv (mr) (rr))) (ρ0 ++ ρ) w1))] [0, 1, 2, 3, 4, 5, 6, 7, 8, 9, 10, 11, 12, 13, 14, 15, 16, 17, 18, 19, 20, 21, 22, 23, 24, 25, 26, 27, 28, 29, 30, 31, 32, 33, 34] [] 34 8 (fun b => .v (.pointer (some ⟨b, 0, none⟩))) (fun b ρ w1 => TrF kw2 vw2 (some ⟨b, 0, none⟩) (Tr.node mk mv (Tr.node k v (l) (ml)) (Tr.node rk rv (mr) (rr))) (ρ0 ++ ρ) w1) rfl (by kernel_rfl) (by kernel_rfl) FcF.stable (by exact ⟨trivial, trivial, trivial, trivial, trivial, trivial, trivial, trivial, trivial, trivial, trivial, trivial, trivial, trivial, trivial, fun b => TrF.stable, trivial, trivial, trivial, trivial, trivial, trivial, trivial, trivial, trivial, trivial, trivial, trivial, trivial, trivial, trivial, trivial, fun b => TrF.stable, fun b => TrF.stable, fun b => TrF.stable, trivial⟩) (by exact ⟨StepK.pure (by kernel_rfl) rfl,
   StepK.nck ⟨mb, 0, none⟩ (by kernel_rfl) rfl,
   StepK.fax ⟨mb, 0, none⟩ 0 (by kernel_rfl) rfl,
   StepK.lda ((⟨mb, 0, none⟩ : Addr).add 0) 3 [.so (mkB mk.key), .io .i64 mk.st, .io .i64 mk.en] (by kernel_rfl) rfl rfl (fun ρ w1 hm hf j u hj => by rw [Addr.add_add]; exact hf.cell (.head _) (part_k hj)),
   StepK.pure (by kernel_rfl) rfl,
   StepK.nck ⟨mb, 0, none⟩ (by kernel_rfl) rfl,
   StepK.fax ⟨mb, 0, none⟩ 3 (by kernel_rfl) rfl,
   StepK.lda ((⟨mb, 0, none⟩ : Addr).add 3) 9 [.so (mkB mv.key), .io .i64 mv.st, .io .i64 mv.en, .io .i64 mv.kd, .io .i64 mv.nt, .io .i64 mv.ct, .io .i64 mv.sm, .io .i64 mv.mn, .io .i64 mv.mx] (by kernel_rfl) rfl rfl (fun ρ w1 hm hf j u hj => by rw [Addr.add_add]; exact hf.cell (.head _) (part_v hj)),
   StepK.pure (by kernel_rfl) rfl,
   StepK.pure (by kernel_rfl) rfl,
   StepK.pure (by kernel_rfl) rfl,
   StepK.pure (by kernel_rfl) rfl,
   StepK.nck ⟨mb, 0, none⟩ (by kernel_rfl) rfl,
   StepK.fax ⟨mb, 0, none⟩ 12 (by kernel_rfl) rfl,
   StepK.ldx ((⟨mb, 0, none⟩ : Addr).add 12) (by kernel_rfl) rfl (fun ρ w1 hm hf => hf.cell (.head _) rfl),
   StepK.call 62 [.agg [.so (mkB k.key), .io .i64 k.st, .io .i64 k.en], .agg [.so (mkB v.key), .io .i64 v.st, .io .i64 v.en, .io .i64 v.kd, .io .i64 v.nt, .io .i64 v.ct, .io .i64 v.sm, .io .i64 v.mn, .io .i64 v.mx], .v (.pointer pl), .v (.pointer pml)] (by kernel_rfl) rfl (by kernel_rfl) (fun ρ w1 hm hf => (with2_any k v w1 (low_all hm hρ rfl) (hf.tree (.tail _ (.tail _ (.tail _ (.tail _ (.tail _ (.head _))))))) (hf.tree (.tail _ (.head _))) (by simp only [Tr.many] at hn ⊢; omega)).mono fun e w2 h => by
    obtain ⟨b, h1, h2, h3⟩ := h
    exact ⟨_, h1, ⟨b, rfl, h2⟩, h3⟩),
   StepK.pure (by kernel_rfl) rfl,
   StepK.nck ⟨rb, 0, none⟩ (by kernel_rfl) rfl,
   StepK.fax ⟨rb, 0, none⟩ 0 (by kernel_rfl) rfl,
   StepK.lda ((⟨rb, 0, none⟩ : Addr).add 0) 3 [.so (mkB rk.key), .io .i64 rk.st, .io .i64 rk.en] (by kernel_rfl) rfl rfl (fun ρ w1 hm hf j u hj => by rw [Addr.add_add]; exact hf.cell (.tail _ (.tail _ (.tail _ (.head _)))) (part_k hj)),
   StepK.pure (by kernel_rfl) rfl,
   StepK.nck ⟨rb, 0, none⟩ (by kernel_rfl) rfl,
   StepK.fax ⟨rb, 0, none⟩ 3 (by kernel_rfl) rfl,
   StepK.lda ((⟨rb, 0, none⟩ : Addr).add 3) 9 [.so (mkB rv.key), .io .i64 rv.st, .io .i64 rv.en, .io .i64 rv.kd, .io .i64 rv.nt, .io .i64 rv.ct, .io .i64 rv.sm, .io .i64 rv.mn, .io .i64 rv.mx] (by kernel_rfl) rfl rfl (fun ρ w1 hm hf j u hj => by rw [Addr.add_add]; exact hf.cell (.tail _ (.tail _ (.tail _ (.head _)))) (part_v hj)),
   StepK.pure (by kernel_rfl) rfl,
   StepK.nck ⟨mb, 0, none⟩ (by kernel_rfl) rfl,
   StepK.fax ⟨mb, 0, none⟩ 13 (by kernel_rfl) rfl,
   StepK.ldx ((⟨mb, 0, none⟩ : Addr).add 13) (by kernel_rfl) rfl (fun ρ w1 hm hf => hf.cell (.head _) rfl),
   StepK.pure (by kernel_rfl) rfl,
   StepK.nck ⟨rb, 0, none⟩ (by kernel_rfl) rfl,
   StepK.fax ⟨rb, 0, none⟩ 13 (by kernel_rfl) rfl,
   StepK.ldx ((⟨rb, 0, none⟩ : Addr).add 13) (by kernel_rfl) rfl (fun ρ w1 hm hf => hf.cell (.tail _ (.tail _ (.tail _ (.head _)))) rfl),
   StepK.call 62 [.agg [.so (mkB rk.key), .io .i64 rk.st, .io .i64 rk.en], .agg [.so (mkB rv.key), .io .i64 rv.st, .io .i64 rv.en, .io .i64 rv.kd, .io .i64 rv.nt, .io .i64 rv.ct, .io .i64 rv.sm, .io .i64 rv.mn, .io .i64 rv.mx], .v (.pointer pmr), .v (.pointer prr)] (by kernel_rfl) rfl (by kernel_rfl) (fun ρ w1 hm hf => (with2_any rk rv w1 (low_all hm hρ rfl) (hf.tree (.tail _ (.tail _ (.head _)))) (hf.tree (.tail _ (.tail _ (.tail _ (.tail _ (.head _)))))) (by simp only [Tr.many] at hn ⊢; omega)).mono fun e w2 h => by
    obtain ⟨b, h1, h2, h3⟩ := h
    exact ⟨_, h1, ⟨b, rfl, h2⟩, h3⟩),
   StepK.callX2 15 150 32 167 62 (fun x y => [.agg [.so (mkB mk.key), .io .i64 mk.st, .io .i64 mk.en], .agg [.so (mkB mv.key), .io .i64 mv.st, .io .i64 mv.en, .io .i64 mv.kd, .io .i64 mv.nt, .io .i64 mv.ct, .io .i64 mv.sm, .io .i64 mv.mn, .io .i64 mv.mx], .v (.pointer (some ⟨x, 0, none⟩)), .v (.pointer (some ⟨y, 0, none⟩))]) (by kernel_rfl) (by kernel_rfl) rfl (by kernel_rfl) rfl (fun x y => by kernel_rfl) rfl (by kernel_rfl) (fun x y ρ w1 hm hf hx hy => (with2_any mk mv w1 (low_all hm hρ rfl) hx hy (by simp only [Tr.many] at hn ⊢; omega)).mono fun e w2 h => by
    obtain ⟨b, h1, h2, h3⟩ := h
    exact ⟨_, h1, ⟨b, rfl, h2⟩, h3⟩),
   StepK.pureXE 33 168 rfl (by kernel_rfl) (by kernel_rfl) rfl (fun b => by kernel_rfl), trivial⟩) (by unfold subFr; kernel_rfl) (by kernel_rfl) rfl (fun x => ?_)
  refine zT FcT.stable FcT.fewer [8] 0 ⟨.exit .ret, [], [(8, .v (.pointer (some (Addr.mk x 0 none))))], []⟩ ?_
  refine zE (.v (.pointer (some (Addr.mk x 0 none)))) ?_
  intro ρ w9 hm hf
  refine ⟨_, rfl, ?_, hm.below⟩
  rw [Tr.even_r2 hA hB hC]
  exact hf.2.sub (fun x hx => List.mem_append_left _ hx)
 refine zR 91 b0 ?_
 refine zT FcF.stable FcF.fewer [169, 170, 171, 172] 0 ⟨pops B63 [1, 1, 0] 4, [.seq (sub B63 pAI0)], [(169, .agg [.so (mkB k.key), .io .i64 k.st, .io .i64 k.en]), (170, .agg [.so (mkB v.key), .io .i64 v.st, .io .i64 v.en, .io .i64 v.kd, .io .i64 v.nt, .io .i64 v.ct, .io .i64 v.sm, .io .i64 v.mn, .io .i64 v.mx]), (171, .v (.pointer pl)), (172, .v (.pointer pr))], []⟩ ?_
 have hB : ¬ l.high + 1 < r.high := by have h9 := of_decide_eq_false b0; rw [hwl] at h9; omega
 clear b0
 refine At.callx FcF.stable (X := Nat) 62 [.agg [.so (mkB k.key), .io .i64 k.st, .io .i64 k.en], .agg [.so (mkB v.key), .io .i64 v.st, .io .i64 v.en, .io .i64 v.kd, .io .i64 v.nt, .io .i64 v.ct, .io .i64 v.sm, .io .i64 v.mn, .io .i64 v.mx], .v (.pointer pl), .v (.pointer pr)] (fun x => .v (.pointer (some ⟨x, 0, none⟩))) (fun x ρ w1 => TrF kw2 vw2 (some ⟨x, 0, none⟩) (Tr.node k v l r) (ρ0 ++ ρ) w1) (fun x => TrF.stable) (by kernel_rfl) (by kernel_rfl) (by kernel_rfl) (by kernel_rfl) (fun ρ a w1 hi hf => (with2_any k v w1 (low_all hi.mem hρ rfl) (hf.tree (.head _)) (hf.tree (.tail _ (.head _))) (by omega)).mono fun e w2 h => by
  obtain ⟨b, h1, h2, h3⟩ := h
  exact ⟨b, h1, h3, h2⟩) (fun x => ?_)
 refine zT FcT.stable FcT.fewer [8] 0 ⟨.exit .ret, [], [(8, .v (.pointer (some (Addr.mk x 0 none))))], []⟩ ?_
 refine zE (.v (.pointer (some (Addr.mk x 0 none)))) ?_
 intro ρ w9 hm hf
 refine ⟨_, rfl, ?_, hm.below⟩
 rw [Tr.even_no hA hB]
 exact hf.2.sub (fun x hx => List.mem_append_left _ hx)
end Go.Proofs.YtkjnbafdmjakgaaGreatDoor
end
section
namespace Go.Proofs.YtkjnbafdmjakgaaGreatDoor
open Go.RowKit Go.Sx
end Go.Proofs.YtkjnbafdmjakgaaGreatDoor
end
section
/- The library functions that the job's text calls: their contracts (printed by the kit's tools). -/
namespace Go.Proofs
open Go.Shelf
end Go.Proofs
end
section
namespace Go.Proofs.YtkjnbafdmjakgaaGreatDoor
open Go.RowKit Go.Sx
structure PSt where
 A : Option Addr
 n : Nat
 c : Nat
 ds : List (List UInt8)
 cur : List UInt8
 i : Nat
end Go.Proofs.YtkjnbafdmjakgaaGreatDoor
end
section
namespace Go.Proofs.YtkjnbafdmjakgaaGreatDoor
open Go.RowKit Go.Sx
end Go.Proofs.YtkjnbafdmjakgaaGreatDoor
end
section
/-! Panes: the reference reads a line as the kit does; a text cut at its lines' ends. -/
namespace Go.Proofs.YtkjnbafdmjakgaaGreatDoor
open Go.RowKit Go.Sx
end Go.Proofs.YtkjnbafdmjakgaaGreatDoor
end
section
namespace Go.Proofs.YtkjnbafdmjakgaaGreatDoor
open Go.RowKit Go.Sx
structure RQt where
 A : Option Addr
 n : Nat
 c : Nat
 ps : List Pn
 i : Nat
end Go.Proofs.YtkjnbafdmjakgaaGreatDoor
end
section
namespace Go.Proofs.YtkjnbafdmjakgaaGreatDoor
open Go.RowKit Go.Sx
theorem row_some {w : World} {base e size n c : Nat} {A : Option Addr} {xs : List Value} (h : w.ownsRow base e size (.slice A n c) n xs) (hn : 0 < n) : ∃ a, A = some a := by
 rcases h.2 with ⟨_, h'⟩ | ⟨g, cap, cur, hv, _⟩
 ·omega
 injection hv with hv _ _
 exact ⟨_, hv⟩
theorem cells_len (p : Pn) : p.cells.length = 9 := rfl
theorem pv_at : ∀ {ps : List Pn} {i : Nat} {p : Pn} {j : Nat} {v : Value}, ps[i]? = some p → p.cells[j]? = some v → (pv ps)[i * 9 + j]? = some v
 | [], i, p, j, v, h, _ => by simp at h
 | x :: ps, 0, p, j, v, h, hj => by
  simp only [List.getElem?_cons_zero, Option.some.injEq] at h
  subst h
  have hl := (List.getElem?_eq_some_iff.1 hj).1
  rw [show pv (x :: ps) = x.cells ++ pv ps by simp [pv], Nat.zero_mul, Nat.zero_add, List.getElem?_append_left hl]
  exact hj
 | x :: ps, i + 1, p, j, v, h, hj => by
  rw [show pv (x :: ps) = x.cells ++ pv ps by simp [pv], List.getElem?_append_right (by rw [cells_len]; omega), cells_len, show (i + 1) * 9 + j - 9 = i * 9 + j by omega]
  exact pv_at (by simpa using h) hj
def frS (A B : Option Addr) (n c d i : Nat) : Fr := [(0, .sl A n c), (1, .sl B n d), (5, .io .i64 (i : Int))]
def locS (_ : Nat) : Sx.Loc := []
instance : DecidableEq Pn := fun p q => decidable_of_iff (p.key = q.key ∧ p.st = q.st ∧ p.en = q.en ∧ p.kd = q.kd ∧ p.nt = q.nt ∧ p.ct = q.ct ∧ p.sm = q.sm ∧ p.mn = q.mn ∧ p.mx = q.mx) (by cases p; cases q; simp)
theorem pane_beq (p q : Pn) : ((mkB p.key).toList == (mkB q.key).toList && (p.st == q.st && (p.en == q.en && true) && (p.kd == q.kd && (p.nt == q.nt && (p.ct == q.ct && (p.sm == q.sm && (p.mn == q.mn && (p.mx == q.mx && true))) && true))))) = decide (p = q) := by
 rw [str_beq, Bool.eq_iff_iff]
 cases p
 cases q
 simp [and_assoc]
noncomputable def B13 : Code := (Tryz.f13.body).getD .skip
end Go.Proofs.YtkjnbafdmjakgaaGreatDoor
end
section
namespace Go.Proofs.YtkjnbafdmjakgaaGreatDoor
open Go.RowKit Go.Sx
def Pn.in64 (p : Pn) : Prop := YtkjnbafdmjakgaaGreatDoor.in64 p.st ∧ YtkjnbafdmjakgaaGreatDoor.in64 p.en ∧ YtkjnbafdmjakgaaGreatDoor.in64 p.nt ∧ YtkjnbafdmjakgaaGreatDoor.in64 p.ct ∧ YtkjnbafdmjakgaaGreatDoor.in64 p.sm ∧ YtkjnbafdmjakgaaGreatDoor.in64 p.mn ∧ YtkjnbafdmjakgaaGreatDoor.in64 p.mx
end Go.Proofs.YtkjnbafdmjakgaaGreatDoor
end
