/- Joined texts: TK, TL, TM, CC, NQ, BR. -/
import Derived.Test.YtkjnbafdmjakgaaGreatDoorVAJ
set_option linter.unusedSimpArgs false
set_option linter.unusedVariables false
namespace Go.Sx
open Go
def zAK0 : List SV := [.v (.string (ByteArray.mk #[])), .v (.int .i64 0), .v (.int .i64 0), .v (.int .i64 0), .v (.int .i64 0), .v (.int .i64 0), .v (.int .i64 0), .v (.int .i64 0), .v (.int .i64 0)]
def pAK1 : List Nat := [1, 1, 1, 0, 1, 4, 4, 1, 4, 1, 4, 1, 3, 1, 3, 0]
def pAK2 : List Nat := [1, 1, 1, 0, 1, 4, 4, 1, 4, 1, 4, 1, 3, 1, 2]
def pAK3 : List Nat := [1, 1, 1, 0, 1, 4, 4, 1, 4, 1, 4, 1, 2]
def pAK4 : List Nat := [1, 1, 1, 0, 1, 4, 4, 1, 4, 1]
def pAK5 : List Nat := [1, 1, 0, 1, 2, 1]
def pAK6 : List Nat := [1, 1, 1, 0, 0]
def pAK7 : List Nat := [1, 1, 1, 0, 1]
def pAK8 : List Nat := [1, 1, 1, 1]
end Go.Sx
section
namespace Go.Proofs.YtkjnbafdmjakgaaGreatDoor
open Go.RowKit Go.Sx
def gotS (o : Option SlV) : SlV := o.getD ⟨none, 0, 0⟩
def gotP (o : Option Pn) : Pn := o.getD ⟨[], 0, 0, 0, 0, 0, 0, 0, 0⟩
theorem Tr.get_l {κ ν : Type} {cmp : κ → κ → Int} {k k' : κ} {v' : ν} {l r : Tr κ ν} (h : cmp k k' < 0) : Tr.get cmp k (.node k' v' l r) = l.get cmp k := by
 rw [Tr.get, if_pos h]
theorem Tr.get_r {κ ν : Type} {cmp : κ → κ → Int} {k k' : κ} {v' : ν} {l r : Tr κ ν} (h : ¬ cmp k k' < 0) (h2 : cmp k k' > 0) : Tr.get cmp k (.node k' v' l r) = r.get cmp k := by
 rw [Tr.get, if_neg h, if_pos h2]
theorem Tr.get_e {κ ν : Type} {cmp : κ → κ → Int} {k k' : κ} {v' : ν} {l r : Tr κ ν} (h : ¬ cmp k k' < 0) (h2 : ¬ cmp k k' > 0) : Tr.get cmp k (.node k' v' l r) = some v' := by
 rw [Tr.get, if_neg h, if_neg h2]
theorem TrF.kids {κ ν : Type} {kw : κ → List Value} {vw : ν → List Value} {ρ : List Nat} {w : World} {b : Nat} {k : κ} {v : ν} {l r : Tr κ ν} (h : TrF kw vw (some ⟨b, 0, none⟩) (.node k v l r) ρ w) : ∃ x : Option Addr × Option Addr, Cel ⟨b, 0, none⟩ (nodeW kw vw k v x.1 x.2 (Tr.node k v l r).high (Tr.node k v l r).many) ρ w ∧ TrF kw vw x.1 l ρ w ∧ TrF kw vw x.2 r ρ w := by
 obtain ⟨b', pl, pr, h1, h2, h3, h4⟩ := h
 injection h1 with h1
 injection h1 with h1
 subst h1
 exact ⟨(pl, pr), h2, h3, h4⟩
theorem Tk3.stable {κ ν : Type} {kw : κ → List Value} {vw : ν → List Value} {ρ0 : List Nat} {b : Nat} {ys : List Value} {p q : Option Addr} {t u : Tr κ ν} : Stable (fun ρ w => Cel ⟨b, 0, none⟩ ys (ρ0 ++ ρ) w ∧ TrF kw vw p t (ρ0 ++ ρ) w ∧ TrF kw vw q u (ρ0 ++ ρ) w) := Stable.and (fun ρ w ρ' w' hg hk h => by
 obtain ⟨h5, h6⟩ := Cel.app.1 h
 exact Cel.app.2 ⟨Cel.stable ρ w ρ' w' hg hk h5, h6⟩) (TrF.stable.and TrF.stable)
def frG1 (mb : Nat) (k : List UInt8) : Option Addr × Tr (List UInt8) (SlV) → Fr
 | (p, _) => [(0, .v (.pointer (some ⟨mb, 0, none⟩))), (1, .so (mkB k)), (6, .v (.slice none 0 0)), (7, .v (.pointer p))]
def locG1 (k : List UInt8) (_ : Option Addr × Tr (List UInt8) (SlV)) : Sx.Loc := []
def GG1 (ρ0 : List Nat) (k : List UInt8) (R : Option (SlV)) (x : Option Addr × Tr (List UInt8) (SlV)) (ρ : List Nat) (w : World) : Prop := TrF kw1 vw1 x.1 x.2 (ρ0 ++ ρ) w ∧ x.2.get cmp1 k = R
noncomputable def B22 : Code := (Tryz.f22.body).getD .skip
set_option maxHeartbeats 20000000 in
set_option maxRecDepth 100000 in
theorem get1_any (k : List UInt8) {mb : Nat} (t : Tr (List UInt8) (SlV)) (ρ0 : List Nat) (p : Option Addr) (w : World) (hM : w.cell? ((⟨mb, 0, none⟩ : Addr).add 0) = some (.func (.func 29) #[] #[])) (hM1 : w.cell? ((⟨mb, 0, none⟩ : Addr).add 1) = some (.pointer p)) (hp : TrF kw1 vw1 p t ρ0 w) :
  Calls Tryz.prog 22 #[.pointer (some ⟨mb, 0, none⟩), .string (mkB k)] w fun e w' => e = .returned (.tuple #[.slice (gotS (t.get cmp1 k)).A (gotS (t.get cmp1 k)).n (gotS (t.get cmp1 k)).c, .bool (t.get cmp1 k).isSome]) ∧ Below w.heap.size w w' := by
 refine enterF (N := w.heap.size) (F := fun ρ w1 => TrF kw1 vw1 p t (ρ0 ++ ρ) w1) (fn := Tryz.f22) (c := B22) [.v (.pointer (some ⟨mb, 0, none⟩)), .so (mkB k)] Tryz.func22 rfl rfl (Nat.le_refl _) (by rw [List.append_nil]; exact hp) ?_
 refine zT TrF.stable TrF.fewer [0, 1, 6, 9] 0 ⟨pops B22 [1, 1, 0, 0] 1, [.seq (sub B22 [1, 1, 0, 1]), .seq (sub B22 [1, 1, 1])], [(0, .v (.pointer (some (Addr.mk mb 0 none)))), (1, .so (mkB k)), (6, .v (.slice none 0 0)), (9, .v (.pointer (some (Addr.mk mb 0 none))))], []⟩ ?_
 refine zC TrF.stable 43 [.v (.pointer (some ⟨mb, 0, none⟩))] (.v (.bool false)) (fun ρ _ w1 hi hf => none1_any w1 (cell_belowA hM hi.mem.below)) ?_
 refine zT TrF.stable TrF.fewer [0, 1, 6, 12] 0 ⟨pops B22 pAK6 1, [.seq (sub B22 pAK7), .seq (sub B22 pAK8)], [(0, .v (.pointer (some (Addr.mk mb 0 none)))), (1, .so (mkB k)), (6, .v (.slice none 0 0)), (12, .v (.pointer (some (Addr.mk mb 0 none))))], []⟩ ?_
 refine At.nck ⟨mb, 0, none⟩ (by kernel_rfl) TrF.stable ?_
 refine zT TrF.stable TrF.fewer [0, 1, 6, 13] 0 ⟨pops B22 pAK6 2, [.seq (sub B22 pAK7), .seq (sub B22 pAK8)], [(0, .v (.pointer (some (Addr.mk mb 0 none)))), (1, .so (mkB k)), (6, .v (.slice none 0 0)), (13, .v (.pointer (some (Addr.mk mb 0 none))))], []⟩ ?_
 refine At.fax ⟨mb, 0, none⟩ 1 (by kernel_rfl) TrF.stable ?_
 refine zT TrF.stable TrF.fewer [0, 1, 6, 14] 0 ⟨pops B22 pAK6 3, [.seq (sub B22 pAK7), .seq (sub B22 pAK8)], [(0, .v (.pointer (some (Addr.mk mb 0 none)))), (1, .so (mkB k)), (6, .v (.slice none 0 0)), (14, .v (.pointer (some (Addr.mk mb 1 none))))], []⟩ ?_
 refine At.ldx ((⟨mb, 0, none⟩ : Addr).add 1) (.v (.pointer p)) (by kernel_rfl) TrF.stable (fun ρ w1 hm' hf => cell_belowA hM1 hm'.below) ?_
 refine zT TrF.stable TrF.fewer [0, 1, 6, 7] 0 ⟨.code (sub B22 [1, 1, 1, 0, 1, 4]), [.block 0, .seq (sub B22 pAK8)], [(0, .v (.pointer (some (Addr.mk mb 0 none)))), (1, .so (mkB k)), (6, .v (.slice none 0 0)), (7, .v (.pointer p))], []⟩ ?_
 obtain ⟨R, hR⟩ : ∃ R, t.get cmp1 k = R := ⟨_, rfl⟩
 refine At.loop (σ := Option Addr × Tr (List UInt8) (SlV)) (sub B22 [1, 1, 1, 0, 1, 4, 4]) (frG1 mb k) (locG1 k) (GG1 ρ0 k R) (fun x => x.2.many) (p, t) (by kernel_rfl) (by unfold subFr; kernel_rfl) (by kernel_rfl) (fun _ _ _ _ h => ⟨h, hR⟩) ?_
 rintro ⟨q, u⟩
 refine At.pure fun hu => ?_
 rw [hR]
 cases u with
 | nil =>
  refine At.mono (F' := fun ρ w1 => TrF kw1 vw1 none (Tr.nil) (ρ0 ++ ρ) w1 ∧ q = none) (fun ρ w1 h => ⟨rfl, h⟩) (At.pure fun hq => ?_)
  subst hq
  refine zT TrF.stable TrF.fewer [4, 5] 0 ⟨.exit .ret, [], [(4, .v (.slice none 0 0)), (5, .v (.bool false))], []⟩ ?_
  refine zE (.tup [.v (.slice none 0 0), .v (.bool false)]) ?_
  intro ρ w9 hm hf
  rw [← hu]
  exact ⟨rfl, hm.below⟩
 | node k' v' l r =>
  refine At.mono (F' := fun ρ w1 => ∃ b, (TrF kw1 vw1 (some ⟨b, 0, none⟩) (Tr.node k' v' l r) (ρ0 ++ ρ) w1 ∧ q = some ⟨b, 0, none⟩)) (fun ρ w1 h => by
   obtain ⟨b, pl, pr, h1, h2⟩ := h
   subst h1
   exact ⟨b, ⟨b, pl, pr, rfl, h2⟩, rfl⟩) (At.ex fun b => At.pure fun hq => ?_)
  subst hq
  let kn0 : K := .next (Sx.Next w.heap.size w Tryz.f22.ntmps (frG1 mb k) (locG1 k) (GG1 ρ0 k R) (fun x => x.snd.many) (some (Addr.mk b 0 none), Tr.node k' v' l r))
  refine zT TrF.stable TrF.fewer [0, 1, 6, 7, 16] 0 ⟨pops B22 [1, 1, 1, 0, 1, 4, 4, 0, 0] 1, [.seq (sub B22 [1, 1, 1, 0, 1, 4, 4, 0, 1]), .seq (sub B22 [1, 1, 1, 0, 1, 4, 4, 1]), kn0, .block 0, .seq (sub B22 pAK8)], [(0, .v (.pointer (some (Addr.mk mb 0 none)))), (1, .so (mkB k)), (6, .v (.slice none 0 0)), (7, .v (.pointer (some (Addr.mk b 0 none)))), (16, .v (.pointer (some (Addr.mk b 0 none))))], []⟩ ?_
  refine At.pcmp .neq 89 (some ⟨b, 0, none⟩) none true (by kernel_rfl) TrF.stable (fun w1 => neq1_nil b w1) ?_
  refine zT TrF.stable TrF.fewer [0, 1, 6, 7, 18] 0 ⟨pqops B22 [1, 1, 1, 0, 1, 4, 4, 1, 4, 0] 1, [.seq (sub B22 pAK4), .block 1, kn0, .block 0, .seq (sub B22 pAK8)], [(0, .v (.pointer (some (Addr.mk mb 0 none)))), (1, .so (mkB k)), (6, .v (.slice none 0 0)), (7, .v (.pointer (some (Addr.mk b 0 none)))), (18, .v (.pointer (some (Addr.mk mb 0 none))))], []⟩ ?_
  refine At.nck ⟨mb, 0, none⟩ (by kernel_rfl) TrF.stable ?_
  refine zT TrF.stable TrF.fewer [0, 1, 6, 7, 19] 0 ⟨pqops B22 [1, 1, 1, 0, 1, 4, 4, 1, 4, 0] 2, [.seq (sub B22 pAK4), .block 1, kn0, .block 0, .seq (sub B22 pAK8)], [(0, .v (.pointer (some (Addr.mk mb 0 none)))), (1, .so (mkB k)), (6, .v (.slice none 0 0)), (7, .v (.pointer (some (Addr.mk b 0 none)))), (19, .v (.pointer (some (Addr.mk mb 0 none))))], []⟩ ?_
  refine At.fax ⟨mb, 0, none⟩ 0 (by kernel_rfl) TrF.stable ?_
  refine zT TrF.stable TrF.fewer [0, 1, 6, 7, 20] 0 ⟨pqops B22 [1, 1, 1, 0, 1, 4, 4, 1, 4, 0] 3, [.seq (sub B22 pAK4), .block 1, kn0, .block 0, .seq (sub B22 pAK8)], [(0, .v (.pointer (some (Addr.mk mb 0 none)))), (1, .so (mkB k)), (6, .v (.slice none 0 0)), (7, .v (.pointer (some (Addr.mk b 0 none)))), (20, .v (.pointer (some (Addr.mk mb 0 none))))], []⟩ ?_
  refine At.ldx ((⟨mb, 0, none⟩ : Addr).add 0) (.fn (.func 29) []) (by kernel_rfl) TrF.stable (fun ρ w1 hm' hf => cell_belowA hM hm'.below) ?_
  refine zT TrF.stable TrF.fewer [0, 1, 6, 7, 21, 22, 23] 0 ⟨pqops B22 [1, 1, 1, 0, 1, 4, 4, 1, 4, 0] 6, [.seq (sub B22 pAK4), .block 1, kn0, .block 0, .seq (sub B22 pAK8)], [(0, .v (.pointer (some (Addr.mk mb 0 none)))), (1, .so (mkB k)), (6, .v (.slice none 0 0)), (7, .v (.pointer (some (Addr.mk b 0 none)))), (21, .fn (Fn.func 29) []), (22, .so (mkB k)), (23, .v (.pointer (some (Addr.mk b 0 none))))], []⟩ ?_
  refine At.nck ⟨b, 0, none⟩ (by kernel_rfl) TrF.stable ?_
  refine zT TrF.stable TrF.fewer [0, 1, 6, 7, 21, 22, 24] 0 ⟨pqops B22 [1, 1, 1, 0, 1, 4, 4, 1, 4, 0] 7, [.seq (sub B22 pAK4), .block 1, kn0, .block 0, .seq (sub B22 pAK8)], [(0, .v (.pointer (some (Addr.mk mb 0 none)))), (1, .so (mkB k)), (6, .v (.slice none 0 0)), (7, .v (.pointer (some (Addr.mk b 0 none)))), (21, .fn (Fn.func 29) []), (22, .so (mkB k)), (24, .v (.pointer (some (Addr.mk b 0 none))))], []⟩ ?_
  refine At.fax ⟨b, 0, none⟩ 0 (by kernel_rfl) TrF.stable ?_
  refine zT TrF.stable TrF.fewer [0, 1, 6, 7, 21, 22, 25] 0 ⟨pqops B22 [1, 1, 1, 0, 1, 4, 4, 1, 4, 0] 8, [.seq (sub B22 pAK4), .block 1, kn0, .block 0, .seq (sub B22 pAK8)], [(0, .v (.pointer (some (Addr.mk mb 0 none)))), (1, .so (mkB k)), (6, .v (.slice none 0 0)), (7, .v (.pointer (some (Addr.mk b 0 none)))), (21, .fn (Fn.func 29) []), (22, .so (mkB k)), (25, .v (.pointer (some (Addr.mk b 0 none))))], []⟩ ?_
  refine At.ldx ((⟨b, 0, none⟩ : Addr).add 0) (.so (mkB k')) (by kernel_rfl) TrF.stable (fun ρ w1 hm' hf => node_at hf fun _ _ => rfl) ?_
  refine zT TrF.stable TrF.fewer [0, 1, 6, 7, 21, 22, 26] 0 ⟨pqops B22 [1, 1, 1, 0, 1, 4, 4, 1, 4, 0] 9, [.seq (sub B22 pAK4), .block 1, kn0, .block 0, .seq (sub B22 pAK8)], [(0, .v (.pointer (some (Addr.mk mb 0 none)))), (1, .so (mkB k)), (6, .v (.slice none 0 0)), (7, .v (.pointer (some (Addr.mk b 0 none)))), (21, .fn (Fn.func 29) []), (22, .so (mkB k)), (26, .so (mkB k'))], []⟩ ?_
  refine zC TrF.stable 29 [.so (mkB k), .so (mkB k')] (.io .i64 (cmp1 k k')) (fun ρ _ w1 hi hf => cmp_str (mkB k) (mkB k') w1) ?_
  refine zTq TrF.stable TrF.fewer [0, 1, 6, 7, 8, 32] 0 ?_
  rcases Bool.eq_false_or_eq_true (decide (cmp1 k k' < 0)) with b0 | b0
  ·refine zR 32 b0 ?_
   let kn1 : K := .next (Sx.Next w.heap.size w Tryz.f22.ntmps (frG1 mb k) (locG1 k) (GG1 ρ0 k R) (fun x => x.snd.many) (some (Addr.mk b 0 none), Tr.node k' v' l r))
   refine zT TrF.stable TrF.fewer [0, 1, 6, 8, 35] 0 ⟨pops B22 pAK3 1, [.block 2, .block 1, kn1, .block 0, .seq (sub B22 pAK8)], [(0, .v (.pointer (some (Addr.mk mb 0 none)))), (1, .so (mkB k)), (6, .v (.slice none 0 0)), (8, .io .i64 (cmp1 k k')), (35, .v (.pointer (some (Addr.mk b 0 none))))], []⟩ ?_
   refine At.nck ⟨b, 0, none⟩ (by kernel_rfl) TrF.stable ?_
   refine zT TrF.stable TrF.fewer [0, 1, 6, 8, 36] 0 ⟨pops B22 pAK3 2, [.block 2, .block 1, kn1, .block 0, .seq (sub B22 pAK8)], [(0, .v (.pointer (some (Addr.mk mb 0 none)))), (1, .so (mkB k)), (6, .v (.slice none 0 0)), (8, .io .i64 (cmp1 k k')), (36, .v (.pointer (some (Addr.mk b 0 none))))], []⟩ ?_
   refine At.fax ⟨b, 0, none⟩ 2 (by kernel_rfl) TrF.stable ?_
   refine zT TrF.stable TrF.fewer [0, 1, 6, 8, 37] 0 ⟨pops B22 pAK3 3, [.block 2, .block 1, kn1, .block 0, .seq (sub B22 pAK8)], [(0, .v (.pointer (some (Addr.mk mb 0 none)))), (1, .so (mkB k)), (6, .v (.slice none 0 0)), (8, .io .i64 (cmp1 k k')), (37, .v (.pointer (some (Addr.mk b 2 none))))], []⟩ ?_
   refine At.mono (fun ρ w1 h => TrF.kids h) (At.ex fun x => ?_)
   obtain ⟨pl, pr⟩ := x
   refine At.ldx ((⟨b, 0, none⟩ : Addr).add 2) (.v (.pointer pl)) (by kernel_rfl) Tk3.stable (fun ρ w1 hm' hf => hf.1.1 2 _ rfl) ?_
   refine At.mono (F' := fun ρ w1 => TrF kw1 vw1 pl l (ρ0 ++ ρ) w1) (fun ρ w1 h => h.2.1) ?_
   refine zT TrF.stable TrF.fewer [0, 1, 6, 7] 0 ⟨.exit .normal, [kn1, .block 0, .seq (sub B22 pAK8)], [(0, .v (.pointer (some (Addr.mk mb 0 none)))), (1, .so (mkB k)), (6, .v (.slice none 0 0)), (7, .v (.pointer pl))], []⟩ ?_
   refine At.next (σ := Option Addr × Tr (List UInt8) (SlV)) (pl, l) rfl rfl (by unfold subFr; kernel_rfl) (by kernel_rfl) (fun ρ a w1 hi hf => ⟨hf, ?_⟩) ?_
   ·rw [← hu, Tr.get_l (of_decide_eq_true b0)]
   show Tr.many l < Tr.many (Tr.node k' v' l r)
   simp only [Tr.many]; omega
  refine zR 32 b0 ?_
  refine zT TrF.stable TrF.fewer [0, 1, 6, 7, 8, 39] 0 ⟨.code (sub B22 [1, 1, 1, 0, 1, 4, 4, 1, 4, 1, 4, 1, 3, 1]), [.block 2, .block 1, .next (Sx.Next w.heap.size w Tryz.f22.ntmps (frG1 mb k) (locG1 k) (GG1 ρ0 k R) (fun x => x.snd.many) (some (Addr.mk b 0 none), Tr.node k' v' l r)), .block 0, .seq (sub B22 pAK8)], [(0, .v (.pointer (some (Addr.mk mb 0 none)))), (1, .so (mkB k)), (6, .v (.slice none 0 0)), (7, .v (.pointer (some (Addr.mk b 0 none)))), (8, .io .i64 (cmp1 k k')), (39, .bo (decide (cmp1 k k' > 0)))], []⟩ ?_
  rcases Bool.eq_false_or_eq_true (decide (cmp1 k k' > 0)) with b1 | b1
  ·refine zR 39 b1 ?_
   let kn2 : K := .next (Sx.Next w.heap.size w Tryz.f22.ntmps (frG1 mb k) (locG1 k) (GG1 ρ0 k R) (fun x => x.snd.many) (some (Addr.mk b 0 none), Tr.node k' v' l r))
   refine zT TrF.stable TrF.fewer [0, 1, 6, 8, 42] 0 ⟨pops B22 pAK2 1, [.block 2, .block 1, kn2, .block 0, .seq (sub B22 pAK8)], [(0, .v (.pointer (some (Addr.mk mb 0 none)))), (1, .so (mkB k)), (6, .v (.slice none 0 0)), (8, .io .i64 (cmp1 k k')), (42, .v (.pointer (some (Addr.mk b 0 none))))], []⟩ ?_
   refine At.nck ⟨b, 0, none⟩ (by kernel_rfl) TrF.stable ?_
   refine zT TrF.stable TrF.fewer [0, 1, 6, 8, 43] 0 ⟨pops B22 pAK2 2, [.block 2, .block 1, kn2, .block 0, .seq (sub B22 pAK8)], [(0, .v (.pointer (some (Addr.mk mb 0 none)))), (1, .so (mkB k)), (6, .v (.slice none 0 0)), (8, .io .i64 (cmp1 k k')), (43, .v (.pointer (some (Addr.mk b 0 none))))], []⟩ ?_
   refine At.fax ⟨b, 0, none⟩ 3 (by kernel_rfl) TrF.stable ?_
   refine zT TrF.stable TrF.fewer [0, 1, 6, 8, 44] 0 ⟨pops B22 pAK2 3, [.block 2, .block 1, kn2, .block 0, .seq (sub B22 pAK8)], [(0, .v (.pointer (some (Addr.mk mb 0 none)))), (1, .so (mkB k)), (6, .v (.slice none 0 0)), (8, .io .i64 (cmp1 k k')), (44, .v (.pointer (some (Addr.mk b 3 none))))], []⟩ ?_
   refine At.mono (fun ρ w1 h => TrF.kids h) (At.ex fun x => ?_)
   obtain ⟨pl, pr⟩ := x
   refine At.ldx ((⟨b, 0, none⟩ : Addr).add 3) (.v (.pointer pr)) (by kernel_rfl) Tk3.stable (fun ρ w1 hm' hf => hf.1.1 3 _ rfl) ?_
   refine At.mono (F' := fun ρ w1 => TrF kw1 vw1 pr r (ρ0 ++ ρ) w1) (fun ρ w1 h => h.2.2) ?_
   refine zT TrF.stable TrF.fewer [0, 1, 6, 7] 0 ⟨.exit .normal, [kn2, .block 0, .seq (sub B22 pAK8)], [(0, .v (.pointer (some (Addr.mk mb 0 none)))), (1, .so (mkB k)), (6, .v (.slice none 0 0)), (7, .v (.pointer pr))], []⟩ ?_
   refine At.next (σ := Option Addr × Tr (List UInt8) (SlV)) (pr, r) rfl rfl (by unfold subFr; kernel_rfl) (by kernel_rfl) (fun ρ a w1 hi hf => ⟨hf, ?_⟩) ?_
   ·rw [← hu, Tr.get_r (of_decide_eq_false b0) (of_decide_eq_true b1)]
   show Tr.many r < Tr.many (Tr.node k' v' l r)
   simp only [Tr.many]; omega
  refine zR 39 b1 ?_
  let kn3 : K := .next (Sx.Next w.heap.size w Tryz.f22.ntmps (frG1 mb k) (locG1 k) (GG1 ρ0 k R) (fun x => x.snd.many) (some (Addr.mk b 0 none), Tr.node k' v' l r))
  refine zT TrF.stable TrF.fewer [28] 0 ⟨pops B22 pAK1 1, [.seq (sub B22 pAK5), .block 2, .block 1, kn3, .block 0, .seq (sub B22 pAK8)], [(28, .v (.pointer (some (Addr.mk b 0 none))))], []⟩ ?_
  refine At.nck ⟨b, 0, none⟩ (by kernel_rfl) TrF.stable ?_
  refine zT TrF.stable TrF.fewer [29] 0 ⟨pops B22 pAK1 2, [.seq (sub B22 pAK5), .block 2, .block 1, kn3, .block 0, .seq (sub B22 pAK8)], [(29, .v (.pointer (some (Addr.mk b 0 none))))], []⟩ ?_
  refine At.fax ⟨b, 0, none⟩ 1 (by kernel_rfl) TrF.stable ?_
  refine zT TrF.stable TrF.fewer [30] 0 ⟨pops B22 pAK1 3, [.seq (sub B22 pAK5), .block 2, .block 1, kn3, .block 0, .seq (sub B22 pAK8)], [(30, .v (.pointer (some (Addr.mk b 1 none))))], []⟩ ?_
  refine At.ldx ((⟨b, 0, none⟩ : Addr).add 1) (.sl v'.A v'.n v'.c) (by kernel_rfl) TrF.stable (fun ρ w1 hm' hf => node_at hf fun _ _ => rfl) ?_
  refine zT TrF.stable TrF.fewer [4, 5] 0 ⟨.exit .ret, [], [(4, .sl v'.A v'.n v'.c), (5, .v (.bool true))], []⟩ ?_
  refine zE (.tup [.sl v'.A v'.n v'.c, .v (.bool true)]) ?_
  intro ρ w9 hm hf
  rw [Tr.get_e (of_decide_eq_false b0) (of_decide_eq_false b1)] at hu
  rw [← hu]
  exact ⟨rfl, hm.below⟩
def frG2 (mb : Nat) (k : AtK) : Option Addr × Tr (AtK) (Pn) → Fr
 | (p, _) => [(0, .v (.pointer (some ⟨mb, 0, none⟩))), (3, .lp 0 0), (4, .lp 1 0), (6, .lp 2 0), (7, .v (.pointer p))]
def locG2 (k : AtK) (_ : Option Addr × Tr (AtK) (Pn)) : Sx.Loc := [([.so (mkB k.key), .io .i64 k.st, .io .i64 k.en], 59), ([.v (.string ⟨#[]⟩), .v (.int .i64 0), .v (.int .i64 0), .v (.int .i64 0), .v (.int .i64 0), .v (.int .i64 0), .v (.int .i64 0), .v (.int .i64 0), .v (.int .i64 0)], 40), ([.v (.string ⟨#[]⟩), .v (.int .i64 0), .v (.int .i64 0), .v (.int .i64 0), .v (.int .i64 0), .v (.int .i64 0), .v (.int .i64 0), .v (.int .i64 0), .v (.int .i64 0)], 40)]
def GG2 (ρ0 : List Nat) (k : AtK) (R : Option (Pn)) (x : Option Addr × Tr (AtK) (Pn)) (ρ : List Nat) (w : World) : Prop := TrF kw2 vw2 x.1 x.2 (ρ0 ++ ρ) w ∧ x.2.get cmp2 k = R
noncomputable def B49 : Code := (Tryz.f49.body).getD .skip
set_option maxHeartbeats 20000000 in
set_option maxRecDepth 100000 in
theorem get2_any (k : AtK) {mb : Nat} (t : Tr (AtK) (Pn)) (ρ0 : List Nat) (p : Option Addr) (w : World) (hM : w.cell? ((⟨mb, 0, none⟩ : Addr).add 0) = some (.func (.func 27) #[] #[])) (hM1 : w.cell? ((⟨mb, 0, none⟩ : Addr).add 1) = some (.pointer p)) (hp : TrF kw2 vw2 p t ρ0 w) :
  Calls Tryz.prog 49 #[.pointer (some ⟨mb, 0, none⟩), .agg #[.string (mkB k.key), .int .i64 k.st, .int .i64 k.en]] w fun e w' => e = .returned (.tuple #[(gotP (t.get cmp2 k)).val, .bool (t.get cmp2 k).isSome]) ∧ Below w.heap.size w w' := by
 refine enterF (N := w.heap.size) (F := fun ρ w1 => TrF kw2 vw2 p t (ρ0 ++ ρ) w1) (fn := Tryz.f49) (c := B49) [.v (.pointer (some ⟨mb, 0, none⟩)), .agg [.so (mkB k.key), .io .i64 k.st, .io .i64 k.en]] Tryz.func49 rfl rfl (Nat.le_refl _) (by rw [List.append_nil]; exact hp) ?_
 refine zT TrF.stable TrF.fewer [0, 3, 4, 6, 9] 3 ⟨pops B49 [1, 1, 0, 0] 1, [.seq (sub B49 [1, 1, 0, 1]), .seq (sub B49 [1, 1, 1])], [(0, .v (.pointer (some (Addr.mk mb 0 none)))), (3, .lp 0 0), (4, .lp 1 0), (6, .lp 2 0), (9, .v (.pointer (some (Addr.mk mb 0 none))))], [([.so (mkB k.key), .io .i64 k.st, .io .i64 k.en], 59), (zAK0, 40), (zAK0, 40)]⟩ ?_
 refine zC TrF.stable 50 [.v (.pointer (some ⟨mb, 0, none⟩))] (.v (.bool false)) (fun ρ _ w1 hi hf => none2_any w1 (cell_belowA hM hi.mem.below)) ?_
 refine zT TrF.stable TrF.fewer [0, 3, 4, 6, 12] 3 ⟨pops B49 pAK6 1, [.seq (sub B49 pAK7), .seq (sub B49 pAK8)], [(0, .v (.pointer (some (Addr.mk mb 0 none)))), (3, .lp 0 0), (4, .lp 1 0), (6, .lp 2 0), (12, .v (.pointer (some (Addr.mk mb 0 none))))], [([.so (mkB k.key), .io .i64 k.st, .io .i64 k.en], 59), (zAK0, 40), (zAK0, 40)]⟩ ?_
 refine At.nck ⟨mb, 0, none⟩ (by kernel_rfl) TrF.stable ?_
 refine zT TrF.stable TrF.fewer [0, 3, 4, 6, 13] 3 ⟨pops B49 pAK6 2, [.seq (sub B49 pAK7), .seq (sub B49 pAK8)], [(0, .v (.pointer (some (Addr.mk mb 0 none)))), (3, .lp 0 0), (4, .lp 1 0), (6, .lp 2 0), (13, .v (.pointer (some (Addr.mk mb 0 none))))], [([.so (mkB k.key), .io .i64 k.st, .io .i64 k.en], 59), (zAK0, 40), (zAK0, 40)]⟩ ?_
 refine At.fax ⟨mb, 0, none⟩ 1 (by kernel_rfl) TrF.stable ?_
 refine zT TrF.stable TrF.fewer [0, 3, 4, 6, 14] 3 ⟨pops B49 pAK6 3, [.seq (sub B49 pAK7), .seq (sub B49 pAK8)], [(0, .v (.pointer (some (Addr.mk mb 0 none)))), (3, .lp 0 0), (4, .lp 1 0), (6, .lp 2 0), (14, .v (.pointer (some (Addr.mk mb 1 none))))], [([.so (mkB k.key), .io .i64 k.st, .io .i64 k.en], 59), (zAK0, 40), (zAK0, 40)]⟩ ?_
 refine At.ldx ((⟨mb, 0, none⟩ : Addr).add 1) (.v (.pointer p)) (by kernel_rfl) TrF.stable (fun ρ w1 hm' hf => cell_belowA hM1 hm'.below) ?_
 refine zT TrF.stable TrF.fewer [0, 3, 4, 6, 7] 3 ⟨.code (sub B49 [1, 1, 1, 0, 1, 4]), [.block 0, .seq (sub B49 pAK8)], [(0, .v (.pointer (some (Addr.mk mb 0 none)))), (3, .lp 0 0), (4, .lp 1 0), (6, .lp 2 0), (7, .v (.pointer p))], [([.so (mkB k.key), .io .i64 k.st, .io .i64 k.en], 59), (zAK0, 40), (zAK0, 40)]⟩ ?_
 obtain ⟨R, hR⟩ : ∃ R, t.get cmp2 k = R := ⟨_, rfl⟩
 refine At.loop (σ := Option Addr × Tr (AtK) (Pn)) (sub B49 [1, 1, 1, 0, 1, 4, 4]) (frG2 mb k) (locG2 k) (GG2 ρ0 k R) (fun x => x.2.many) (p, t) (by kernel_rfl) (by unfold subFr; kernel_rfl) (by kernel_rfl) (fun _ _ _ _ h => ⟨h, hR⟩) ?_
 rintro ⟨q, u⟩
 refine At.pure fun hu => ?_
 rw [hR]
 cases u with
 | nil =>
  refine At.mono (F' := fun ρ w1 => TrF kw2 vw2 none (Tr.nil) (ρ0 ++ ρ) w1 ∧ q = none) (fun ρ w1 h => ⟨rfl, h⟩) (At.pure fun hq => ?_)
  subst hq
  refine zT TrF.stable TrF.fewer [4, 5] 2 ⟨.exit .ret, [], [(4, .lp 1 0), (5, .v (.bool false))], [([.so (mkB k.key), .io .i64 k.st, .io .i64 k.en], 59), (zAK0, 40)]⟩ ?_
  refine zE (.tup [.agg zAK0, .v (.bool false)]) ?_
  intro ρ w9 hm hf
  rw [← hu]
  exact ⟨rfl, hm.below⟩
 | node k' v' l r =>
  refine At.mono (F' := fun ρ w1 => ∃ b, (TrF kw2 vw2 (some ⟨b, 0, none⟩) (Tr.node k' v' l r) (ρ0 ++ ρ) w1 ∧ q = some ⟨b, 0, none⟩)) (fun ρ w1 h => by
   obtain ⟨b, pl, pr, h1, h2⟩ := h
   subst h1
   exact ⟨b, ⟨b, pl, pr, rfl, h2⟩, rfl⟩) (At.ex fun b => At.pure fun hq => ?_)
  subst hq
  let kn0 : K := .next (Sx.Next w.heap.size w Tryz.f49.ntmps (frG2 mb k) (locG2 k) (GG2 ρ0 k R) (fun x => x.snd.many) (some (Addr.mk b 0 none), Tr.node k' v' l r))
  refine zT TrF.stable TrF.fewer [0, 3, 4, 6, 7, 16] 3 ⟨pops B49 [1, 1, 1, 0, 1, 4, 4, 0, 0] 1, [.seq (sub B49 [1, 1, 1, 0, 1, 4, 4, 0, 1]), .seq (sub B49 [1, 1, 1, 0, 1, 4, 4, 1]), kn0, .block 0, .seq (sub B49 pAK8)], [(0, .v (.pointer (some (Addr.mk mb 0 none)))), (3, .lp 0 0), (4, .lp 1 0), (6, .lp 2 0), (7, .v (.pointer (some (Addr.mk b 0 none)))), (16, .v (.pointer (some (Addr.mk b 0 none))))], [([.so (mkB k.key), .io .i64 k.st, .io .i64 k.en], 59), (zAK0, 40), (zAK0, 40)]⟩ ?_
  refine At.pcmp .neq 97 (some ⟨b, 0, none⟩) none true (by kernel_rfl) TrF.stable (fun w1 => neq2_nil b w1) ?_
  refine zT TrF.stable TrF.fewer [0, 3, 4, 6, 7, 18] 3 ⟨pqops B49 [1, 1, 1, 0, 1, 4, 4, 1, 4, 0] 1, [.seq (sub B49 pAK4), .block 1, kn0, .block 0, .seq (sub B49 pAK8)], [(0, .v (.pointer (some (Addr.mk mb 0 none)))), (3, .lp 0 0), (4, .lp 1 0), (6, .lp 2 0), (7, .v (.pointer (some (Addr.mk b 0 none)))), (18, .v (.pointer (some (Addr.mk mb 0 none))))], [([.so (mkB k.key), .io .i64 k.st, .io .i64 k.en], 59), (zAK0, 40), (zAK0, 40)]⟩ ?_
  refine At.nck ⟨mb, 0, none⟩ (by kernel_rfl) TrF.stable ?_
  refine zT TrF.stable TrF.fewer [0, 3, 4, 6, 7, 19] 3 ⟨pqops B49 [1, 1, 1, 0, 1, 4, 4, 1, 4, 0] 2, [.seq (sub B49 pAK4), .block 1, kn0, .block 0, .seq (sub B49 pAK8)], [(0, .v (.pointer (some (Addr.mk mb 0 none)))), (3, .lp 0 0), (4, .lp 1 0), (6, .lp 2 0), (7, .v (.pointer (some (Addr.mk b 0 none)))), (19, .v (.pointer (some (Addr.mk mb 0 none))))], [([.so (mkB k.key), .io .i64 k.st, .io .i64 k.en], 59), (zAK0, 40), (zAK0, 40)]⟩ ?_
  refine At.fax ⟨mb, 0, none⟩ 0 (by kernel_rfl) TrF.stable ?_
  refine zT TrF.stable TrF.fewer [0, 3, 4, 6, 7, 20] 3 ⟨pqops B49 [1, 1, 1, 0, 1, 4, 4, 1, 4, 0] 3, [.seq (sub B49 pAK4), .block 1, kn0, .block 0, .seq (sub B49 pAK8)], [(0, .v (.pointer (some (Addr.mk mb 0 none)))), (3, .lp 0 0), (4, .lp 1 0), (6, .lp 2 0), (7, .v (.pointer (some (Addr.mk b 0 none)))), (20, .v (.pointer (some (Addr.mk mb 0 none))))], [([.so (mkB k.key), .io .i64 k.st, .io .i64 k.en], 59), (zAK0, 40), (zAK0, 40)]⟩ ?_
  refine At.ldx ((⟨mb, 0, none⟩ : Addr).add 0) (.fn (.func 27) []) (by kernel_rfl) TrF.stable (fun ρ w1 hm' hf => cell_belowA hM hm'.below) ?_
  refine zT TrF.stable TrF.fewer [0, 3, 4, 6, 7, 21, 22, 23] 3 ⟨pqops B49 [1, 1, 1, 0, 1, 4, 4, 1, 4, 0] 6, [.seq (sub B49 pAK4), .block 1, kn0, .block 0, .seq (sub B49 pAK8)], [(0, .v (.pointer (some (Addr.mk mb 0 none)))), (3, .lp 0 0), (4, .lp 1 0), (6, .lp 2 0), (7, .v (.pointer (some (Addr.mk b 0 none)))), (21, .fn (Fn.func 27) []), (22, .agg [.so (mkB k.key), .io .i64 k.st, .io .i64 k.en]), (23, .v (.pointer (some (Addr.mk b 0 none))))], [([.so (mkB k.key), .io .i64 k.st, .io .i64 k.en], 59), (zAK0, 40), (zAK0, 40)]⟩ ?_
  refine At.nck ⟨b, 0, none⟩ (by kernel_rfl) TrF.stable ?_
  refine zT TrF.stable TrF.fewer [0, 3, 4, 6, 7, 21, 22, 24] 3 ⟨pqops B49 [1, 1, 1, 0, 1, 4, 4, 1, 4, 0] 7, [.seq (sub B49 pAK4), .block 1, kn0, .block 0, .seq (sub B49 pAK8)], [(0, .v (.pointer (some (Addr.mk mb 0 none)))), (3, .lp 0 0), (4, .lp 1 0), (6, .lp 2 0), (7, .v (.pointer (some (Addr.mk b 0 none)))), (21, .fn (Fn.func 27) []), (22, .agg [.so (mkB k.key), .io .i64 k.st, .io .i64 k.en]), (24, .v (.pointer (some (Addr.mk b 0 none))))], [([.so (mkB k.key), .io .i64 k.st, .io .i64 k.en], 59), (zAK0, 40), (zAK0, 40)]⟩ ?_
  refine At.fax ⟨b, 0, none⟩ 0 (by kernel_rfl) TrF.stable ?_
  refine zT TrF.stable TrF.fewer [0, 3, 4, 6, 7, 21, 22, 25] 3 ⟨pqops B49 [1, 1, 1, 0, 1, 4, 4, 1, 4, 0] 8, [.seq (sub B49 pAK4), .block 1, kn0, .block 0, .seq (sub B49 pAK8)], [(0, .v (.pointer (some (Addr.mk mb 0 none)))), (3, .lp 0 0), (4, .lp 1 0), (6, .lp 2 0), (7, .v (.pointer (some (Addr.mk b 0 none)))), (21, .fn (Fn.func 27) []), (22, .agg [.so (mkB k.key), .io .i64 k.st, .io .i64 k.en]), (25, .v (.pointer (some (Addr.mk b 0 none))))], [([.so (mkB k.key), .io .i64 k.st, .io .i64 k.en], 59), (zAK0, 40), (zAK0, 40)]⟩ ?_
  refine At.lda ((⟨b, 0, none⟩ : Addr).add 0) 3 [.so (mkB k'.key), .io .i64 k'.st, .io .i64 k'.en] (by kernel_rfl) rfl TrF.stable (fun ρ w1 hm' hf j u hj => by rw [Addr.add_add]; exact node_at hf fun _ _ => part_k hj) ?_
  refine zT TrF.stable TrF.fewer [0, 3, 4, 6, 7, 21, 22, 26] 3 ⟨pqops B49 [1, 1, 1, 0, 1, 4, 4, 1, 4, 0] 9, [.seq (sub B49 pAK4), .block 1, kn0, .block 0, .seq (sub B49 pAK8)], [(0, .v (.pointer (some (Addr.mk mb 0 none)))), (3, .lp 0 0), (4, .lp 1 0), (6, .lp 2 0), (7, .v (.pointer (some (Addr.mk b 0 none)))), (21, .fn (Fn.func 27) []), (22, .agg [.so (mkB k.key), .io .i64 k.st, .io .i64 k.en]), (26, .agg [.so (mkB k'.key), .io .i64 k'.st, .io .i64 k'.en])], [([.so (mkB k.key), .io .i64 k.st, .io .i64 k.en], 59), (zAK0, 40), (zAK0, 40)]⟩ ?_
  refine zC TrF.stable 27 [.agg [.so (mkB k.key), .io .i64 k.st, .io .i64 k.en], .agg [.so (mkB k'.key), .io .i64 k'.st, .io .i64 k'.en]] (.io .i64 (cmp2 k k')) (fun ρ _ w1 hi hf => lastcmp_any k k' w1) ?_
  refine zTq TrF.stable TrF.fewer [0, 3, 4, 6, 7, 8, 32] 3 ?_
  rcases Bool.eq_false_or_eq_true (decide (cmp2 k k' < 0)) with b0 | b0
  ·refine zR 32 b0 ?_
   let kn1 : K := .next (Sx.Next w.heap.size w Tryz.f49.ntmps (frG2 mb k) (locG2 k) (GG2 ρ0 k R) (fun x => x.snd.many) (some (Addr.mk b 0 none), Tr.node k' v' l r))
   refine zT TrF.stable TrF.fewer [0, 3, 4, 6, 8, 35] 3 ⟨pops B49 pAK3 1, [.block 2, .block 1, kn1, .block 0, .seq (sub B49 pAK8)], [(0, .v (.pointer (some (Addr.mk mb 0 none)))), (3, .lp 0 0), (4, .lp 1 0), (6, .lp 2 0), (8, .io .i64 (cmp2 k k')), (35, .v (.pointer (some (Addr.mk b 0 none))))], [([.so (mkB k.key), .io .i64 k.st, .io .i64 k.en], 59), (zAK0, 40), (zAK0, 40)]⟩ ?_
   refine At.nck ⟨b, 0, none⟩ (by kernel_rfl) TrF.stable ?_
   refine zT TrF.stable TrF.fewer [0, 3, 4, 6, 8, 36] 3 ⟨pops B49 pAK3 2, [.block 2, .block 1, kn1, .block 0, .seq (sub B49 pAK8)], [(0, .v (.pointer (some (Addr.mk mb 0 none)))), (3, .lp 0 0), (4, .lp 1 0), (6, .lp 2 0), (8, .io .i64 (cmp2 k k')), (36, .v (.pointer (some (Addr.mk b 0 none))))], [([.so (mkB k.key), .io .i64 k.st, .io .i64 k.en], 59), (zAK0, 40), (zAK0, 40)]⟩ ?_
   refine At.fax ⟨b, 0, none⟩ 12 (by kernel_rfl) TrF.stable ?_
   refine zT TrF.stable TrF.fewer [0, 3, 4, 6, 8, 37] 3 ⟨pops B49 pAK3 3, [.block 2, .block 1, kn1, .block 0, .seq (sub B49 pAK8)], [(0, .v (.pointer (some (Addr.mk mb 0 none)))), (3, .lp 0 0), (4, .lp 1 0), (6, .lp 2 0), (8, .io .i64 (cmp2 k k')), (37, .v (.pointer (some (Addr.mk b 12 none))))], [([.so (mkB k.key), .io .i64 k.st, .io .i64 k.en], 59), (zAK0, 40), (zAK0, 40)]⟩ ?_
   refine At.mono (fun ρ w1 h => TrF.kids h) (At.ex fun x => ?_)
   obtain ⟨pl, pr⟩ := x
   refine At.ldx ((⟨b, 0, none⟩ : Addr).add 12) (.v (.pointer pl)) (by kernel_rfl) Tk3.stable (fun ρ w1 hm' hf => hf.1.1 12 _ rfl) ?_
   refine At.mono (F' := fun ρ w1 => TrF kw2 vw2 pl l (ρ0 ++ ρ) w1) (fun ρ w1 h => h.2.1) ?_
   refine zT TrF.stable TrF.fewer [0, 3, 4, 6, 7] 3 ⟨.exit .normal, [kn1, .block 0, .seq (sub B49 pAK8)], [(0, .v (.pointer (some (Addr.mk mb 0 none)))), (3, .lp 0 0), (4, .lp 1 0), (6, .lp 2 0), (7, .v (.pointer pl))], [([.so (mkB k.key), .io .i64 k.st, .io .i64 k.en], 59), (zAK0, 40), (zAK0, 40)]⟩ ?_
   refine At.next (σ := Option Addr × Tr (AtK) (Pn)) (pl, l) rfl rfl (by unfold subFr; kernel_rfl) (by kernel_rfl) (fun ρ a w1 hi hf => ⟨hf, ?_⟩) ?_
   ·rw [← hu, Tr.get_l (of_decide_eq_true b0)]
   show Tr.many l < Tr.many (Tr.node k' v' l r)
   simp only [Tr.many]; omega
  refine zR 32 b0 ?_
  refine zT TrF.stable TrF.fewer [0, 3, 4, 6, 7, 8, 39] 3 ⟨.code (sub B49 [1, 1, 1, 0, 1, 4, 4, 1, 4, 1, 4, 1, 3, 1]), [.block 2, .block 1, .next (Sx.Next w.heap.size w Tryz.f49.ntmps (frG2 mb k) (locG2 k) (GG2 ρ0 k R) (fun x => x.snd.many) (some (Addr.mk b 0 none), Tr.node k' v' l r)), .block 0, .seq (sub B49 pAK8)], [(0, .v (.pointer (some (Addr.mk mb 0 none)))), (3, .lp 0 0), (4, .lp 1 0), (6, .lp 2 0), (7, .v (.pointer (some (Addr.mk b 0 none)))), (8, .io .i64 (cmp2 k k')), (39, .bo (decide (cmp2 k k' > 0)))], [([.so (mkB k.key), .io .i64 k.st, .io .i64 k.en], 59), (zAK0, 40), (zAK0, 40)]⟩ ?_
  rcases Bool.eq_false_or_eq_true (decide (cmp2 k k' > 0)) with b1 | b1
  ·refine zR 39 b1 ?_
   let kn2 : K := .next (Sx.Next w.heap.size w Tryz.f49.ntmps (frG2 mb k) (locG2 k) (GG2 ρ0 k R) (fun x => x.snd.many) (some (Addr.mk b 0 none), Tr.node k' v' l r))
   refine zT TrF.stable TrF.fewer [0, 3, 4, 6, 8, 42] 3 ⟨pops B49 pAK2 1, [.block 2, .block 1, kn2, .block 0, .seq (sub B49 pAK8)], [(0, .v (.pointer (some (Addr.mk mb 0 none)))), (3, .lp 0 0), (4, .lp 1 0), (6, .lp 2 0), (8, .io .i64 (cmp2 k k')), (42, .v (.pointer (some (Addr.mk b 0 none))))], [([.so (mkB k.key), .io .i64 k.st, .io .i64 k.en], 59), (zAK0, 40), (zAK0, 40)]⟩ ?_
   refine At.nck ⟨b, 0, none⟩ (by kernel_rfl) TrF.stable ?_
   refine zT TrF.stable TrF.fewer [0, 3, 4, 6, 8, 43] 3 ⟨pops B49 pAK2 2, [.block 2, .block 1, kn2, .block 0, .seq (sub B49 pAK8)], [(0, .v (.pointer (some (Addr.mk mb 0 none)))), (3, .lp 0 0), (4, .lp 1 0), (6, .lp 2 0), (8, .io .i64 (cmp2 k k')), (43, .v (.pointer (some (Addr.mk b 0 none))))], [([.so (mkB k.key), .io .i64 k.st, .io .i64 k.en], 59), (zAK0, 40), (zAK0, 40)]⟩ ?_
   refine At.fax ⟨b, 0, none⟩ 13 (by kernel_rfl) TrF.stable ?_
   refine zT TrF.stable TrF.fewer [0, 3, 4, 6, 8, 44] 3 ⟨pops B49 pAK2 3, [.block 2, .block 1, kn2, .block 0, .seq (sub B49 pAK8)], [(0, .v (.pointer (some (Addr.mk mb 0 none)))), (3, .lp 0 0), (4, .lp 1 0), (6, .lp 2 0), (8, .io .i64 (cmp2 k k')), (44, .v (.pointer (some (Addr.mk b 13 none))))], [([.so (mkB k.key), .io .i64 k.st, .io .i64 k.en], 59), (zAK0, 40), (zAK0, 40)]⟩ ?_
   refine At.mono (fun ρ w1 h => TrF.kids h) (At.ex fun x => ?_)
   obtain ⟨pl, pr⟩ := x
   refine At.ldx ((⟨b, 0, none⟩ : Addr).add 13) (.v (.pointer pr)) (by kernel_rfl) Tk3.stable (fun ρ w1 hm' hf => hf.1.1 13 _ rfl) ?_
   refine At.mono (F' := fun ρ w1 => TrF kw2 vw2 pr r (ρ0 ++ ρ) w1) (fun ρ w1 h => h.2.2) ?_
   refine zT TrF.stable TrF.fewer [0, 3, 4, 6, 7] 3 ⟨.exit .normal, [kn2, .block 0, .seq (sub B49 pAK8)], [(0, .v (.pointer (some (Addr.mk mb 0 none)))), (3, .lp 0 0), (4, .lp 1 0), (6, .lp 2 0), (7, .v (.pointer pr))], [([.so (mkB k.key), .io .i64 k.st, .io .i64 k.en], 59), (zAK0, 40), (zAK0, 40)]⟩ ?_
   refine At.next (σ := Option Addr × Tr (AtK) (Pn)) (pr, r) rfl rfl (by unfold subFr; kernel_rfl) (by kernel_rfl) (fun ρ a w1 hi hf => ⟨hf, ?_⟩) ?_
   ·rw [← hu, Tr.get_r (of_decide_eq_false b0) (of_decide_eq_true b1)]
   show Tr.many r < Tr.many (Tr.node k' v' l r)
   simp only [Tr.many]; omega
  refine zR 39 b1 ?_
  let kn3 : K := .next (Sx.Next w.heap.size w Tryz.f49.ntmps (frG2 mb k) (locG2 k) (GG2 ρ0 k R) (fun x => x.snd.many) (some (Addr.mk b 0 none), Tr.node k' v' l r))
  refine zT TrF.stable TrF.fewer [4, 28] 2 ⟨pops B49 pAK1 1, [.seq (sub B49 pAK5), .block 2, .block 1, kn3, .block 0, .seq (sub B49 pAK8)], [(4, .lp 1 0), (28, .v (.pointer (some (Addr.mk b 0 none))))], [([.so (mkB k.key), .io .i64 k.st, .io .i64 k.en], 59), (zAK0, 40)]⟩ ?_
  refine At.nck ⟨b, 0, none⟩ (by kernel_rfl) TrF.stable ?_
  refine zT TrF.stable TrF.fewer [4, 29] 2 ⟨pops B49 pAK1 2, [.seq (sub B49 pAK5), .block 2, .block 1, kn3, .block 0, .seq (sub B49 pAK8)], [(4, .lp 1 0), (29, .v (.pointer (some (Addr.mk b 0 none))))], [([.so (mkB k.key), .io .i64 k.st, .io .i64 k.en], 59), (zAK0, 40)]⟩ ?_
  refine At.fax ⟨b, 0, none⟩ 3 (by kernel_rfl) TrF.stable ?_
  refine zT TrF.stable TrF.fewer [4, 30] 2 ⟨pops B49 pAK1 3, [.seq (sub B49 pAK5), .block 2, .block 1, kn3, .block 0, .seq (sub B49 pAK8)], [(4, .lp 1 0), (30, .v (.pointer (some (Addr.mk b 3 none))))], [([.so (mkB k.key), .io .i64 k.st, .io .i64 k.en], 59), (zAK0, 40)]⟩ ?_
  refine At.lda ((⟨b, 0, none⟩ : Addr).add 3) 9 [.so (mkB v'.key), .io .i64 v'.st, .io .i64 v'.en, .io .i64 v'.kd, .io .i64 v'.nt, .io .i64 v'.ct, .io .i64 v'.sm, .io .i64 v'.mn, .io .i64 v'.mx] (by kernel_rfl) rfl TrF.stable (fun ρ w1 hm' hf j u hj => by rw [Addr.add_add]; exact node_at hf fun _ _ => part_v hj) ?_
  refine zT TrF.stable TrF.fewer [4, 5] 2 ⟨.exit .ret, [], [(4, .lp 1 0), (5, .v (.bool true))], [([.so (mkB k.key), .io .i64 k.st, .io .i64 k.en], 59), ([.so (mkB v'.key), .io .i64 v'.st, .io .i64 v'.en, .io .i64 v'.kd, .io .i64 v'.nt, .io .i64 v'.ct, .io .i64 v'.sm, .io .i64 v'.mn, .io .i64 v'.mx], 40)]⟩ ?_
  refine zE (.tup [.agg [.so (mkB v'.key), .io .i64 v'.st, .io .i64 v'.en, .io .i64 v'.kd, .io .i64 v'.nt, .io .i64 v'.ct, .io .i64 v'.sm, .io .i64 v'.mn, .io .i64 v'.mx], .v (.bool true)]) ?_
  intro ρ w9 hm hf
  rw [Tr.get_e (of_decide_eq_false b0) (of_decide_eq_false b1)] at hu
  rw [← hu]
  exact ⟨rfl, hm.below⟩
end Go.Proofs.YtkjnbafdmjakgaaGreatDoor
end
section
namespace Go.Proofs.YtkjnbafdmjakgaaGreatDoor
open Go.RowKit Go.Sx
def mapO1 (p : Option Addr) : Obj := .cells #[.func (.func 29) #[] #[], .pointer p] 91 (0, 0)
def mapO2 (p : Option Addr) : Obj := .cells #[.func (.func 27) #[] #[], .pointer p] 99 (0, 0)
theorem loc_cell {N : Nat} {w0 w : World} {ρ : List Nat} {loc : Sx.Loc} {i : Nat} {c : List SV} {t : TypeId} {j : Nat} {u : Value} (hm : WInv N w0 ρ loc w) (hl : loc[i]? = some (c, t)) (hj : (c[j]?).map (SV.den ρ) = some u) : w.cell? ((⟨Go.Sx.nth ρ i, 0, none⟩ : Addr).add j) = some u := by
 rw [add_ok, Nat.zero_add, cell_of_loc hm hl]
 exact hj
theorem low_allB {N : Nat} {w0 w : World} {ρ ρ0 ρ1 : List Nat} {loc : Sx.Loc} {ok : Nat → Prop} (hm : WInv N w0 ρ loc w) (hf : FrameR w0 ok ρ1 ρ w) (hρ : ∀ x ∈ ρ0, x < w0.heap.size) : ∀ x ∈ ρ0 ++ ρ, x < w.heap.size := fun x hx => by
 rcases List.mem_append.1 hx with hx | hx
 ·exact Nat.lt_of_lt_of_le (hρ x hx) hf.1.size
 exact (hm.ge x hx).2
section
variable {κ ν : Type} {kw : κ → List Value} {vw : ν → List Value}
def PF (kw : κ → List Value) (vw : ν → List Value) (w0 : World) (mb : Nat) (ρ0 : List Nat) (p : Option Addr) (t : Tr κ ν) (ρ : List Nat) (w : World) : Prop := TrF kw vw p t (ρ0 ++ ρ) w ∧ FrameR w0 (fun b => b ∈ [mb]) [mb] ρ w
theorem PF.stable {w0 : World} {mb : Nat} {ρ0 : List Nat} {p : Option Addr} {t : Tr κ ν} : Stable (PF kw vw w0 mb ρ0 p t) := TrF.stable.and FrameR.stable
theorem FewerK.up {j : Nat} {F : List Nat → World → Prop} (h : FewerK 0 F) : FewerK j F := fun ρ w k _ hf => h ρ w k (Nat.zero_le _) hf
theorem PF.fewer {w0 : World} {mb : Nat} {ρ0 : List Nat} {p : Option Addr} {t : Tr κ ν} : FewerK 1 (PF kw vw w0 mb ρ0 p t) := FewerK.and2 (FewerK.up TrF.fewer) (FrameR.fewer (ρ0 := [mb]))
theorem PF2.stable {w0 : World} {mb : Nat} {ρ0 : List Nat} {p q : Option Addr} {t u : Tr κ ν} : Stable (fun ρ w => PF kw vw w0 mb ρ0 p t ρ w ∧ TrF kw vw q u (ρ0 ++ ρ) w) := PF.stable.and TrF.stable
theorem PF2.fewer {w0 : World} {mb : Nat} {ρ0 : List Nat} {p q : Option Addr} {t u : Tr κ ν} : FewerK 1 (fun ρ w => PF kw vw w0 mb ρ0 p t ρ w ∧ TrF kw vw q u (ρ0 ++ ρ) w) := FewerK.and2 PF.fewer (FewerK.up TrF.fewer)
end
noncomputable def B21 : Code := (Tryz.f21.body).getD .skip
set_option maxHeartbeats 20000000 in
set_option maxRecDepth 100000 in
theorem newM1_any (w : World) : Calls Tryz.prog 21 #[] w fun e w' => ∃ mb, e = .returned (.pointer (some ⟨mb, 0, none⟩)) ∧ w'.heap[mb]? = some (mapO1 none) ∧ w.heap.size ≤ mb ∧ Below w.heap.size w w' := by
 refine enter (fn := Tryz.f21) (c := B21) [] Tryz.func21 rfl rfl ?_
 refine zN [0] 1 ⟨.exit .ret, [], [(0, .lp 0 0)], [([.fn (Fn.func 29) [], .v (.pointer none)], 91)]⟩ ?_
 refine zE (.lp 0 0) ?_
 intro ρ w9 hm hf
 have hmem : Go.Sx.nth ρ 0 ∈ ρ := nth_mem (by rw [hm.len]; exact Nat.zero_lt_one)
 exact ⟨Go.Sx.nth ρ 0, rfl, hm.cells 0 _ _ rfl, (hm.ge _ hmem).1, hm.below⟩
noncomputable def B26 : Code := (Tryz.f26.body).getD .skip
set_option maxHeartbeats 20000000 in
set_option maxRecDepth 100000 in
theorem newM2_any (w : World) : Calls Tryz.prog 26 #[.func (.func 27) #[] #[]] w fun e w' => ∃ mb, e = .returned (.tuple #[.pointer (some ⟨mb, 0, none⟩), .int .i64 0]) ∧ w'.heap[mb]? = some (mapO2 none) ∧ w.heap.size ≤ mb ∧ Below w.heap.size w w' := by
 refine enter (fn := Tryz.f26) (c := B26) [.fn (.func 27) []] Tryz.func26 rfl rfl ?_
 refine zN [0, 4] 0 ⟨pops B26 [1, 0, 0] 1, [.seq (sub B26 [1, 0, 1]), .seq (sub B26 [1, 1])], [(0, .fn (Fn.func 27) []), (4, .fn (Fn.func 27) [])], []⟩ ?_
 refine At.fcmp .eql 63 (.func 27) [] false (by kernel_rfl) noF_stable (fun ρ w1 => run_eql_func Tryz.underlying63 w1) ?_
 refine zN [2, 3] 1 ⟨.exit .ret, [], [(2, .lp 0 0), (3, .v (.int .i64 0))], [([.fn (Fn.func 27) [], .v (.pointer none)], 99)]⟩ ?_
 refine zE (.tup [.lp 0 0, .v (.int .i64 0)]) ?_
 intro ρ w9 hm hf
 have hmem : Go.Sx.nth ρ 0 ∈ ρ := nth_mem (by rw [hm.len]; exact Nat.zero_lt_one)
 exact ⟨Go.Sx.nth ρ 0, rfl, hm.cells 0 _ _ rfl, (hm.ge _ hmem).1, hm.below⟩
noncomputable def B46 : Code := (Tryz.f46.body).getD .skip
set_option maxHeartbeats 20000000 in
set_option maxRecDepth 100000 in
theorem outM1_any (k : List UInt8) (w : World) : Calls Tryz.prog 46 #[.string (mkB k)] w fun e w' => e = .returned (.bool false) ∧ Below w.heap.size w w' := by
 refine enter (fn := Tryz.f46) (c := B46) [.so (mkB k)] Tryz.func46 rfl rfl ?_
 refine zN [2] 0 ⟨.exit .ret, [], [(2, .v (.bool false))], []⟩ ?_
 refine zE (.v (.bool false)) ?_
 intro ρ w9 hm hf
 exact ⟨rfl, hm.below⟩
noncomputable def B53 : Code := (Tryz.f53.body).getD .skip
set_option maxHeartbeats 20000000 in
set_option maxRecDepth 100000 in
theorem outM2_any (k : AtK) (w : World) : Calls Tryz.prog 53 #[.agg #[.string (mkB k.key), .int .i64 k.st, .int .i64 k.en]] w fun e w' => e = .returned (.bool false) ∧ Below w.heap.size w w' := by
 refine enter (fn := Tryz.f53) (c := B53) [.agg [.so (mkB k.key), .io .i64 k.st, .io .i64 k.en]] Tryz.func53 rfl rfl ?_
 refine zN [2] 0 ⟨.exit .ret, [], [(2, .v (.bool false))], []⟩ ?_
 refine zE (.v (.bool false)) ?_
 intro ρ w9 hm hf
 exact ⟨rfl, hm.below⟩
noncomputable def B45 : Code := (Tryz.f45.body).getD .skip
set_option maxHeartbeats 20000000 in
set_option maxRecDepth 100000 in
theorem walkM1_any (mb : Nat) (w : World) : Calls Tryz.prog 45 #[.pointer (some ⟨mb, 0, none⟩), .bool false, .func (.func 46) #[] #[]] w fun e w' => ∃ ρc, e = .returned ((SV.fn (.func 61) [.lp 0 0, .lp 1 0, .lp 2 0]).den ρc) ∧ WInv w.heap.size w ρc [([.v (.pointer (some ⟨mb, 0, none⟩))], 46), ([.v (.bool false)], 4), ([.fn (.func 46) []], 96)] w' := by
 refine enter (fn := Tryz.f45) (c := B45) [.v (.pointer (some ⟨mb, 0, none⟩)), .v (.bool false), .fn (.func 46) []] Tryz.func45 rfl rfl ?_
 refine zN [6] 3 ⟨.exit .ret, [], [(6, .fn (Fn.func 61) [.lp 0 0, .lp 1 0, .lp 2 0])], [([.v (.pointer (some (Addr.mk mb 0 none)))], 46), ([.v (.bool false)], 4), ([.fn (Fn.func 46) []], 96)]⟩ ?_
 refine zE (.fn (Fn.func 61) [.lp 0 0, .lp 1 0, .lp 2 0]) ?_
 intro ρ w9 hm hf
 exact ⟨ρ, rfl, hm⟩
noncomputable def B52 : Code := (Tryz.f52.body).getD .skip
set_option maxHeartbeats 20000000 in
set_option maxRecDepth 100000 in
theorem walkM2_any (mb : Nat) (w : World) : Calls Tryz.prog 52 #[.pointer (some ⟨mb, 0, none⟩), .bool false, .func (.func 53) #[] #[]] w fun e w' => ∃ ρc, e = .returned ((SV.fn (.func 64) [.lp 0 0, .lp 1 0, .lp 2 0]).den ρc) ∧ WInv w.heap.size w ρc [([.v (.pointer (some ⟨mb, 0, none⟩))], 55), ([.v (.bool false)], 4), ([.fn (.func 53) []], 106)] w' := by
 refine enter (fn := Tryz.f52) (c := B52) [.v (.pointer (some ⟨mb, 0, none⟩)), .v (.bool false), .fn (.func 53) []] Tryz.func52 rfl rfl ?_
 refine zN [6] 3 ⟨.exit .ret, [], [(6, .fn (Fn.func 64) [.lp 0 0, .lp 1 0, .lp 2 0])], [([.v (.pointer (some (Addr.mk mb 0 none)))], 55), ([.v (.bool false)], 4), ([.fn (Fn.func 53) []], 106)]⟩ ?_
 refine zE (.fn (Fn.func 64) [.lp 0 0, .lp 1 0, .lp 2 0]) ?_
 intro ρ w9 hm hf
 exact ⟨ρ, rfl, hm⟩
noncomputable def B24 : Code := (Tryz.f24.body).getD .skip
set_option maxHeartbeats 20000000 in
set_option maxRecDepth 100000 in
theorem allM1_any (mb : Nat) (w : World) : Calls Tryz.prog 24 #[.pointer (some ⟨mb, 0, none⟩)] w fun e w' => ∃ ρc, e = .returned ((SV.fn (.func 61) [.lp 0 0, .lp 1 0, .lp 2 0]).den ρc) ∧ WInv w.heap.size w ρc [([.v (.pointer (some ⟨mb, 0, none⟩))], 46), ([.v (.bool false)], 4), ([.fn (.func 46) []], 96)] w' := by
 refine enter (fn := Tryz.f24) (c := B24) [.v (.pointer (some ⟨mb, 0, none⟩))] Tryz.func24 rfl rfl ?_
 refine zN [3] 0 ⟨pops B24 [1, 0] 1, [.seq (sub B24 [1, 1])], [(3, .v (.pointer (some (Addr.mk mb 0 none))))], []⟩ ?_
 refine At.newcallV 45 [.v (.pointer (some ⟨mb, 0, none⟩)), .v (.bool false), .fn (.func 46) []] (.fn (.func 61) [.lp 0 0, .lp 1 0, .lp 2 0]) (.fn (.func 61) [.lp 0 0, .lp 1 0, .lp 2 0]) [([.v (.pointer (some ⟨mb, 0, none⟩))], 46), ([.v (.bool false)], 4), ([.fn (.func 46) []], 96)] noF_stable (by kernel_rfl) (by kernel_rfl) (by kernel_rfl) (by kernel_rfl) (by kernel_rfl) (by kernel_rfl) (fun ρ ρc h => by rw [List.length_eq_zero_iff.1 h]; rfl) (by kernel_rfl) (fun ρ w1 hm' hf => walkM1_any mb w1) ?_
 refine zN [2] 3 ⟨.exit .ret, [], [(2, .fn (Fn.func 61) [.lp 0 0, .lp 1 0, .lp 2 0])], [([.v (.pointer (some (Addr.mk mb 0 none)))], 46), ([.v (.bool false)], 4), ([.fn (Fn.func 46) []], 96)]⟩ ?_
 refine zE (.fn (Fn.func 61) [.lp 0 0, .lp 1 0, .lp 2 0]) ?_
 intro ρ w9 hm hf
 exact ⟨ρ, rfl, hm⟩
noncomputable def B32 : Code := (Tryz.f32.body).getD .skip
set_option maxHeartbeats 20000000 in
set_option maxRecDepth 100000 in
theorem allM2_any (mb : Nat) (w : World) : Calls Tryz.prog 32 #[.pointer (some ⟨mb, 0, none⟩)] w fun e w' => ∃ ρc, e = .returned ((SV.fn (.func 64) [.lp 0 0, .lp 1 0, .lp 2 0]).den ρc) ∧ WInv w.heap.size w ρc [([.v (.pointer (some ⟨mb, 0, none⟩))], 55), ([.v (.bool false)], 4), ([.fn (.func 53) []], 106)] w' := by
 refine enter (fn := Tryz.f32) (c := B32) [.v (.pointer (some ⟨mb, 0, none⟩))] Tryz.func32 rfl rfl ?_
 refine zN [3] 0 ⟨pops B32 [1, 0] 1, [.seq (sub B32 [1, 1])], [(3, .v (.pointer (some (Addr.mk mb 0 none))))], []⟩ ?_
 refine At.newcallV 52 [.v (.pointer (some ⟨mb, 0, none⟩)), .v (.bool false), .fn (.func 53) []] (.fn (.func 64) [.lp 0 0, .lp 1 0, .lp 2 0]) (.fn (.func 64) [.lp 0 0, .lp 1 0, .lp 2 0]) [([.v (.pointer (some ⟨mb, 0, none⟩))], 55), ([.v (.bool false)], 4), ([.fn (.func 53) []], 106)] noF_stable (by kernel_rfl) (by kernel_rfl) (by kernel_rfl) (by kernel_rfl) (by kernel_rfl) (by kernel_rfl) (fun ρ ρc h => by rw [List.length_eq_zero_iff.1 h]; rfl) (by kernel_rfl) (fun ρ w1 hm' hf => walkM2_any mb w1) ?_
 refine zN [2] 3 ⟨.exit .ret, [], [(2, .fn (Fn.func 64) [.lp 0 0, .lp 1 0, .lp 2 0])], [([.v (.pointer (some (Addr.mk mb 0 none)))], 55), ([.v (.bool false)], 4), ([.fn (Fn.func 53) []], 106)]⟩ ?_
 refine zE (.fn (Fn.func 64) [.lp 0 0, .lp 1 0, .lp 2 0]) ?_
 intro ρ w9 hm hf
 exact ⟨ρ, rfl, hm⟩
noncomputable def B23 : Code := (Tryz.f23.body).getD .skip
set_option maxHeartbeats 20000000 in
set_option maxRecDepth 100000 in
theorem PutM1_any (k : List UInt8) (v : SlV) {mb : Nat} (t : Tr (List UInt8) (SlV)) (ρ0 : List Nat) (p : Option Addr) (w : World) (hM : w.heap[mb]? = some (mapO1 p)) (hb : mb ∈ ρ0) (hρ : ∀ x ∈ ρ0, x < w.heap.size) (hp : TrF kw1 vw1 p t ρ0 w) (hn : t.many ≤ 800000) :
  Calls Tryz.prog 23 #[.pointer (some ⟨mb, 0, none⟩), .string (mkB k), .slice v.A v.n v.c] w fun e w' => ∃ q, e = .returned (.tuple #[.slice (gotS (t.get cmp1 k)).A (gotS (t.get cmp1 k)).n (gotS (t.get cmp1 k)).c, .bool (t.get cmp1 k).isSome, .int .i64 0]) ∧ w'.heap[mb]? = some (mapO1 q) ∧ TrF kw1 vw1 q (t.put cmp1 k v) ρ0 w' ∧ Chg (fun b => b ∈ [mb]) w w' := by
 refine enterG (N := mb) (F := PF kw1 vw1 w mb ρ0 p t) (fn := Tryz.f23) (c := B23) [.lp 0 0, .so (mkB k), .sl v.A v.n v.c] [mb] [([.fn (.func 29) [], .v (.pointer p)], 91)] Tryz.func23 rfl rfl (WInv.start1 (Nat.le_refl _) hM) ⟨hp.sub (fun x hx => (List.mem_append.1 hx).elim id fun h => by rw [List.mem_singleton] at h; exact h ▸ hb), FrameR.start _ [mb] (by simp)⟩ ?_
 refine zT PF.stable PF.fewer [0, 1, 2, 12, 13] 1 ⟨pops B23 [1, 0] 2, [.seq (sub B23 [1, 1])], [(0, .lp 0 0), (1, .so (mkB k)), (2, .sl v.A v.n v.c), (12, .lp 0 0), (13, .so (mkB k))], [([.fn (Fn.func 29) [], .v (.pointer p)], 91)]⟩ ?_
 refine zC PF.stable 22 [.lp 0 0, .so (mkB k)] (.tup [.sl (gotS (t.get cmp1 k)).A (gotS (t.get cmp1 k)).n (gotS (t.get cmp1 k)).c, .bo (t.get cmp1 k).isSome]) (fun ρ _ w1 hi hf => get1_any k t (ρ0 ++ ρ) p w1 (loc_cell hi.mem rfl rfl) (loc_cell hi.mem rfl rfl) hf.1) ?_
 refine zT PF.stable PF.fewer [0, 1, 2, 9, 10, 17] 1 ⟨pops B23 [1, 1, 0, 0] 1, [.seq (sub B23 [1, 1, 0, 1]), .seq (sub B23 [1, 1, 1])], [(0, .lp 0 0), (1, .so (mkB k)), (2, .sl v.A v.n v.c), (9, .sl (gotS (Tr.get cmp1 k t)).A (gotS (Tr.get cmp1 k t)).n (gotS (Tr.get cmp1 k t)).c), (10, .bo (Tr.get cmp1 k t).isSome), (17, .lp 0 0)], [([.fn (Fn.func 29) [], .v (.pointer p)], 91)]⟩ ?_
 refine zC PF.stable 43 [.lp 0 0] (.v (.bool false)) (fun ρ _ w1 hi hf => none1_any w1 (loc_cell hi.mem rfl rfl)) ?_
 refine zT PF.stable PF.fewer [9, 10, 20, 21, 25, 26, 27] 1 ⟨pops B23 [1, 1, 1, 0] 8, [.seq (sub B23 pAK8)], [(9, .sl (gotS (Tr.get cmp1 k t)).A (gotS (Tr.get cmp1 k t)).n (gotS (Tr.get cmp1 k t)).c), (10, .bo (Tr.get cmp1 k t).isSome), (20, .lp 0 0), (21, .lp 0 0), (25, .v (.pointer p)), (26, .so (mkB k)), (27, .sl v.A v.n v.c)], [([.fn (Fn.func 29) [], .v (.pointer p)], 91)]⟩ ?_
 refine At.callx PF.stable (X := Option Addr) 44 [.lp 0 0, .v (.pointer p), .so (mkB k), .sl v.A v.n v.c] (fun q => .v (.pointer q)) (fun q ρ w1 => TrF kw1 vw1 q (t.put cmp1 k v) (ρ0 ++ ρ) w1) (fun q => TrF.stable) (by kernel_rfl) (by kernel_rfl) (by kernel_rfl) (by kernel_rfl) (fun ρ a w1 hi hf => (put1_any k v t (ρ0 ++ ρ) p w1 (loc_cell hi.mem rfl rfl) (low_allB hi.mem hf.2 hρ) hf.1 hn).mono fun e w2 h => by
  obtain ⟨q, h1, h2, h3⟩ := h
  exact ⟨q, h1, h3, h2⟩) (fun q => ?_)
 refine zT PF2.stable PF2.fewer [6, 7, 8] 1 ⟨.exit .ret, [], [(6, .sl (gotS (Tr.get cmp1 k t)).A (gotS (Tr.get cmp1 k t)).n (gotS (Tr.get cmp1 k t)).c), (7, .bo (Tr.get cmp1 k t).isSome), (8, .v (.int .i64 0))], [([.fn (Fn.func 29) [], .v (.pointer q)], 91)]⟩ ?_
 refine zE (.tup [.sl (gotS (Tr.get cmp1 k t)).A (gotS (Tr.get cmp1 k t)).n (gotS (Tr.get cmp1 k t)).c, .bo (Tr.get cmp1 k t).isSome, .v (.int .i64 0)]) ?_
 intro ρ w9 hm hf
 obtain ⟨⟨h1, h2⟩, h3⟩ := hf
 have hc := hm.cells 0 _ _ rfl
 rw [show Go.Sx.nth ρ 0 = mb from FrameR.nth (ρ0 := [mb]) h2 Nat.zero_lt_one] at hc
 exact ⟨q, rfl, hc, h3.sub (fun x hx => List.mem_append_left _ hx), h2.1⟩
noncomputable def B31 : Code := (Tryz.f31.body).getD .skip
set_option maxHeartbeats 20000000 in
set_option maxRecDepth 100000 in
theorem PutM2_any (k : AtK) (v : Pn) {mb : Nat} (t : Tr (AtK) (Pn)) (ρ0 : List Nat) (p : Option Addr) (w : World) (hM : w.heap[mb]? = some (mapO2 p)) (hb : mb ∈ ρ0) (hρ : ∀ x ∈ ρ0, x < w.heap.size) (hp : TrF kw2 vw2 p t ρ0 w) (hn : t.many ≤ 800000) :
  Calls Tryz.prog 31 #[.pointer (some ⟨mb, 0, none⟩), .agg #[.string (mkB k.key), .int .i64 k.st, .int .i64 k.en], v.val] w fun e w' => ∃ q, e = .returned (.tuple #[(gotP (t.get cmp2 k)).val, .bool (t.get cmp2 k).isSome, .int .i64 0]) ∧ w'.heap[mb]? = some (mapO2 q) ∧ TrF kw2 vw2 q (t.put cmp2 k v) ρ0 w' ∧ Chg (fun b => b ∈ [mb]) w w' := by
 refine enterG (N := mb) (F := PF kw2 vw2 w mb ρ0 p t) (fn := Tryz.f31) (c := B31) [.lp 0 0, .agg [.so (mkB k.key), .io .i64 k.st, .io .i64 k.en], .agg [.so (mkB v.key), .io .i64 v.st, .io .i64 v.en, .io .i64 v.kd, .io .i64 v.nt, .io .i64 v.ct, .io .i64 v.sm, .io .i64 v.mn, .io .i64 v.mx]] [mb] [([.fn (.func 27) [], .v (.pointer p)], 99)] Tryz.func31 rfl rfl (WInv.start1 (Nat.le_refl _) hM) ⟨hp.sub (fun x hx => (List.mem_append.1 hx).elim id fun h => by rw [List.mem_singleton] at h; exact h ▸ hb), FrameR.start _ [mb] (by simp)⟩ ?_
 refine zT PF.stable PF.fewer [0, 4, 5, 6, 12, 13] 4 ⟨pops B31 [1, 0] 2, [.seq (sub B31 [1, 1])], [(0, .lp 0 0), (4, .lp 1 0), (5, .lp 2 0), (6, .lp 3 0), (12, .lp 0 0), (13, .agg [.so (mkB k.key), .io .i64 k.st, .io .i64 k.en])], [([.fn (Fn.func 27) [], .v (.pointer p)], 99), ([.so (mkB k.key), .io .i64 k.st, .io .i64 k.en], 59), ([.so (mkB v.key), .io .i64 v.st, .io .i64 v.en, .io .i64 v.kd, .io .i64 v.nt, .io .i64 v.ct, .io .i64 v.sm, .io .i64 v.mn, .io .i64 v.mx], 40), (zAK0, 40)]⟩ ?_
 refine zC PF.stable 49 [.lp 0 0, .agg [.so (mkB k.key), .io .i64 k.st, .io .i64 k.en]] (.tup [.agg [.so (mkB (gotP (t.get cmp2 k)).key), .io .i64 (gotP (t.get cmp2 k)).st, .io .i64 (gotP (t.get cmp2 k)).en, .io .i64 (gotP (t.get cmp2 k)).kd, .io .i64 (gotP (t.get cmp2 k)).nt, .io .i64 (gotP (t.get cmp2 k)).ct, .io .i64 (gotP (t.get cmp2 k)).sm, .io .i64 (gotP (t.get cmp2 k)).mn, .io .i64 (gotP (t.get cmp2 k)).mx], .bo (t.get cmp2 k).isSome]) (fun ρ _ w1 hi hf => get2_any k t (ρ0 ++ ρ) p w1 (loc_cell hi.mem rfl rfl) (loc_cell hi.mem rfl rfl) hf.1) ?_
 refine zT PF.stable PF.fewer [0, 4, 5, 6, 9, 10, 17] 5 ⟨pops B31 [1, 1, 0, 0] 1, [.seq (sub B31 [1, 1, 0, 1]), .seq (sub B31 [1, 1, 1])], [(0, .lp 0 0), (4, .lp 1 0), (5, .lp 2 0), (6, .lp 3 0), (9, .lp 4 0), (10, .bo (Tr.get cmp2 k t).isSome), (17, .lp 0 0)], [([.fn (Fn.func 27) [], .v (.pointer p)], 99), ([.so (mkB k.key), .io .i64 k.st, .io .i64 k.en], 59), ([.so (mkB v.key), .io .i64 v.st, .io .i64 v.en, .io .i64 v.kd, .io .i64 v.nt, .io .i64 v.ct, .io .i64 v.sm, .io .i64 v.mn, .io .i64 v.mx], 40), (zAK0, 40), ([.so (mkB (gotP (Tr.get cmp2 k t)).key), .io .i64 (gotP (Tr.get cmp2 k t)).st, .io .i64 (gotP (Tr.get cmp2 k t)).en, .io .i64 (gotP (Tr.get cmp2 k t)).kd, .io .i64 (gotP (Tr.get cmp2 k t)).nt, .io .i64 (gotP (Tr.get cmp2 k t)).ct, .io .i64 (gotP (Tr.get cmp2 k t)).sm, .io .i64 (gotP (Tr.get cmp2 k t)).mn, .io .i64 (gotP (Tr.get cmp2 k t)).mx], 40)]⟩ ?_
 refine zC PF.stable 50 [.lp 0 0] (.v (.bool false)) (fun ρ _ w1 hi hf => none2_any w1 (loc_cell hi.mem rfl rfl)) ?_
 refine zT PF.stable PF.fewer [0, 4, 5, 6, 9, 10] 5 ⟨.any (opsOf (sub B31 [1, 1, 1, 0])) 12 [], [.seq (sub B31 pAK8)], [(0, .lp 0 0), (4, .lp 1 0), (5, .lp 2 0), (6, .lp 3 0), (9, .lp 4 0), (10, .bo (Tr.get cmp2 k t).isSome)], [([.fn (Fn.func 27) [], .v (.pointer p)], 99), ([.so (mkB k.key), .io .i64 k.st, .io .i64 k.en], 59), ([.so (mkB v.key), .io .i64 v.st, .io .i64 v.en, .io .i64 v.kd, .io .i64 v.nt, .io .i64 v.ct, .io .i64 v.sm, .io .i64 v.mn, .io .i64 v.mx], 40), (zAK0, 40), ([.so (mkB (gotP (Tr.get cmp2 k t)).key), .io .i64 (gotP (Tr.get cmp2 k t)).st, .io .i64 (gotP (Tr.get cmp2 k t)).en, .io .i64 (gotP (Tr.get cmp2 k t)).kd, .io .i64 (gotP (Tr.get cmp2 k t)).nt, .io .i64 (gotP (Tr.get cmp2 k t)).ct, .io .i64 (gotP (Tr.get cmp2 k t)).sm, .io .i64 (gotP (Tr.get cmp2 k t)).mn, .io .i64 (gotP (Tr.get cmp2 k t)).mx], 40)]⟩ ?_
 refine At.cutN (σ := Option Addr) (fun q => [(0, .lp 0 0), (4, .lp 1 0), (5, .lp 2 0), (6, .lp 3 0), (9, .lp 4 0), (10, .bo (Tr.get cmp2 k t).isSome)]) (fun q => [([.fn (Fn.func 27) [], .v (.pointer q)], 99), ([.so (mkB k.key), .io .i64 k.st, .io .i64 k.en], 59), ([.so (mkB v.key), .io .i64 v.st, .io .i64 v.en, .io .i64 v.kd, .io .i64 v.nt, .io .i64 v.ct, .io .i64 v.sm, .io .i64 v.mn, .io .i64 v.mx], 40), (zAK0, 40), ([.so (mkB (gotP (Tr.get cmp2 k t)).key), .io .i64 (gotP (Tr.get cmp2 k t)).st, .io .i64 (gotP (Tr.get cmp2 k t)).en, .io .i64 (gotP (Tr.get cmp2 k t)).kd, .io .i64 (gotP (Tr.get cmp2 k t)).nt, .io .i64 (gotP (Tr.get cmp2 k t)).ct, .io .i64 (gotP (Tr.get cmp2 k t)).sm, .io .i64 (gotP (Tr.get cmp2 k t)).mn, .io .i64 (gotP (Tr.get cmp2 k t)).mx], 40)]) (fun q ρ w1 => PF kw2 vw2 w mb ρ0 p t ρ w1 ∧ TrF kw2 vw2 q (t.put cmp2 k v) (ρ0 ++ ρ) w1) rfl ?_ (fun q => ?_)
 ·refine At.purify0 (fun e a w h => h.1) 20 ?_
  refine At.takeLoad (fun e a w h => h.1) 5 (.v (.pointer p)) [8, 9, 10, 11] (by kernel_rfl) (by kernel_rfl) (by kernel_rfl) ?_
  refine At.takeLoad (fun e a w h => h.1) 6 (.agg [.so (mkB k.key), .io .i64 k.st, .io .i64 k.en]) [8, 9, 10, 11] (by kernel_rfl) (by kernel_rfl) (by kernel_rfl) ?_
  refine At.takeLoad (fun e a w h => h.1) 7 (.agg [.so (mkB v.key), .io .i64 v.st, .io .i64 v.en, .io .i64 v.kd, .io .i64 v.nt, .io .i64 v.ct, .io .i64 v.sm, .io .i64 v.mn, .io .i64 v.mx]) [8, 9, 10, 11] (by kernel_rfl) (by kernel_rfl) (by kernel_rfl) ?_
  refine zT PF.stable PF.fewer [0, 4, 5, 6, 9, 10, 20, 21, 25, 26, 27] 5 ⟨.ops (opsOf (sub B31 [1, 1, 1, 0])) (((opsOf (sub B31 [1, 1, 1, 0])).toList.drop 8).take 1), [.any (opsOf (sub B31 [1, 1, 1, 0])) 3 [8, 7, 6, 5, 4, 3, 2, 1, 0]], [(0, .lp 0 0), (4, .lp 1 0), (5, .lp 2 0), (6, .lp 3 0), (9, .lp 4 0), (10, .bo (Tr.get cmp2 k t).isSome), (20, .lp 0 0), (21, .lp 0 0), (25, .v (.pointer p)), (26, .agg [.so (mkB k.key), .io .i64 k.st, .io .i64 k.en]), (27, .agg [.so (mkB v.key), .io .i64 v.st, .io .i64 v.en, .io .i64 v.kd, .io .i64 v.nt, .io .i64 v.ct, .io .i64 v.sm, .io .i64 v.mn, .io .i64 v.mx])], [([.fn (Fn.func 27) [], .v (.pointer p)], 99), ([.so (mkB k.key), .io .i64 k.st, .io .i64 k.en], 59), ([.so (mkB v.key), .io .i64 v.st, .io .i64 v.en, .io .i64 v.kd, .io .i64 v.nt, .io .i64 v.ct, .io .i64 v.sm, .io .i64 v.mn, .io .i64 v.mx], 40), (zAK0, 40), ([.so (mkB (gotP (Tr.get cmp2 k t)).key), .io .i64 (gotP (Tr.get cmp2 k t)).st, .io .i64 (gotP (Tr.get cmp2 k t)).en, .io .i64 (gotP (Tr.get cmp2 k t)).kd, .io .i64 (gotP (Tr.get cmp2 k t)).nt, .io .i64 (gotP (Tr.get cmp2 k t)).ct, .io .i64 (gotP (Tr.get cmp2 k t)).sm, .io .i64 (gotP (Tr.get cmp2 k t)).mn, .io .i64 (gotP (Tr.get cmp2 k t)).mx], 40)]⟩ ?_
  refine At.callx PF.stable (X := Option Addr) 51 [.lp 0 0, .v (.pointer p), .agg [.so (mkB k.key), .io .i64 k.st, .io .i64 k.en], .agg [.so (mkB v.key), .io .i64 v.st, .io .i64 v.en, .io .i64 v.kd, .io .i64 v.nt, .io .i64 v.ct, .io .i64 v.sm, .io .i64 v.mn, .io .i64 v.mx]] (fun q => .v (.pointer q)) (fun q ρ w1 => TrF kw2 vw2 q (t.put cmp2 k v) (ρ0 ++ ρ) w1) (fun q => TrF.stable) (by kernel_rfl) (by kernel_rfl) (by kernel_rfl) (by kernel_rfl) (fun ρ a w1 hi hf => (put2_any k v t (ρ0 ++ ρ) p w1 (loc_cell hi.mem rfl rfl) (low_allB hi.mem hf.2 hρ) hf.1 hn).mono fun e w2 h => by
   obtain ⟨q, h1, h2, h3⟩ := h
   exact ⟨q, h1, h3, h2⟩) (fun q => ?_)
  refine zT PF2.stable PF2.fewer [0, 4, 5, 6, 9, 10] 5 ⟨.exit .normal, [], [(0, .lp 0 0), (4, .lp 1 0), (5, .lp 2 0), (6, .lp 3 0), (9, .lp 4 0), (10, .bo (Tr.get cmp2 k t).isSome)], [([.fn (Fn.func 27) [], .v (.pointer q)], 99), ([.so (mkB k.key), .io .i64 k.st, .io .i64 k.en], 59), ([.so (mkB v.key), .io .i64 v.st, .io .i64 v.en, .io .i64 v.kd, .io .i64 v.nt, .io .i64 v.ct, .io .i64 v.sm, .io .i64 v.mn, .io .i64 v.mx], 40), (zAK0, 40), ([.so (mkB (gotP (Tr.get cmp2 k t)).key), .io .i64 (gotP (Tr.get cmp2 k t)).st, .io .i64 (gotP (Tr.get cmp2 k t)).en, .io .i64 (gotP (Tr.get cmp2 k t)).kd, .io .i64 (gotP (Tr.get cmp2 k t)).nt, .io .i64 (gotP (Tr.get cmp2 k t)).ct, .io .i64 (gotP (Tr.get cmp2 k t)).sm, .io .i64 (gotP (Tr.get cmp2 k t)).mn, .io .i64 (gotP (Tr.get cmp2 k t)).mx], 40)]⟩ ?_
  exact At.fin q rfl rfl (by unfold subFr; kernel_rfl) rfl (fun _ _ _ _ h => h)
 dsimp only
 refine zT PF2.stable PF2.fewer [6, 7, 8] 4 ⟨.exit .ret, [], [(6, .lp 3 0), (7, .bo (Tr.get cmp2 k t).isSome), (8, .v (.int .i64 0))], [([.fn (Fn.func 27) [], .v (.pointer q)], 99), ([.so (mkB k.key), .io .i64 k.st, .io .i64 k.en], 59), ([.so (mkB v.key), .io .i64 v.st, .io .i64 v.en, .io .i64 v.kd, .io .i64 v.nt, .io .i64 v.ct, .io .i64 v.sm, .io .i64 v.mn, .io .i64 v.mx], 40), ([.so (mkB (gotP (Tr.get cmp2 k t)).key), .io .i64 (gotP (Tr.get cmp2 k t)).st, .io .i64 (gotP (Tr.get cmp2 k t)).en, .io .i64 (gotP (Tr.get cmp2 k t)).kd, .io .i64 (gotP (Tr.get cmp2 k t)).nt, .io .i64 (gotP (Tr.get cmp2 k t)).ct, .io .i64 (gotP (Tr.get cmp2 k t)).sm, .io .i64 (gotP (Tr.get cmp2 k t)).mn, .io .i64 (gotP (Tr.get cmp2 k t)).mx], 40)]⟩ ?_
 refine zE (.tup [.agg [.so (mkB (gotP (Tr.get cmp2 k t)).key), .io .i64 (gotP (Tr.get cmp2 k t)).st, .io .i64 (gotP (Tr.get cmp2 k t)).en, .io .i64 (gotP (Tr.get cmp2 k t)).kd, .io .i64 (gotP (Tr.get cmp2 k t)).nt, .io .i64 (gotP (Tr.get cmp2 k t)).ct, .io .i64 (gotP (Tr.get cmp2 k t)).sm, .io .i64 (gotP (Tr.get cmp2 k t)).mn, .io .i64 (gotP (Tr.get cmp2 k t)).mx], .bo (Tr.get cmp2 k t).isSome, .v (.int .i64 0)]) ?_
 intro ρ w9 hm hf
 obtain ⟨⟨h1, h2⟩, h3⟩ := hf
 have hc := hm.cells 0 _ _ rfl
 rw [show Go.Sx.nth ρ 0 = mb from FrameR.nth (ρ0 := [mb]) h2 Nat.zero_lt_one] at hc
 exact ⟨q, rfl, hc, h3.sub (fun x hx => List.mem_append_left _ hx), h2.1⟩
end Go.Proofs.YtkjnbafdmjakgaaGreatDoor
end
section
/- A drawn region that calls yield at its end; rows of one's own with trees beside them. -/
namespace Go.Sx
open Go.RowKit
section
variable {P : Program} {ops : Array Oper} {md : Region.Mode} {C : World → Prop}
theorem operInW {o : Oper} {a : Act} {w : World} {K : Act → World → Prop} {Q : Exit → Act → World → Prop} (h : o.wp P a w K Q) : o.wpIn Fence.wide 0 P a w K Q := by
 refine ⟨fun _ _ => trivial, ?_⟩
 rw [show Fence.wide.round = none from rfl, Oper.semAt_none]
 unfold Oper.wp at h
 generalize (execOp a.eval o).run P w = r at *
 cases r with
 | ok n w' =>
  cases n <;> simp only [Oper.upon] at h <;> simp only [Oper.uponIn]
  case value => exact h
  case skip => exact h
  case defer => exact h
  case row => exact ⟨fun h0 => absurd h0 (by simp [Fence.wide]), rowsIn_of_rows h⟩
  case enter => exact ⟨fun h0 => absurd h0 (by simp [Fence.wide]), (callsIn_wide (n := 0)).2 h⟩
 | halt x w' =>
  cases x <;> simp only [Oper.upon] at h <;> simp only [Oper.uponIn]
  exact h
theorem wpOpInW_of_qOp {i : Nat} {a : Act} {K : Act → Prop} {K' : Act → World → Prop} {Q' : Exit → Act → World → Prop} {w : World} (hC : C w) (h : ∀ a w', C w' → K a → K' a w') (hh : qOp P ops C i K a) : wpOpIn Fence.wide 0 P ops Q' i K' a w := by
 unfold qOp at hh
 unfold wpOpIn
 split
 ·rename_i ho; simp only [ho] at hh; exact h _ _ hC hh
 rename_i o ho
 simp only [ho] at hh
 split
 ·rename_i hw; simp only [hw, if_true] at hh; exact operInW (Oper.wp_of_quiet hC h hh)
 rename_i hw; simp only [hw] at hh; exact ⟨fun _ _ => trivial, h _ _ hC hh⟩
theorem wpAnyInW_of_P {n g : Nat} {L : Array Bool → Act → Prop} {Q' : Exit → Act → World → Prop} (hL : ∀ listed a w, C w → L listed a → wpAnyIn Fence.wide 0 P md ops Q' g listed a w) :
  ∀ (f : Nat) (listed : Array Bool) (a : Act) (w : World), C w → wpAnyP P md ops C n L f listed a → wpAnyIn Fence.wide 0 P md ops Q' (f + g) listed a w
 | 0, listed, a, w, hw, h => by rw [Nat.zero_add]; exact hL _ _ _ hw h
 | f + 1, listed, a, w, hw, h => by
  rw [show f + 1 + g = (f + g) + 1 by omega]
  exact ⟨fun h0 => absurd h0 h.1, fun i hi => wpOpInW_of_qOp hw (fun a' w' hw' h' => wpAnyInW_of_P hL f _ a' w' hw' h') (h.2 i hi).2⟩
theorem wpAnyInW_of_seq {Q' : Exit → Act → World → Prop} : ∀ (l : List Oper) (k : Nat) (listed : Array Bool) (a : Act) (w : World), (∀ j, l[j]? = ops[k + j]?) →
  Region.seqB md ops l.length k listed = true → wpListIn Fence.wide 0 P ops Q' l a w → wpAnyIn Fence.wide 0 P md ops Q' l.length listed a w
 | [], _, _, _, _, _, hB, h => ⟨by simpa [Region.seqB] using hB, h⟩
 | o :: l, k, listed, a, w, hl, hB, h => by
  have h0 : ops[k]? = some o := by simpa using (hl 0).symm
  simp only [List.length_cons, Region.seqB, Bool.and_eq_true, decide_eq_true_eq] at hB
  refine ⟨fun h1 => (by rw [hB.1] at h1; cases h1), fun i hi => ?_⟩
  rw [hB.1] at hi
  have hik : i = k := by simpa using hi
  subst hik
  have hw : wpOpIn Fence.wide 0 P ops Q' i (wpListIn Fence.wide 0 P ops Q' l) a w := by
   unfold wpOpIn
   simp only [h0]
   unfold wpListIn at h
   exact h
  exact wpOpIn_mono (fun a' w' h' => wpAnyInW_of_seq l (i + 1) _ a' w' (fun j => by have := hl (j + 1); simpa [Nat.add_assoc, Nat.add_comm 1 j] using this) hB.2 h') hw
theorem anyIn_quiet_tail {Q : Exit → Act → World → Prop} {a : Act} {w : World} (n : Nat) (hB : Region.lexTailB .any ops n = true) (hC : C { w with drawn := w.drawn + 1 })
  (h : wpQuiet P ops C (fun a' => ∀ w', C w' → wpListIn Fence.wide 0 P ops Q (ops.toList.drop n) a' w') (ops.toList.take n) a) : wpAnyIn Fence.wide 0 P .any ops Q ops.size (Array.replicate ops.size false) a { w with drawn := w.drawn + 1 } := by
 simp only [Region.lexTailB, Bool.and_eq_true, decide_eq_true_eq] at hB
 obtain ⟨⟨⟨⟨hsel, hn⟩, hs⟩, hc⟩, hlex⟩ := hB
 have hn' : n < ops.toList.length := by simpa using hn
 have htl : (ops.toList.take n).length = n := by simp; omega
 have hdl : (ops.toList.drop n).length = ops.size - n := by simp
 have inv0 : HeadInv .any ops n (Array.replicate ops.size false) :=
  ⟨by simp, fun j oj _ hl => (by rw [getD_replicate_false] at hl; cases hl), fun t _ ht => getD_in (by simpa using ht) (getD_replicate_false _ _)⟩
 have H := wpAnyP_lex (md := .any) (g := ops.size - n) hsel hs hc hn (ops.toList.take n) 0 _ a (fun j hj => by
  have hj' : j < n := by rw [htl] at hj; exact hj
  simp [hj']) (by simpa using htl) inv0 (by rw [htl]; exact hlex) h
 have := wpAnyInW_of_P (Q' := Q) (g := ops.size - n) (fun listed a' w' hw' hL => by
  have := wpAnyInW_of_seq (md := .any) (Q' := Q) (ops.toList.drop n) n listed a' w' (fun j => by simp [List.getElem?_drop]) (by rw [hdl]; exact hL.1) (hL.2 w' hw')
  rwa [hdl] at this) _ _ _ _ hC H
 rw [htl, show n + (ops.size - n) = ops.size by omega] at this
 exact this
end
section
variable {P : Program} {Q : Exit → Act → World → Prop} {N : Nat} {w0 : World} {ntm : Nat} {F : List Nat → World → Prop}
theorem At.splitQ {s : S} {id : Nat} {ops : Array Oper} (n : Nat) (hpc : s.pc = .code (.region id ops true)) (hm : P.follows .mixedOrders = true) (hB : Region.lexTailB .any ops n = true)
  (h : At P Q N w0 ntm F ⟨.qops ops (ops.toList.take n), .next (wpListIn Fence.wide 0 P ops (postK P s.ks Q) (ops.toList.drop n)) :: s.ks, s.fr, s.loc⟩) : At P Q N w0 ntm F s := by
 intro ρ a w hi hf
 rw [hpc]
 show (Code.region id ops true).wp P (postK P s.ks Q) a w
 refine (wpIn_wide (n := 0)).1 (wpIn_region_any hm ?_)
 exact anyIn_quiet_tail n hB (C := fun w' => Below w.heap.size w w') ⟨rfl, rfl, rfl, Nat.le_refl _, fun _ _ => rfl⟩ (h ρ a w hi hf)
end
end Go.Sx
namespace Go.Sx
open Go.RowKit
def Rec (D : Nat) (o : Obj) (ρ : List Nat) (w : World) : Prop := w.heap[D]? = some o ∧ D ∉ ρ
theorem Rec.stable {D : Nat} {o : Obj} : Stable (Rec D o) := fun ρ w ρ' w' hg hk ⟨h1, h2⟩ => by
 have hlt := (Array.getElem?_eq_some_iff.1 h1).1
 refine ⟨(hk.block D hlt h2).trans h1, fun hm => ?_⟩
 rcases hg.of_mem hm with h | h
 ·exact h2 h
 omega
theorem Rec.fewer {D : Nat} {o : Obj} : FewerK 0 (Rec D o) := fun ρ w k _ ⟨h1, h2⟩ => ⟨h1, fun hm => h2 (List.mem_of_mem_take hm)⟩
def Tk (ρ1 ρ : List Nat) (_ : World) : Prop := ρ.take ρ1.length = ρ1
theorem Tk.stable {ρ1 : List Nat} : Stable (Tk ρ1) := fun ρ w ρ' w' hg _ h => by
 obtain ⟨ext, rfl, _⟩ := hg
 have hl : ρ1.length ≤ ρ.length := by
  have := congrArg List.length h
  simp at this; omega
 unfold Tk
 rw [List.take_append_of_le_length hl]; exact h
theorem Tk.fewer {ρ1 : List Nat} : FewerK ρ1.length (Tk ρ1) := fun ρ _ k hk h => by
 unfold Tk
 rw [List.take_take, Nat.min_eq_left hk]; exact h
theorem Tk.eq {ρ1 ρ : List Nat} {w : World} (h : Tk ρ1 ρ w) (hl : ρ.length = ρ1.length) : ρ = ρ1 := by
 unfold Tk at h
 rw [← hl, List.take_length] at h
 exact h
theorem row_own {base e size : Nat} {A : Option Addr} {n c : Nat} {xs : List Value} {ρ : List Nat} {w : World} (h : Row base e size A n c xs ρ w) {g : Nat} (hg : (Value.slice A n c).ownBlock = some g) : ∃ cur, w.heap[g]? = some (.cells cur e (0, 0)) := by
 rcases h.1.2 with ⟨hv, _⟩ | ⟨g', cap, cur, hv, _, hc, _⟩
 ·rw [hv] at hg; cases hg
 rw [hv] at hg
 injection hg with hg
 subst hg
 exact ⟨cur, hc⟩
section
variable {P : Program} {Q : Exit → Act → World → Prop} {N : Nat} {w0 : World} {ntm : Nat} {F : List Nat → World → Prop}
variable [Md]
theorem At.appVX {s : S} {F' : Option Addr → Nat → List Nat → World → Prop} (t e size bytes : Nat) (A : Option Addr) (n c m : Nat) (nl : List SV) (xs news : List Value) (hq : appI P ntm s = some ⟨t, e, size, bytes, A, n, c, m, nl⟩) (hnews : ∀ ρ, SV.denL ρ nl = news)
  (hbytes : (n + m) * bytes ≤ 140737488355328) (h63 : n + m ≤ maxLen) (hR : ∀ ρ w, F ρ w → Row N e size A n c xs ρ w)
  (hk : ∀ ρ w w' A' c', WInv N w0 ρ s.loc w → F ρ w → Row N e size A' (n + m) c' (xs ++ news) ρ w' → w.grownBy w' (Value.slice A n c).ownBlock → ((Value.slice A' (n + m) c').ownBlock = (Value.slice A n c).ownBlock ∨ (Value.slice A' (n + m) c').ownBlock = some w.heap.size) → F' A' c' ρ w')
  (h : ∀ (A' : Option Addr) (c' : Nat), At P Q N w0 ntm (F' A' c') (s.tail ntm (.sl A' (n + m) c'))) : At P Q N w0 ntm F s := by
 unfold appI at hq
 obtain ⟨⟨o, q', i, off, k, cells, ct⟩, h1, h2⟩ := Option.map_eq_some_iff.1 hq
 simp only at h2
 subst h2
 unfold appQ at h1
 split at h1
 ·rename_i o' ho
  split at h1
  ·rename_i t' A1 n1 c1 i' off' m' k' ha
   split at h1
   ·rename_i e1 size1 bytes1 cells' ct' ht hl
    split at h1
    ·rename_i hb
     simp only [Option.some.injEq, Prod.mk.injEq, AppQ.mk.injEq] at h1
     obtain ⟨rfl, ⟨rfl, rfl, rfl, rfl, rfl, rfl, rfl, rfl, rfl⟩, rfl, rfl, rfl, rfl, rfl⟩ := h1
     simp only [Bool.and_eq_true] at hb
     refine At.opx o' (fun x : Option Addr × Nat => .sl x.1 (n1 + m') x.2) (fun x => F' x.1 x.2) ho hb.2 hb.1.1 ?_ (fun x => h x.1 x.2)
     intro ρ a w hi hf
     have hrow := hR ρ w hf
     have hle := hb.1.2.1
     have hlen : news.length = m' * size1 := by
      rw [← hnews ρ]
      have := Nat.le_of_ble_eq_true hle
      simp [SV.denL_eq]; omega
     obtain ⟨A', c', w', r1, r2, r3, r4⟩ := run_append_row (P := P) (ty := o'.type) ht hrow hi.mem.hN (fun b hb => (hi.mem.ge b hb).2) ⟨nth ρ i', off', none⟩ m' k' news hlen (fun j u hj => by
       rw [add_ok, cell_of_loc hi.mem hl]
       rw [← hnews ρ] at hj
       have hjn : j < m' * size1 := by
        have := (List.getElem?_eq_some_iff.1 hj).1
        simp [SV.denL_eq] at this
        omega
       simpa [SV.denL_eq, List.getElem?_take, hjn, List.getElem?_drop] using hj) (by rw [← hnews ρ]; exact oneL_den hb.1.2.2) hbytes h63
     exact ⟨(A', c'), w', run_appS hi.act ha r1, hi.mem.grown r3 (fun g hg => ⟨(hrow.1.lt g hg).1, hrow.2 g hg⟩), hk ρ w w' A' c' hi.mem hf r2 r3 r4⟩
    cases h1
   cases h1
  cases h1
 cases h1
theorem At.rowCallX {s : S} {F' : Option Addr → Nat → Nat → List Nat → World → Prop} {e size : Nat} (g : FuncId) (vs : List SV) (xs : List Value) (rv : Option Addr → Nat → Nat → SV) (hF : Stable F) (hF' : ∀ A n c, Stable (F' A n c)) (hc : s.call? = some (g, vs)) (hb : bodied P g = true) (hd : s.dstOk ntm = true) (hq : (match s.pc with | .ops .. => true | _ => false) = true)
  (hr : ∀ ρ w, WInv N w0 ρ s.loc w → F ρ w → Calls P g (SV.denL ρ vs).toArray w fun e' w' => ∃ A n c, e' = .returned ((rv A n c).den ρ) ∧ RowF w (fun _ => False) [] w.heap.size e size A n c xs [] w')
  (hk : ∀ ρ w w' A n c, WInv N w0 ρ s.loc w → F ρ w → Below w.heap.size w w' → Row w.heap.size e size A n c xs [] w' → F' A n c ρ w')
  (h : ∀ A n c, At P Q N w0 ntm (F' A n c) (s.tail ntm (rv A n c))) : At P Q N w0 ntm F s := by
 refine At.callx (X := Option Addr × Nat × Nat) hF g vs (fun x => rv x.1 x.2.1 x.2.2) (fun x => F' x.1 x.2.1 x.2.2) (fun x => hF' _ _ _) hc hb hd hq (fun ρ a w hi hf => (hr ρ w hi.mem hf).mono ?_) (fun x => At.mono (fun ρ w h => h.2) (h x.1 x.2.1 x.2.2))
 rintro e' w' ⟨A, n, c, rfl, ⟨⟨h1, h2⟩, h3, h4⟩⟩
 have hbel : Below w.heap.size w w' := ⟨h3.1.os, h3.1.tape, h3.1.output, h3.1.size, fun k hk => h3.1.block k hk (fun h => h)⟩
 exact ⟨(A, n, c), rfl, hbel, hk ρ w w' A n c hi.mem hf hbel h1⟩
end
end Go.Sx
namespace Go.Proofs.YtkjnbafdmjakgaaGreatDoor
open Go.RowKit Go.Sx
section
variable {κ ν : Type} {kw : κ → List Value} {vw : ν → List Value}
theorem Cel.chg {a : Addr} {ys : List Value} {ρa ρb : List Nat} {w w' : World} {ok : Nat → Prop} (h : Cel a ys ρa w) (hc : Chg ok w w') (hok : ∀ g, ok g → g ∈ ρa) (hb : ∀ b ∈ ρb, b ∈ ρa ∨ w.heap.size ≤ b) : Cel a ys ρb w' := by
 obtain ⟨h1, h2, h3⟩ := h
 refine ⟨fun j u hj => ?_, Nat.lt_of_lt_of_le h2 hc.size, fun hm => ?_⟩
 ·have h4 := h1 j u hj
  have hblk : (a.add j).block = a.block := by unfold Addr.add; split <;> rfl
  unfold World.cell? at h4 ⊢
  rw [hblk] at h4 ⊢
  rw [hc.block a.block h2 (fun h => h3 (hok _ h))]
  exact h4
 rcases hb _ hm with h | h
 ·exact h3 h
 omega
theorem TrF.chg {ρa ρb : List Nat} {w w' : World} {ok : Nat → Prop} (hc : Chg ok w w') (hok : ∀ g, ok g → g ∈ ρa) (hb : ∀ b ∈ ρb, b ∈ ρa ∨ w.heap.size ≤ b) : ∀ {t : Tr κ ν} {p : Option Addr}, TrF kw vw p t ρa w → TrF kw vw p t ρb w'
 | .nil, p, h => h
 | .node k v l r, p, ⟨b, pl, pr, h1, h2, h3, h4⟩ => ⟨b, pl, pr, h1, Cel.chg h2 hc hok hb, TrF.chg hc hok hb h3, TrF.chg hc hok hb h4⟩
theorem Fc.chg {ρa ρb : List Nat} {w w' : World} {ok : Nat → Prop} (hc : Chg ok w w') (hok : ∀ g, ok g → g ∈ ρa) (hb : ∀ b ∈ ρb, b ∈ ρa ∨ w.heap.size ≤ b) {f : Fc κ ν} (h : f.holds kw vw ρa w) : f.holds kw vw ρb w' := by
 cases f with
 | tr p t => exact TrF.chg hc hok hb h
 | cel b ys => exact Cel.chg h hc hok hb
def owns (L : List Sx.Rw) : List Nat := L.filterMap Sx.Rw.own
theorem mem_owns {L : List Sx.Rw} {g : Nat} : g ∈ owns L ↔ ∃ x ∈ L, x.own = some g := List.mem_filterMap
def KF (kw : κ → List Value) (vw : ν → List Value) (N : Nat) (ρ0 : List Nat) (L : List Sx.Rw) (T : List (Fc κ ν)) (ρ : List Nat) (w : World) : Prop := Rws N L ρ w ∧ FcF kw vw (ρ0 ++ owns L) T ρ w
variable {N : Nat} {ρ0 : List Nat} {L : List Sx.Rw} {T : List (Fc κ ν)}
theorem KF.stable : Stable (KF kw vw N ρ0 L T) := Rws.stable.and FcF.stable
theorem KF.fewer : FewerK 0 (KF kw vw N ρ0 L T) := FewerK.and2 Rws.fewer FcF.fewer
theorem KF.perm {L' : List Sx.Rw} {T' : List (Fc κ ν)} {ρ : List Nat} {w : World} (h : KF kw vw N ρ0 L T ρ w) (hp : L'.Perm L) (hT : ∀ f ∈ T', f ∈ T) : KF kw vw N ρ0 L' T' ρ w := by
 refine ⟨h.1.perm hp, fun f hf => ?_⟩
 refine Fc.chg (Chg.refl (fun _ => False) w) (fun _ h => h.elim) (fun b hb => .inl ?_) (h.2 f (hT f hf))
 simp only [List.mem_append] at hb ⊢
 rcases hb with (hb | hb) | hb
 ·exact .inl (.inl hb)
 ·obtain ⟨x, hx, hg⟩ := mem_owns.1 hb
  exact .inl (.inr (mem_owns.2 ⟨x, hp.subset hx, hg⟩))
 exact .inr hb
theorem KF.low {ρ : List Nat} {w w0 : World} {loc : Sx.Loc} (hm : WInv N w0 ρ loc w) (h : KF kw vw N ρ0 L T ρ w) (h0 : ∀ x ∈ ρ0, x < w.heap.size) : ∀ x ∈ ρ0 ++ owns L ++ ρ, x < w.heap.size := fun x hx => by
 simp only [List.mem_append] at hx
 rcases hx with (hx | hx) | hx
 ·exact h0 x hx
 ·obtain ⟨y, hy, hg⟩ := mem_owns.1 hx
  exact ((h.1.1 y hy).1.lt x hg).2
 exact (hm.ge x hx).2
theorem KF.grown {x y : Sx.Rw} {ρ : List Nat} {w w' : World} (h : KF kw vw N ρ0 (x :: L) T ρ w) (hy : Row N y.e y.size y.A y.n y.c y.xs ρ w') (hg : w.grownBy w' x.own) (ho : y.own = x.own ∨ y.own = some w.heap.size ∨ y.own = none) : KF kw vw N ρ0 (y :: L) T ρ w' := by
 refine ⟨h.1.grown hy hg ho, fun f hf => Fc.chg (ok := fun g => some g = x.own) (Chg.ofGrown hg fun k hk _ => hk) (fun g hk => ?_) (fun b hb => ?_) (h.2 f hf)⟩
 ·simp only [List.mem_append]
  exact .inl (.inr (mem_owns.2 ⟨x, List.mem_cons_self .., hk.symm⟩))
 simp only [List.mem_append] at hb ⊢
 rcases hb with (hb | hb) | hb
 ·exact .inl (.inl (.inl hb))
 ·obtain ⟨z, hz, hz2⟩ := mem_owns.1 hb
  rcases List.mem_cons.1 hz with rfl | hz
  ·rcases ho with ho | ho | ho
   ·exact .inl (.inl (.inr (mem_owns.2 ⟨x, List.mem_cons_self .., ho ▸ hz2⟩)))
   ·rw [ho] at hz2
    injection hz2 with hz2
    exact .inr (by omega)
   rw [ho] at hz2
   cases hz2
  exact .inl (.inl (.inr (mem_owns.2 ⟨z, List.mem_cons_of_mem _ hz, hz2⟩)))
 exact .inl (.inr hb)
theorem KF.more {e size n c : Nat} {A : Option Addr} {xs : List Value} {ρ : List Nat} {w w' w0 : World} {loc : Sx.Loc} (hm : WInv N w0 ρ loc w) (h : KF kw vw N ρ0 L T ρ w) (hb : Below w.heap.size w w') (hr : Row w.heap.size e size A n c xs [] w') : KF kw vw N ρ0 (⟨e, size, A, n, c, xs⟩ :: L) T ρ w' := by
 have hnew : ∀ g, (Value.slice A n c).ownBlock = some g → w.heap.size ≤ g := fun g hg => (hr.1.lt g hg).1
 refine ⟨⟨fun x hx => ?_, List.pairwise_cons.2 ⟨fun y hy g hg => ?_, h.1.2⟩⟩, fun f hf => Fc.chg (ok := fun _ => False) (Chg.ofBelow hb) (fun _ h => h.elim) (fun b hb => ?_) (h.2 f hf)⟩
 ·rcases List.mem_cons.1 hx with rfl | hx
  ·refine ⟨own_base' hr.1 hm.hN, fun g hg hmm => ?_⟩
   have h5 := hnew g hg
   have h6 := (hm.ge g hmm).2
   omega
  exact (h.1.1 x hx).keep (Grow.refl _ _) (Keep.of_below hb)
 ·intro he
  have h5 := hnew g hg
  have h6 := ((h.1.1 y hy).1.lt g he).2
  omega
 simp only [List.mem_append] at hb ⊢
 rcases hb with (hb | hb) | hb
 ·exact .inl (.inl (.inl hb))
 ·obtain ⟨z, hz, hz2⟩ := mem_owns.1 hb
  rcases List.mem_cons.1 hz with rfl | hz
  ·exact .inr (hnew b hz2)
  exact .inl (.inl (.inr (mem_owns.2 ⟨z, hz, hz2⟩)))
 exact .inl (.inr hb)
theorem KF.nil {ρ : List Nat} {w : World} (h : KF kw vw N ρ0 L T ρ w) (e size : Nat) : KF kw vw N ρ0 (⟨e, size, none, 0, 0, []⟩ :: L) T ρ w := by
 refine ⟨h.1.nil e size, fun f hf => ?_⟩
 exact h.2 f hf
theorem KF.cut {e size n c : Nat} {A : Option Addr} {xs : List Value} {ρ : List Nat} {w : World} (h : KF kw vw N ρ0 (⟨e, size, A, n, c, xs⟩ :: L) T ρ w) {a : Addr} (hA : A = some a) {m : Nat} (hm : m ≤ n) : KF kw vw N ρ0 (⟨e, size, A, m, c, xs.take (m * size)⟩ :: L) T ρ w := by
 have hrow := h.1.1 _ (List.mem_cons_self ..)
 simp only at hrow
 subst hA
 have hmn : m * size ≤ n * size := Nat.mul_le_mul_right _ hm
 have hl := hrow.1.1
 have hy : Row N e size (some a) m c (xs.take (m * size)) ρ w := by
  refine ⟨⟨by rw [List.length_take]; omega, ?_⟩, hrow.2⟩
  rcases hrow.1.2 with ⟨h', _⟩ | ⟨g, cap, cur, hv, hb, hg, hnc, hcm, hsz, ht⟩
  ·cases h'
  injection hv with h1 _ h2
  injection h1 with h1
  subst h1 h2
  refine .inr ⟨g, c, cur, rfl, hb, hg, by omega, hcm, hsz, ?_⟩
  have := congrArg (List.take (m * size)) ht
  rw [List.take_take, Nat.min_eq_left hmn] at this
  exact this
 exact h.grown (y := ⟨e, size, some a, m, c, xs.take (m * size)⟩) hy ⟨rfl, rfl, rfl, Nat.le_refl _, fun _ _ _ => rfl⟩ (.inl rfl)
theorem KF.putObj {ρ : List Nat} {w : World} (h : KF kw vw N ρ0 L T ρ w) {r : Nat} {o0 : Obj} (hr : w.heap[r]? = some o0) (ho : ∀ c t f, o0 ≠ .cells c t f) (h0 : r ∈ ρ0) (o : Obj) : KF kw vw N ρ0 L T ρ (w.putObj r o) := by
 refine ⟨⟨fun x hx => (h.1.1 x hx).putObj hr ho o, h.1.2⟩, fun f hf => ?_⟩
 refine Fc.chg (w := w) (w' := w.putObj r o) (ok := fun k => k = r) ⟨rfl, rfl, rfl, by simp, fun k _ hk => World.putObj_heap_other hk⟩ (fun g hg => ?_) (fun b hb => .inl hb) (h.2 f hf)
 rw [hg]
 simp only [List.mem_append]
 exact .inl (.inl h0)
theorem KF.widen {ρ : List Nat} {w w' : World} (h : KF kw vw N ρ0 L T ρ w) (hb : Below w.heap.size w w') {ρ2 : List Nat} (h2 : ∀ b ∈ ρ2, b ∈ ρ0 ∨ w.heap.size ≤ b) : KF kw vw N ρ2 L T ρ w' := by
 refine ⟨Rws.stable ρ w ρ w' (Grow.refl _ _) (Keep.of_below hb) h.1, fun f hf => Fc.chg (ok := fun _ => False) (Chg.ofBelow hb) (fun _ h => h.elim) (fun b hb => ?_) (h.2 f hf)⟩
 simp only [List.mem_append] at hb ⊢
 rcases hb with (hb | hb) | hb
 ·rcases h2 b hb with h3 | h3
  ·exact .inl (.inl (.inl h3))
  exact .inr h3
 ·exact .inl (.inl (.inr hb))
 exact .inl (.inr hb)
end
end Go.Proofs.YtkjnbafdmjakgaaGreatDoor
end
section
namespace Go.Proofs.YtkjnbafdmjakgaaGreatDoor
open Go.RowKit Go.Sx
end Go.Proofs.YtkjnbafdmjakgaaGreatDoor
end
section
/-! Panes: what is written is read, line by line and whole; what is cut off within the last line is refused there. -/
namespace Go.Proofs.YtkjnbafdmjakgaaGreatDoor
open Go.RowKit Go.Sx
end Go.Proofs.YtkjnbafdmjakgaaGreatDoor
end
section
namespace Go.Proofs.YtkjnbafdmjakgaaGreatDoor
open Go.RowKit Go.Sx
end Go.Proofs.YtkjnbafdmjakgaaGreatDoor
end
