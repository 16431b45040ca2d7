/- Joined texts: TC, TD. -/
import Derived.Test.YtkjnbafdmjakgaaGreatDoorVAG
set_option linter.unusedSimpArgs false
set_option linter.unusedVariables false
namespace Go.Sx
open Go
def pAH0 : List Nat := [1, 0, 1, 2, 1]
def pAH1 : List Nat := [1, 1, 0]
end Go.Sx
section
namespace Go.Proofs.YtkjnbafdmjakgaaGreatDoor
open Go.RowKit Go.Sx
theorem FewerK.and2 {j : Nat} {F G : List Nat → World → Prop} (h1 : FewerK j F) (h2 : FewerK j G) : FewerK j (fun ρ w => F ρ w ∧ G ρ w) := fun ρ w k hk h => ⟨h1 ρ w k hk h.1, h2 ρ w k hk h.2⟩
theorem run_neq_none {P : Program} {t e : TypeId} {j : TypeInfo} (a : Addr) (ht : P.underlying t = some (.pointer e)) (he : P.info? e = some j) (w : World) : (binOp .neq t (.pointer (some a)) (.pointer none)).run P w = .ok (.bool true) w := by
 have h : ∀ d : Nat, (Op.equalIn (d + 1) t (.pointer (some a)) (.pointer none)).run P w = .ok false w := fun d => by
  simp [Op.equalIn, run_underlying ht, sizeOf, typeInfo, he]
 simp only [binOp]
 simp [Op.equal, Op.maxDepth, h 9999]
structure SlV where
 A : Option Addr
 n : Nat
 c : Nat
def kw1 (k : List UInt8) : List Value := [.string (mkB k)]
structure AtK where
 key : List UInt8
 st : Int
 en : Int
def kw2 (k : AtK) : List Value := [.string (mkB k.key), .int .i64 k.st, .int .i64 k.en]
def vw2 (v : Pn) : List Value := v.cells
def vw1 (v : SlV) : List Value := [.slice v.A v.n v.c]
theorem Tw.stable {κ ν : Type} {kw : κ → List Value} {vw : ν → List Value} {ρ0 : List Nat} {p q : Option Addr} {t u : Tr κ ν} : Stable (fun ρ w => TrF kw vw p t (ρ0 ++ ρ) w ∧ TrF kw vw q u (ρ0 ++ ρ) w) := TrF.stable.and TrF.stable
theorem Tw.fewer {κ ν : Type} {kw : κ → List Value} {vw : ν → List Value} {ρ0 : List Nat} {p q : Option Addr} {t u : Tr κ ν} : FewerK 0 (fun ρ w => TrF kw vw p t (ρ0 ++ ρ) w ∧ TrF kw vw q u (ρ0 ++ ρ) w) := FewerK.and2 TrF.fewer TrF.fewer
theorem box_cel {w w' : World} {ρ ρ0 : List Nat} {cs : List SV} {t : TypeId} (hm : WInv w.heap.size w ρ [(cs, t)] w') (hρ : ∀ x ∈ ρ0, x < w.heap.size) : Cel ⟨nth ρ 0, 0, none⟩ (SV.denL ρ cs) ρ0 w' ∧ w.heap.size ≤ nth ρ 0 := by
 have hc := hm.cells 0 cs t rfl
 have hmem : nth ρ 0 ∈ ρ := by
  have : 0 < ρ.length := by rw [hm.len]; exact Nat.zero_lt_one
  simp [nth, List.getD, this]
 have hge := hm.ge _ hmem
 refine ⟨⟨fun j u hj => ?_, hge.2, fun hx => ?_⟩, hge.1⟩
 ·rw [add_ok, Nat.zero_add]
  simp only [World.cell?, hc]
  simpa using hj
 have := hρ _ hx
 simp only at this
 omega
theorem node_at {κ ν : Type} {kw : κ → List Value} {vw : ν → List Value} {b : Nat} {k : κ} {v : ν} {l r : Tr κ ν} {ρ : List Nat} {w : World} (h : TrF kw vw (some ⟨b, 0, none⟩) (Tr.node k v l r) ρ w) {j : Nat} {u : Value} (hj : ∀ pl pr, (nodeW kw vw k v pl pr (Tr.node k v l r).high (Tr.node k v l r).many)[j]? = some u) : w.cell? ((⟨b, 0, none⟩ : Addr).add j) = some u := by
 obtain ⟨b', pl, pr, he, hc, _⟩ := h
 injection he with he
 injection he with he
 subst he
 exact hc.1 j u (hj pl pr)
theorem info134 : (Tryz.prog.info? 93).map (·.size) = some 6 := by kernel_rfl
theorem eql1_nil (b : Nat) (w : World) : (binOp .eql 89 (.pointer (some ⟨b, 0, none⟩)) (.pointer none)).run Tryz.prog w = .ok (.bool false) w := by
 obtain ⟨j, hj1, hj2⟩ := Option.map_eq_some_iff.1 info134
 exact run_eql_none ⟨b, 0, none⟩ Tryz.underlying89 hj1 w
theorem neq1_nil (b : Nat) (w : World) : (binOp .neq 89 (.pointer (some ⟨b, 0, none⟩)) (.pointer none)).run Tryz.prog w = .ok (.bool true) w := by
 obtain ⟨j, hj1, hj2⟩ := Option.map_eq_some_iff.1 info134
 exact run_neq_none ⟨b, 0, none⟩ Tryz.underlying89 hj1 w
noncomputable def B78 : Code := (Tryz.f78.body).getD .skip
set_option maxHeartbeats 20000000 in
set_option maxRecDepth 100000 in
theorem high1_any {ρ0 : List Nat} {p : Option Addr} {t : Tr (List UInt8) (SlV)} (w : World) (h : TrF kw1 vw1 p t ρ0 w) : Calls Tryz.prog 78 #[.pointer p] w fun e w' => e = .returned (.int .i64 (t.high : Int)) ∧ Below w.heap.size w w' := by
 cases t with
 | nil =>
  obtain rfl : p = none := h
  refine enter (fn := Tryz.f78) (c := B78) [.v (.pointer none)] Tryz.func78 rfl rfl ?_
  refine zN [2] 0 ⟨.exit .ret, [], [(2, .v (.int .i64 0))], []⟩ ?_
  refine zE (.v (.int .i64 0)) ?_
  intro ρ w9 hm hf
  exact ⟨rfl, hm.below⟩
 | node k v l r =>
  obtain ⟨b, pl, pr, rfl, hc, hl, hr⟩ := h
  have h : TrF kw1 vw1 (some ⟨b, 0, none⟩) (Tr.node k v l r) ρ0 w := ⟨b, pl, pr, rfl, hc, hl, hr⟩
  refine enterF (N := w.heap.size) (F := fun ρ w1 => TrF kw1 vw1 (some ⟨b, 0, none⟩) (Tr.node k v l r) (ρ0 ++ ρ) w1) (fn := Tryz.f78) (c := B78) [.v (.pointer (some ⟨b, 0, none⟩))] Tryz.func78 rfl rfl (Nat.le_refl _) (by rw [List.append_nil]; exact h) ?_
  refine zT TrF.stable TrF.fewer [0, 3] 0 ⟨pops B78 [1, 0, 0] 1, [.seq (sub B78 [1, 0, 1]), .seq (sub B78 [1, 1])], [(0, .v (.pointer (some (Addr.mk b 0 none)))), (3, .v (.pointer (some (Addr.mk b 0 none))))], []⟩ ?_
  refine At.pcmp .eql 89 (some ⟨b, 0, none⟩) none false (by kernel_rfl) TrF.stable (fun w1 => eql1_nil b w1) ?_
  refine zT TrF.stable TrF.fewer [5] 0 ⟨pops B78 pAH1 1, [.seq (sub B78 pAH0)], [(5, .v (.pointer (some (Addr.mk b 0 none))))], []⟩ ?_
  refine At.nck ⟨b, 0, none⟩ (by kernel_rfl) TrF.stable ?_
  refine zT TrF.stable TrF.fewer [6] 0 ⟨pops B78 pAH1 2, [.seq (sub B78 pAH0)], [(6, .v (.pointer (some (Addr.mk b 0 none))))], []⟩ ?_
  refine At.fax ⟨b, 0, none⟩ 4 (by kernel_rfl) TrF.stable ?_
  refine zT TrF.stable TrF.fewer [7] 0 ⟨pops B78 pAH1 3, [.seq (sub B78 pAH0)], [(7, .v (.pointer (some (Addr.mk b 4 none))))], []⟩ ?_
  refine At.ldx ((⟨b, 0, none⟩ : Addr).add 4) (.io .i64 ((Tr.node k v l r).high : Int)) (by kernel_rfl) TrF.stable (fun ρ w1 hm' hf => node_at hf fun _ _ => rfl) ?_
  refine zT TrF.stable TrF.fewer [2] 0 ⟨.exit .ret, [], [(2, .io .i64 (↑(Tr.node k v l r).high : Int))], []⟩ ?_
  refine zE (.io .i64 (↑(Tr.node k v l r).high : Int)) ?_
  intro ρ w9 hm hf
  exact ⟨rfl, hm.below⟩
noncomputable def B79 : Code := (Tryz.f79.body).getD .skip
set_option maxHeartbeats 20000000 in
set_option maxRecDepth 100000 in
theorem many1_any {ρ0 : List Nat} {p : Option Addr} {t : Tr (List UInt8) (SlV)} (w : World) (h : TrF kw1 vw1 p t ρ0 w) : Calls Tryz.prog 79 #[.pointer p] w fun e w' => e = .returned (.int .i64 (t.many : Int)) ∧ Below w.heap.size w w' := by
 cases t with
 | nil =>
  obtain rfl : p = none := h
  refine enter (fn := Tryz.f79) (c := B79) [.v (.pointer none)] Tryz.func79 rfl rfl ?_
  refine zN [2] 0 ⟨.exit .ret, [], [(2, .v (.int .i64 0))], []⟩ ?_
  refine zE (.v (.int .i64 0)) ?_
  intro ρ w9 hm hf
  exact ⟨rfl, hm.below⟩
 | node k v l r =>
  obtain ⟨b, pl, pr, rfl, hc, hl, hr⟩ := h
  have h : TrF kw1 vw1 (some ⟨b, 0, none⟩) (Tr.node k v l r) ρ0 w := ⟨b, pl, pr, rfl, hc, hl, hr⟩
  refine enterF (N := w.heap.size) (F := fun ρ w1 => TrF kw1 vw1 (some ⟨b, 0, none⟩) (Tr.node k v l r) (ρ0 ++ ρ) w1) (fn := Tryz.f79) (c := B79) [.v (.pointer (some ⟨b, 0, none⟩))] Tryz.func79 rfl rfl (Nat.le_refl _) (by rw [List.append_nil]; exact h) ?_
  refine zT TrF.stable TrF.fewer [0, 3] 0 ⟨pops B79 [1, 0, 0] 1, [.seq (sub B79 [1, 0, 1]), .seq (sub B79 [1, 1])], [(0, .v (.pointer (some (Addr.mk b 0 none)))), (3, .v (.pointer (some (Addr.mk b 0 none))))], []⟩ ?_
  refine At.pcmp .eql 89 (some ⟨b, 0, none⟩) none false (by kernel_rfl) TrF.stable (fun w1 => eql1_nil b w1) ?_
  refine zT TrF.stable TrF.fewer [5] 0 ⟨pops B79 pAH1 1, [.seq (sub B79 pAH0)], [(5, .v (.pointer (some (Addr.mk b 0 none))))], []⟩ ?_
  refine At.nck ⟨b, 0, none⟩ (by kernel_rfl) TrF.stable ?_
  refine zT TrF.stable TrF.fewer [6] 0 ⟨pops B79 pAH1 2, [.seq (sub B79 pAH0)], [(6, .v (.pointer (some (Addr.mk b 0 none))))], []⟩ ?_
  refine At.fax ⟨b, 0, none⟩ 5 (by kernel_rfl) TrF.stable ?_
  refine zT TrF.stable TrF.fewer [7] 0 ⟨pops B79 pAH1 3, [.seq (sub B79 pAH0)], [(7, .v (.pointer (some (Addr.mk b 5 none))))], []⟩ ?_
  refine At.ldx ((⟨b, 0, none⟩ : Addr).add 5) (.io .i64 ((Tr.node k v l r).many : Int)) (by kernel_rfl) TrF.stable (fun ρ w1 hm' hf => node_at hf fun _ _ => rfl) ?_
  refine zT TrF.stable TrF.fewer [2] 0 ⟨.exit .ret, [], [(2, .io .i64 (↑(Tr.node k v l r).many : Int))], []⟩ ?_
  refine zE (.io .i64 (↑(Tr.node k v l r).many : Int)) ?_
  intro ρ w9 hm hf
  exact ⟨rfl, hm.below⟩
noncomputable def B59 : Code := (Tryz.f59.body).getD .skip
set_option maxHeartbeats 20000000 in
set_option maxRecDepth 100000 in
theorem with1_any {ρ0 : List Nat} (k : List UInt8) (v : SlV) {pl pr : Option Addr} {l r : Tr (List UInt8) (SlV)} (w : World) (hρ : ∀ x ∈ ρ0, x < w.heap.size) (hl : TrF kw1 vw1 pl l ρ0 w) (hr : TrF kw1 vw1 pr r ρ0 w) (hn : l.many + r.many ≤ 1000000) :
  Calls Tryz.prog 59 #[.string (mkB k), .slice v.A v.n v.c, .pointer pl, .pointer pr] w fun e w' => ∃ b, e = .returned (.pointer (some ⟨b, 0, none⟩)) ∧ TrF kw1 vw1 (some ⟨b, 0, none⟩) (Tr.node k v l r) ρ0 w' ∧ Below w.heap.size w w' := by
 refine enterF (N := w.heap.size) (F := fun ρ w1 => TrF kw1 vw1 pl l (ρ0 ++ ρ) w1 ∧ TrF kw1 vw1 pr r (ρ0 ++ ρ) w1) (fn := Tryz.f59) (c := B59) [.so (mkB k), .sl v.A v.n v.c, .v (.pointer pl), .v (.pointer pr)] Tryz.func59 rfl rfl (Nat.le_refl _) (by rw [List.append_nil]; exact ⟨hl, hr⟩) ?_
 refine zT Tw.stable Tw.fewer [2, 3, 9, 10, 11, 12, 13] 0 ⟨pops B59 [1, 0] 5, [.seq (sub B59 [1, 1])], [(2, .v (.pointer pl)), (3, .v (.pointer pr)), (9, .so (mkB k)), (10, .sl v.A v.n v.c), (11, .v (.pointer pl)), (12, .v (.pointer pr)), (13, .v (.pointer pl))], []⟩ ?_
 refine zC Tw.stable 78 [.v (.pointer pl)] (.io .i64 (l.high : Int)) (fun ρ _ w1 hi hf => high1_any w1 hf.1) ?_
 refine zT Tw.stable Tw.fewer [2, 3, 9, 10, 11, 12, 14, 15] 0 ⟨pops B59 [1, 0] 7, [.seq (sub B59 [1, 1])], [(2, .v (.pointer pl)), (3, .v (.pointer pr)), (9, .so (mkB k)), (10, .sl v.A v.n v.c), (11, .v (.pointer pl)), (12, .v (.pointer pr)), (14, .io .i64 (↑l.high : Int)), (15, .v (.pointer pr))], []⟩ ?_
 refine zC Tw.stable 78 [.v (.pointer pr)] (.io .i64 (r.high : Int)) (fun ρ _ w1 hi hf => high1_any w1 hf.2) ?_
 refine zT Tw.stable Tw.fewer [2, 3, 9, 10, 11, 12, 14, 16] 0 ⟨pops B59 [1, 0] 8, [.seq (sub B59 [1, 1])], [(2, .v (.pointer pl)), (3, .v (.pointer pr)), (9, .so (mkB k)), (10, .sl v.A v.n v.c), (11, .v (.pointer pl)), (12, .v (.pointer pr)), (14, .io .i64 (↑l.high : Int)), (16, .io .i64 (↑r.high : Int))], []⟩ ?_
 refine At.maxI .i64 (l.high : Int) (r.high : Int) ((max l.high r.high : Nat) : Int) (by kernel_rfl) (by split <;> omega) Tw.stable ?_
 have hw1 : IntKind.i64.wrap (((max l.high r.high : Nat) : Int) + 1) = ((max l.high r.high + 1 : Nat) : Int) := by
  have h1 := Tr.high_le l
  have h2 := Tr.high_le r
  rw [wrap63 (by omega) (by omega)]
  omega
 have hw2 : IntKind.i64.wrap ((l.many : Int) + (r.many : Int)) = ((l.many + r.many : Nat) : Int) := by
  rw [wrap63 (by omega) (by omega)]
  omega
 have hw3 : IntKind.i64.wrap (((l.many + r.many : Nat) : Int) + 1) = ((l.many + r.many + 1 : Nat) : Int) := by
  rw [wrap63 (by omega) (by omega)]
  omega
 refine zT Tw.stable Tw.fewer [3, 9, 10, 11, 12, 18, 19] 0 ⟨pops B59 [1, 0] 11, [.seq (sub B59 [1, 1])], [(3, .v (.pointer pr)), (9, .so (mkB k)), (10, .sl v.A v.n v.c), (11, .v (.pointer pl)), (12, .v (.pointer pr)), (18, .io .i64 (IntKind.i64.wrap ((↑(max l.high r.high) : Int) + 1))), (19, .v (.pointer pl))], []⟩ ?_
 refine zC Tw.stable 79 [.v (.pointer pl)] (.io .i64 (l.many : Int)) (fun ρ _ w1 hi hf => many1_any w1 hf.1) ?_
 refine zT Tw.stable Tw.fewer [9, 10, 11, 12, 18, 20, 21] 0 ⟨pops B59 [1, 0] 13, [.seq (sub B59 [1, 1])], [(9, .so (mkB k)), (10, .sl v.A v.n v.c), (11, .v (.pointer pl)), (12, .v (.pointer pr)), (18, .io .i64 (IntKind.i64.wrap ((↑(max l.high r.high) : Int) + 1))), (20, .io .i64 (↑l.many : Int)), (21, .v (.pointer pr))], []⟩ ?_
 refine zC Tw.stable 79 [.v (.pointer pr)] (.io .i64 (r.many : Int)) (fun ρ _ w1 hi hf => many1_any w1 hf.2) ?_
 refine zT Tw.stable Tw.fewer [8] 1 ⟨.exit .ret, [], [(8, .lp 0 0)], [([.so (mkB k), .sl v.A v.n v.c, .v (.pointer pl), .v (.pointer pr), .io .i64 (IntKind.i64.wrap ((↑(max l.high r.high) : Int) + 1)), .io .i64 (IntKind.i64.wrap (IntKind.i64.wrap ((↑l.many : Int) + (↑r.many : Int)) + 1))], 93)]⟩ ?_
 refine zE (.lp 0 0) ?_
 intro ρ w9 hm hf
 rw [hw1, hw2, hw3] at hm
 obtain ⟨h1, h2⟩ := box_cel hm hρ
 exact ⟨nth ρ 0, rfl, ⟨nth ρ 0, pl, pr, rfl, h1, hf.1.sub (fun x hx => List.mem_append_left _ hx), hf.2.sub (fun x hx => List.mem_append_left _ hx)⟩, hm.below⟩
theorem info163 : (Tryz.prog.info? 117).map (·.size) = some 16 := by kernel_rfl
theorem eql2_nil (b : Nat) (w : World) : (binOp .eql 97 (.pointer (some ⟨b, 0, none⟩)) (.pointer none)).run Tryz.prog w = .ok (.bool false) w := by
 obtain ⟨j, hj1, hj2⟩ := Option.map_eq_some_iff.1 info163
 exact run_eql_none ⟨b, 0, none⟩ Tryz.underlying97 hj1 w
theorem neq2_nil (b : Nat) (w : World) : (binOp .neq 97 (.pointer (some ⟨b, 0, none⟩)) (.pointer none)).run Tryz.prog w = .ok (.bool true) w := by
 obtain ⟨j, hj1, hj2⟩ := Option.map_eq_some_iff.1 info163
 exact run_neq_none ⟨b, 0, none⟩ Tryz.underlying97 hj1 w
noncomputable def B80 : Code := (Tryz.f80.body).getD .skip
set_option maxHeartbeats 20000000 in
set_option maxRecDepth 100000 in
theorem high2_any {ρ0 : List Nat} {p : Option Addr} {t : Tr (AtK) (Pn)} (w : World) (h : TrF kw2 vw2 p t ρ0 w) : Calls Tryz.prog 80 #[.pointer p] w fun e w' => e = .returned (.int .i64 (t.high : Int)) ∧ Below w.heap.size w w' := by
 cases t with
 | nil =>
  obtain rfl : p = none := h
  refine enter (fn := Tryz.f80) (c := B80) [.v (.pointer none)] Tryz.func80 rfl rfl ?_
  refine zN [2] 0 ⟨.exit .ret, [], [(2, .v (.int .i64 0))], []⟩ ?_
  refine zE (.v (.int .i64 0)) ?_
  intro ρ w9 hm hf
  exact ⟨rfl, hm.below⟩
 | node k v l r =>
  obtain ⟨b, pl, pr, rfl, hc, hl, hr⟩ := h
  have h : TrF kw2 vw2 (some ⟨b, 0, none⟩) (Tr.node k v l r) ρ0 w := ⟨b, pl, pr, rfl, hc, hl, hr⟩
  refine enterF (N := w.heap.size) (F := fun ρ w1 => TrF kw2 vw2 (some ⟨b, 0, none⟩) (Tr.node k v l r) (ρ0 ++ ρ) w1) (fn := Tryz.f80) (c := B80) [.v (.pointer (some ⟨b, 0, none⟩))] Tryz.func80 rfl rfl (Nat.le_refl _) (by rw [List.append_nil]; exact h) ?_
  refine zT TrF.stable TrF.fewer [0, 3] 0 ⟨pops B80 [1, 0, 0] 1, [.seq (sub B80 [1, 0, 1]), .seq (sub B80 [1, 1])], [(0, .v (.pointer (some (Addr.mk b 0 none)))), (3, .v (.pointer (some (Addr.mk b 0 none))))], []⟩ ?_
  refine At.pcmp .eql 97 (some ⟨b, 0, none⟩) none false (by kernel_rfl) TrF.stable (fun w1 => eql2_nil b w1) ?_
  refine zT TrF.stable TrF.fewer [5] 0 ⟨pops B80 pAH1 1, [.seq (sub B80 pAH0)], [(5, .v (.pointer (some (Addr.mk b 0 none))))], []⟩ ?_
  refine At.nck ⟨b, 0, none⟩ (by kernel_rfl) TrF.stable ?_
  refine zT TrF.stable TrF.fewer [6] 0 ⟨pops B80 pAH1 2, [.seq (sub B80 pAH0)], [(6, .v (.pointer (some (Addr.mk b 0 none))))], []⟩ ?_
  refine At.fax ⟨b, 0, none⟩ 14 (by kernel_rfl) TrF.stable ?_
  refine zT TrF.stable TrF.fewer [7] 0 ⟨pops B80 pAH1 3, [.seq (sub B80 pAH0)], [(7, .v (.pointer (some (Addr.mk b 14 none))))], []⟩ ?_
  refine At.ldx ((⟨b, 0, none⟩ : Addr).add 14) (.io .i64 ((Tr.node k v l r).high : Int)) (by kernel_rfl) TrF.stable (fun ρ w1 hm' hf => node_at hf fun _ _ => rfl) ?_
  refine zT TrF.stable TrF.fewer [2] 0 ⟨.exit .ret, [], [(2, .io .i64 (↑(Tr.node k v l r).high : Int))], []⟩ ?_
  refine zE (.io .i64 (↑(Tr.node k v l r).high : Int)) ?_
  intro ρ w9 hm hf
  exact ⟨rfl, hm.below⟩
noncomputable def B81 : Code := (Tryz.f81.body).getD .skip
set_option maxHeartbeats 20000000 in
set_option maxRecDepth 100000 in
theorem many2_any {ρ0 : List Nat} {p : Option Addr} {t : Tr (AtK) (Pn)} (w : World) (h : TrF kw2 vw2 p t ρ0 w) : Calls Tryz.prog 81 #[.pointer p] w fun e w' => e = .returned (.int .i64 (t.many : Int)) ∧ Below w.heap.size w w' := by
 cases t with
 | nil =>
  obtain rfl : p = none := h
  refine enter (fn := Tryz.f81) (c := B81) [.v (.pointer none)] Tryz.func81 rfl rfl ?_
  refine zN [2] 0 ⟨.exit .ret, [], [(2, .v (.int .i64 0))], []⟩ ?_
  refine zE (.v (.int .i64 0)) ?_
  intro ρ w9 hm hf
  exact ⟨rfl, hm.below⟩
 | node k v l r =>
  obtain ⟨b, pl, pr, rfl, hc, hl, hr⟩ := h
  have h : TrF kw2 vw2 (some ⟨b, 0, none⟩) (Tr.node k v l r) ρ0 w := ⟨b, pl, pr, rfl, hc, hl, hr⟩
  refine enterF (N := w.heap.size) (F := fun ρ w1 => TrF kw2 vw2 (some ⟨b, 0, none⟩) (Tr.node k v l r) (ρ0 ++ ρ) w1) (fn := Tryz.f81) (c := B81) [.v (.pointer (some ⟨b, 0, none⟩))] Tryz.func81 rfl rfl (Nat.le_refl _) (by rw [List.append_nil]; exact h) ?_
  refine zT TrF.stable TrF.fewer [0, 3] 0 ⟨pops B81 [1, 0, 0] 1, [.seq (sub B81 [1, 0, 1]), .seq (sub B81 [1, 1])], [(0, .v (.pointer (some (Addr.mk b 0 none)))), (3, .v (.pointer (some (Addr.mk b 0 none))))], []⟩ ?_
  refine At.pcmp .eql 97 (some ⟨b, 0, none⟩) none false (by kernel_rfl) TrF.stable (fun w1 => eql2_nil b w1) ?_
  refine zT TrF.stable TrF.fewer [5] 0 ⟨pops B81 pAH1 1, [.seq (sub B81 pAH0)], [(5, .v (.pointer (some (Addr.mk b 0 none))))], []⟩ ?_
  refine At.nck ⟨b, 0, none⟩ (by kernel_rfl) TrF.stable ?_
  refine zT TrF.stable TrF.fewer [6] 0 ⟨pops B81 pAH1 2, [.seq (sub B81 pAH0)], [(6, .v (.pointer (some (Addr.mk b 0 none))))], []⟩ ?_
  refine At.fax ⟨b, 0, none⟩ 15 (by kernel_rfl) TrF.stable ?_
  refine zT TrF.stable TrF.fewer [7] 0 ⟨pops B81 pAH1 3, [.seq (sub B81 pAH0)], [(7, .v (.pointer (some (Addr.mk b 15 none))))], []⟩ ?_
  refine At.ldx ((⟨b, 0, none⟩ : Addr).add 15) (.io .i64 ((Tr.node k v l r).many : Int)) (by kernel_rfl) TrF.stable (fun ρ w1 hm' hf => node_at hf fun _ _ => rfl) ?_
  refine zT TrF.stable TrF.fewer [2] 0 ⟨.exit .ret, [], [(2, .io .i64 (↑(Tr.node k v l r).many : Int))], []⟩ ?_
  refine zE (.io .i64 (↑(Tr.node k v l r).many : Int)) ?_
  intro ρ w9 hm hf
  exact ⟨rfl, hm.below⟩
noncomputable def B62 : Code := (Tryz.f62.body).getD .skip
set_option maxHeartbeats 20000000 in
set_option maxRecDepth 100000 in
theorem with2_any {ρ0 : List Nat} (k : AtK) (v : Pn) {pl pr : Option Addr} {l r : Tr (AtK) (Pn)} (w : World) (hρ : ∀ x ∈ ρ0, x < w.heap.size) (hl : TrF kw2 vw2 pl l ρ0 w) (hr : TrF kw2 vw2 pr r ρ0 w) (hn : l.many + r.many ≤ 1000000) :
  Calls Tryz.prog 62 #[.agg #[.string (mkB k.key), .int .i64 k.st, .int .i64 k.en], v.val, .pointer pl, .pointer pr] w fun e w' => ∃ b, e = .returned (.pointer (some ⟨b, 0, none⟩)) ∧ TrF kw2 vw2 (some ⟨b, 0, none⟩) (Tr.node k v l r) ρ0 w' ∧ Below w.heap.size w w' := by
 refine enterF (N := w.heap.size) (F := fun ρ w1 => TrF kw2 vw2 pl l (ρ0 ++ ρ) w1 ∧ TrF kw2 vw2 pr r (ρ0 ++ ρ) w1) (fn := Tryz.f62) (c := B62) [.agg [.so (mkB k.key), .io .i64 k.st, .io .i64 k.en], .agg [.so (mkB v.key), .io .i64 v.st, .io .i64 v.en, .io .i64 v.kd, .io .i64 v.nt, .io .i64 v.ct, .io .i64 v.sm, .io .i64 v.mn, .io .i64 v.mx], .v (.pointer pl), .v (.pointer pr)] Tryz.func62 rfl rfl (Nat.le_refl _) (by rw [List.append_nil]; exact ⟨hl, hr⟩) ?_
 refine zT Tw.stable Tw.fewer [2, 3, 9, 10, 11, 12, 13] 0 ⟨.qops (opsOf (sub B62 [1, 0])) (((opsOf (sub B62 [1, 0])).toList.take 17).drop 5), [.tail (opsOf (sub B62 [1, 0])) ((opsOf (sub B62 [1, 0])).toList.drop 17), .seq (sub B62 [1, 1])], [(2, .v (.pointer pl)), (3, .v (.pointer pr)), (9, .agg [.so (mkB k.key), .io .i64 k.st, .io .i64 k.en]), (10, .agg [.so (mkB v.key), .io .i64 v.st, .io .i64 v.en, .io .i64 v.kd, .io .i64 v.nt, .io .i64 v.ct, .io .i64 v.sm, .io .i64 v.mn, .io .i64 v.mx]), (11, .v (.pointer pl)), (12, .v (.pointer pr)), (13, .v (.pointer pl))], []⟩ ?_
 refine zC Tw.stable 80 [.v (.pointer pl)] (.io .i64 (l.high : Int)) (fun ρ _ w1 hi hf => high2_any w1 hf.1) ?_
 refine zT Tw.stable Tw.fewer [2, 3, 9, 10, 11, 12, 14, 15] 0 ⟨.qops (opsOf (sub B62 [1, 0])) (((opsOf (sub B62 [1, 0])).toList.take 17).drop 7), [.tail (opsOf (sub B62 [1, 0])) ((opsOf (sub B62 [1, 0])).toList.drop 17), .seq (sub B62 [1, 1])], [(2, .v (.pointer pl)), (3, .v (.pointer pr)), (9, .agg [.so (mkB k.key), .io .i64 k.st, .io .i64 k.en]), (10, .agg [.so (mkB v.key), .io .i64 v.st, .io .i64 v.en, .io .i64 v.kd, .io .i64 v.nt, .io .i64 v.ct, .io .i64 v.sm, .io .i64 v.mn, .io .i64 v.mx]), (11, .v (.pointer pl)), (12, .v (.pointer pr)), (14, .io .i64 (↑l.high : Int)), (15, .v (.pointer pr))], []⟩ ?_
 refine zC Tw.stable 80 [.v (.pointer pr)] (.io .i64 (r.high : Int)) (fun ρ _ w1 hi hf => high2_any w1 hf.2) ?_
 refine zT Tw.stable Tw.fewer [2, 3, 9, 10, 11, 12, 14, 16] 0 ⟨.qops (opsOf (sub B62 [1, 0])) (((opsOf (sub B62 [1, 0])).toList.take 17).drop 8), [.tail (opsOf (sub B62 [1, 0])) ((opsOf (sub B62 [1, 0])).toList.drop 17), .seq (sub B62 [1, 1])], [(2, .v (.pointer pl)), (3, .v (.pointer pr)), (9, .agg [.so (mkB k.key), .io .i64 k.st, .io .i64 k.en]), (10, .agg [.so (mkB v.key), .io .i64 v.st, .io .i64 v.en, .io .i64 v.kd, .io .i64 v.nt, .io .i64 v.ct, .io .i64 v.sm, .io .i64 v.mn, .io .i64 v.mx]), (11, .v (.pointer pl)), (12, .v (.pointer pr)), (14, .io .i64 (↑l.high : Int)), (16, .io .i64 (↑r.high : Int))], []⟩ ?_
 refine At.maxI .i64 (l.high : Int) (r.high : Int) ((max l.high r.high : Nat) : Int) (by kernel_rfl) (by split <;> omega) Tw.stable ?_
 have hw1 : IntKind.i64.wrap (((max l.high r.high : Nat) : Int) + 1) = ((max l.high r.high + 1 : Nat) : Int) := by
  have h1 := Tr.high_le l
  have h2 := Tr.high_le r
  rw [wrap63 (by omega) (by omega)]
  omega
 have hw2 : IntKind.i64.wrap ((l.many : Int) + (r.many : Int)) = ((l.many + r.many : Nat) : Int) := by
  rw [wrap63 (by omega) (by omega)]
  omega
 have hw3 : IntKind.i64.wrap (((l.many + r.many : Nat) : Int) + 1) = ((l.many + r.many + 1 : Nat) : Int) := by
  rw [wrap63 (by omega) (by omega)]
  omega
 refine zT Tw.stable Tw.fewer [3, 9, 10, 11, 12, 18, 19] 0 ⟨.qops (opsOf (sub B62 [1, 0])) (((opsOf (sub B62 [1, 0])).toList.take 17).drop 11), [.tail (opsOf (sub B62 [1, 0])) ((opsOf (sub B62 [1, 0])).toList.drop 17), .seq (sub B62 [1, 1])], [(3, .v (.pointer pr)), (9, .agg [.so (mkB k.key), .io .i64 k.st, .io .i64 k.en]), (10, .agg [.so (mkB v.key), .io .i64 v.st, .io .i64 v.en, .io .i64 v.kd, .io .i64 v.nt, .io .i64 v.ct, .io .i64 v.sm, .io .i64 v.mn, .io .i64 v.mx]), (11, .v (.pointer pl)), (12, .v (.pointer pr)), (18, .io .i64 (IntKind.i64.wrap ((↑(max l.high r.high) : Int) + 1))), (19, .v (.pointer pl))], []⟩ ?_
 refine zC Tw.stable 81 [.v (.pointer pl)] (.io .i64 (l.many : Int)) (fun ρ _ w1 hi hf => many2_any w1 hf.1) ?_
 refine zT Tw.stable Tw.fewer [9, 10, 11, 12, 18, 20, 21] 0 ⟨.qops (opsOf (sub B62 [1, 0])) (((opsOf (sub B62 [1, 0])).toList.take 17).drop 13), [.tail (opsOf (sub B62 [1, 0])) ((opsOf (sub B62 [1, 0])).toList.drop 17), .seq (sub B62 [1, 1])], [(9, .agg [.so (mkB k.key), .io .i64 k.st, .io .i64 k.en]), (10, .agg [.so (mkB v.key), .io .i64 v.st, .io .i64 v.en, .io .i64 v.kd, .io .i64 v.nt, .io .i64 v.ct, .io .i64 v.sm, .io .i64 v.mn, .io .i64 v.mx]), (11, .v (.pointer pl)), (12, .v (.pointer pr)), (18, .io .i64 (IntKind.i64.wrap ((↑(max l.high r.high) : Int) + 1))), (20, .io .i64 (↑l.many : Int)), (21, .v (.pointer pr))], []⟩ ?_
 refine zC Tw.stable 81 [.v (.pointer pr)] (.io .i64 (r.many : Int)) (fun ρ _ w1 hi hf => many2_any w1 hf.2) ?_
 refine zT Tw.stable Tw.fewer [8] 1 ⟨.exit .ret, [], [(8, .lp 0 0)], [([.so (mkB k.key), .io .i64 k.st, .io .i64 k.en, .so (mkB v.key), .io .i64 v.st, .io .i64 v.en, .io .i64 v.kd, .io .i64 v.nt, .io .i64 v.ct, .io .i64 v.sm, .io .i64 v.mn, .io .i64 v.mx, .v (.pointer pl), .v (.pointer pr), .io .i64 (IntKind.i64.wrap ((↑(max l.high r.high) : Int) + 1)), .io .i64 (IntKind.i64.wrap (IntKind.i64.wrap ((↑l.many : Int) + (↑r.many : Int)) + 1))], 117)]⟩ ?_
 refine zE (.lp 0 0) ?_
 intro ρ w9 hm hf
 rw [hw1, hw2, hw3] at hm
 obtain ⟨h1, h2⟩ := box_cel hm hρ
 exact ⟨nth ρ 0, rfl, ⟨nth ρ 0, pl, pr, rfl, h1, hf.1.sub (fun x hx => List.mem_append_left _ hx), hf.2.sub (fun x hx => List.mem_append_left _ hx)⟩, hm.below⟩
end Go.Proofs.YtkjnbafdmjakgaaGreatDoor
end
section
/- Facts on several trees and nodes; steps of a drawn region that look at nodes. -/
namespace Go.Sx
open Go.RowKit
section
variable {P : Program} {Q : Exit → Act → World → Prop} {N : Nat} {w0 : World} {ntm : Nat} {F : List Nat → World → Prop}
def nckS (fr : Fr) (o : Oper) : Option Addr := match o.op with
 | .nilCheck x => match evalS fr x with
  | some (.v (.pointer (some a))) => some a
  | _ => none
 | _ => none
theorem run_nckS {ρ : List Nat} {fr : Fr} {act : Act} (ha : AInv ntm ρ fr act) {o : Oper} {a : Addr} (h : nckS fr o = some a) (w : World) : (execOp act.eval o).run P w = .ok (.value (.pointer (some a))) w := by
 obtain ⟨dst, op, ty, pos, after, guard⟩ := o
 unfold nckS at h
 simp only at h
 split at h
 ·split at h
  ·rename_i x a' hx
   simp only [Option.some.injEq] at h
   subst h
   simp [execOp, evalS_sound ha hx, SV.den]
  cases h
 cases h
theorem StepK.nck {all : Array Oper} {L0 : Array Bool} {kn : List (Nat × Kn)} {fr0 : Fr} {loc : Loc} {k : Nat} (a : Addr) (hq : ((atK all L0 kn fr0 k).bind fun x => nckS x.2 x.1) = some a) (hk : knOf kn k = some (.eq (.v (.pointer (some a))))) : StepK P N w0 ntm F all L0 kn fr0 loc k := by
 obtain ⟨⟨o, fr⟩, ho, hq⟩ := Option.bind_eq_some_iff.1 hq
 exact StepK.run ho hk fun ρ act w ha hw hf => run_nckS ha hq w
theorem StepK.fax {all : Array Oper} {L0 : Array Bool} {kn : List (Nat × Kn)} {fr0 : Fr} {loc : Loc} {k : Nat} (a : Addr) (off : Nat) (hq : ((atK all L0 kn fr0 k).bind fun x => faxQ P x.2 x.1) = some (a, off)) (hk : knOf kn k = some (.eq (.v (.pointer (some (a.add off)))))) : StepK P N w0 ntm F all L0 kn fr0 loc k := by
 obtain ⟨⟨o, fr⟩, ho, hq⟩ := Option.bind_eq_some_iff.1 hq
 exact StepK.run ho hk fun ρ act w ha hw hf => run_faxQ ha hq w
theorem StepK.lda {all : Array Oper} {L0 : Array Bool} {kn : List (Nat × Kn)} {fr0 : Fr} {loc : Loc} {k : Nat} (a : Addr) (n : Nat) (l : List SV) (hq : ((atK all L0 kn fr0 k).bind fun x => ldaQ P x.2 x.1) = some (a, n)) (hk : knOf kn k = some (.eq (.agg l))) (hn : l.length = n) (hc : ∀ ρ w, WInv N w0 ρ loc w → F ρ w → ∀ (j : Nat) (v : Value), (SV.denL ρ l)[j]? = some v → w.cell? (a.add j) = some v) : StepK P N w0 ntm F all L0 kn fr0 loc k := by
 subst hn
 obtain ⟨⟨o, fr⟩, ho, hq⟩ := Option.bind_eq_some_iff.1 hq
 refine StepK.run ho hk fun ρ act w ha hw hf => ?_
 have hl : (SV.denL ρ l).length = l.length := by simp [SV.denL_eq]
 have hr' := run_ldaQ ha (cs := SV.denL ρ l) (hl.symm ▸ hq) (hc ρ w hw hf)
 rw [hr']
 simp [SV.den]
variable [Md]
theorem At.ex {X : Type} {G : X → List Nat → World → Prop} {s : S} (h : ∀ x, At P Q N w0 ntm (G x) s) : At P Q N w0 ntm (fun ρ w => ∃ x, G x ρ w) s := fun ρ a w hi ⟨x, hx⟩ => h x ρ a w hi hx
end
end Go.Sx
namespace Go.Proofs.YtkjnbafdmjakgaaGreatDoor
open Go.RowKit Go.Sx
section
variable {κ ν : Type} {kw : κ → List Value} {vw : ν → List Value}
inductive Fc (κ ν : Type) where
 | tr (p : Option Addr) (t : Tr κ ν)
 | cel (b : Nat) (ys : List Value)
def Fc.holds (kw : κ → List Value) (vw : ν → List Value) : Fc κ ν → List Nat → World → Prop
 | .tr p t, ρ, w => TrF kw vw p t ρ w
 | .cel b ys, ρ, w => Cel ⟨b, 0, none⟩ ys ρ w
def FcF (kw : κ → List Value) (vw : ν → List Value) (ρ0 : List Nat) (L : List (Fc κ ν)) (ρ : List Nat) (w : World) : Prop := ∀ f ∈ L, f.holds kw vw (ρ0 ++ ρ) w
theorem FcF.stable {ρ0 : List Nat} {L : List (Fc κ ν)} : Stable (FcF kw vw ρ0 L) := fun ρ w ρ' w' hg hk h f hf => by
 cases f with
 | tr p t => exact TrF.stable ρ w ρ' w' hg hk (h _ hf)
 | cel b ys =>
  obtain ⟨h5, h6⟩ := Cel.app.1 (h _ hf)
  exact Cel.app.2 ⟨Cel.stable ρ w ρ' w' hg hk h5, h6⟩
theorem FcF.fewer {ρ0 : List Nat} {L : List (Fc κ ν)} : FewerK 0 (FcF kw vw ρ0 L) := fun ρ w k hk h f hf => by
 cases f with
 | tr p t => exact TrF.fewer ρ w k hk (h _ hf)
 | cel b ys =>
  obtain ⟨h5, h6⟩ := Cel.app.1 (h _ hf)
  exact Cel.app.2 ⟨Cel.fewer ρ w k hk h5, h6⟩
theorem FcF.cell {ρ0 : List Nat} {L : List (Fc κ ν)} {ρ : List Nat} {w : World} (h : FcF kw vw ρ0 L ρ w) {b : Nat} {ys : List Value} (hm : Fc.cel b ys ∈ L) {j : Nat} {u : Value} (hj : ys[j]? = some u) : w.cell? ((⟨b, 0, none⟩ : Addr).add j) = some u := (h _ hm).1 j u hj
theorem FcF.tree {ρ0 : List Nat} {L : List (Fc κ ν)} {ρ : List Nat} {w : World} (h : FcF kw vw ρ0 L ρ w) {p : Option Addr} {t : Tr κ ν} (hm : Fc.tr p t ∈ L) : TrF kw vw p t (ρ0 ++ ρ) w := h _ hm
theorem FcF.apart {ρ0 : List Nat} {L : List (Fc κ ν)} {ρ : List Nat} {w : World} {p : Option Addr} {k : κ} {v : ν} {l r : Tr κ ν} (h : FcF kw vw ρ0 (.tr p (.node k v l r) :: L) ρ w) :
  ∃ x : Nat × Option Addr × Option Addr, p = some ⟨x.1, 0, none⟩ ∧ FcF kw vw ρ0 (.cel x.1 (nodeW kw vw k v x.2.1 x.2.2 (Tr.node k v l r).high (Tr.node k v l r).many) :: .tr x.2.1 l :: .tr x.2.2 r :: L) ρ w := by
 obtain ⟨b, pl, pr, h1, h2, h3, h4⟩ := h _ (List.mem_cons_self ..)
 refine ⟨(b, pl, pr), h1, fun f hf => ?_⟩
 rcases List.mem_cons.1 hf with rfl | hf
 ·exact h2
 rcases List.mem_cons.1 hf with rfl | hf
 ·exact h3
 rcases List.mem_cons.1 hf with rfl | hf
 ·exact h4
 exact h _ (List.mem_cons_of_mem _ hf)
theorem low_all {N : Nat} {w0 w : World} {ρ ρ0 : List Nat} {loc : Sx.Loc} (hm : WInv N w0 ρ loc w) (hρ : ∀ x ∈ ρ0, x < w0.heap.size) (hN : N = w0.heap.size) : ∀ x ∈ ρ0 ++ ρ, x < w.heap.size := fun x hx => by
 rcases List.mem_append.1 hx with hx | hx
 ·have h1 := hρ x hx
  have h2 := hm.below.size
  omega
 exact (hm.ge x hx).2
end
end Go.Proofs.YtkjnbafdmjakgaaGreatDoor
end
