/- Joined texts: YF, YG, YH, YI. -/
import Derived.Test.YtkjnbafdmjakgaaGreatDoorVAP
set_option linter.unusedSimpArgs false
set_option linter.unusedVariables false
namespace Go.Sx
open Go
def pAQ0 : List Nat := [1, 1, 0, 1, 4, 4, 1, 0, 4, 1, 1, 1, 1, 0, 4, 4, 0, 1]
def pAQ1 : List Nat := [1, 1, 0, 1, 4, 4, 1, 0, 4, 1, 1, 1, 1, 0, 4, 4, 1]
def pAQ2 : List Nat := [1, 1, 0, 1, 4, 4, 1, 0, 4, 1, 1, 1, 1, 1, 1, 1, 0]
def pAQ3 : List Nat := [1, 1, 0, 1, 4, 4, 1, 0, 4, 1, 1, 1, 1, 1, 1, 1, 1]
def pAQ4 : List Nat := [1, 1, 0, 1, 4, 4, 1, 0, 4, 1, 0, 1, 4, 4, 1, 1]
def pAQ5 : List Nat := [1, 1, 0, 1, 4, 4, 1, 0, 4, 1, 1, 1, 1, 1, 1, 0]
def pAQ6 : List Nat := [1, 1, 0, 1, 4, 4, 1, 0, 4, 1, 1, 1, 1, 1, 1, 1]
def pAQ7 : List Nat := [1, 1, 0, 1, 4, 4, 1, 0, 4, 1, 1, 1, 1, 1]
def pAQ8 : List Nat := [1, 1, 0, 1, 4, 4, 1, 0, 4, 1, 1, 1]
def pAQ9 : List Nat := [1, 1, 0, 1, 4, 4, 1, 0, 4, 1, 1]
def pAQ10 : List Nat := [1, 1, 0, 1, 4, 4, 1, 0, 4, 1, 0]
def pAQ11 : List Nat := [1, 1, 0, 1, 4, 4, 1, 0, 4, 0]
def pAQ12 : List Nat := [1, 1, 0, 1, 4, 4, 1, 0, 4, 1]
def pAQ13 : List Nat := [1, 1, 0, 1, 4, 4, 0, 1]
def pAQ14 : List Nat := [1, 1, 0, 1, 4, 4, 1, 1]
def pAQ15 : List Nat := [1, 1, 1]
end Go.Sx
section
namespace Go.Proofs.YtkjnbafdmjakgaaGreatDoor
open Go.RowKit Go.Sx
theorem pv_append (a b : List Pn) : pv (a ++ b) = pv a ++ pv b := by simp [pv]
theorem pv_cons (p : Pn) (b : List Pn) : pv (p :: b) = p.cells ++ pv b := by simp [pv]
theorem pv_drop : ∀ (ps : List Pn) (k : Nat), pv (ps.drop k) = (pv ps).drop (k * 9)
 | ps, 0 => by simp
 | [], k + 1 => by simp [pv]
 | p :: ps, k + 1 => by
  rw [List.drop_succ_cons, pv_drop ps k, pv_cons, show (k + 1) * 9 = p.cells.length + k * 9 by rw [cells_len]; omega, List.drop_append]
  simp [cells_len]
theorem subA_none9 {A : Option Addr} {n c k : Nat} (hA : 0 < n → ∃ a, A = some a) (hnc : n ≤ c) (h : subA A c k 9 = none) : n - k = 0 := by
 unfold subA at h
 split at h
 ·omega
 rcases Nat.eq_zero_or_pos n with h0 | h0
 ·omega
 obtain ⟨a, rfl⟩ := hA h0
 cases h
theorem subA_src9 {A : Option Addr} {n c k : Nat} {ps : List Pn} {b : Addr} {w : World} (hA : A = none ∨ ∃ g, A = some ⟨g, 0, none⟩) (hb : subA A c k 9 = some b) (hs : ∀ a, A = some a → Src w a (pv ps)) (hn : n = ps.length) (hnc : n ≤ c) : Src w b (pv (ps.drop k)) := by
 unfold subA at hb
 split at hb
 ·rename_i h
  rw [List.drop_eq_nil_of_le (by omega)]
  intro j u hj
  cases hj
 rcases hA with rfl | ⟨g, rfl⟩
 ·cases hb
 injection hb with hb
 subst hb
 intro j u hj
 rw [add_add]
 refine hs _ rfl _ _ ?_
 rw [pv_drop] at hj
 rwa [← List.getElem?_drop]
theorem insL_at {κ ν : Type} {cmp : κ → κ → Int} (ho : Lin cmp) {k : κ} {v : ν} : ∀ (M : List (κ × ν)) (j : Nat), j ≤ M.length → (∀ x ∈ M, x.1 ≠ k) → (∀ i x, i < j → M[i]? = some x → cmp x.1 k < 0) → (∀ x, M[j]? = some x → ¬ cmp x.1 k < 0) → insL cmp k v M = M.take j ++ (k, v) :: M.drop j
 | [], j, hj, h0, h1, h2 => by
  have : j = 0 := by simpa using hj
  subst this
  rfl
 | (a, b) :: M, 0, hj, h0, h1, h2 => by
  have h3 := h2 _ rfl
  have e1 := ho.eq k a
  have e2 := ho.anti a k
  have e3 := ho.anti k a
  have e4 : cmp k a ≠ 0 := fun e => h0 _ (List.mem_cons_self ..) (e1.1 e).symm
  simp only at h3
  rw [insL, if_pos (by omega)]
  rfl
 | (a, b) :: M, j + 1, hj, h0, h1, h2 => by
  have h3 := h1 0 _ (by omega) rfl
  have e2 := ho.anti a k
  have e3 := ho.anti k a
  simp only at h3
  rw [insL, if_neg (by omega), if_pos (by omega), insL_at ho M j (by simpa using hj) (fun x hx => h0 x (List.mem_cons_of_mem _ hx)) (fun i x hi hx => h1 (i + 1) x (by omega) (by simpa using hx)) (fun x hx => h2 x (by simpa using hx))]
  rfl
theorem rlast_drop {ls : List Pn} {i : Nat} {p : Pn} (M : List (AtK × Pn)) (h : ls[i]? = some p) : rlastM (ls.drop i) M = bif (ls.drop (i + 1)).any (fun q => decide (atOf q = atOf p)) then rlastM (ls.drop (i + 1)) M else rlastM (ls.drop (i + 1)) (insL cmp2 (atOf p) p M) := by
 rw [drop_at h]
 rfl
theorem take_any {ls : List Pn} {i k : Nat} {x : Pn} (a : AtK) (hx : ls[k]? = some x) (hk : i + 1 ≤ k) : (((ls.drop (i + 1)).take (k + 1 - (i + 1))).any fun q => decide (atOf q = a)) = (((ls.drop (i + 1)).take (k - (i + 1))).any (fun q => decide (atOf q = a)) || decide (atOf x = a)) := by
 rw [show k + 1 - (i + 1) = (k - (i + 1)) + 1 by omega, List.take_add_one, List.any_append, List.getElem?_drop, show i + 1 + (k - (i + 1)) = k by omega, hx]
 simp
theorem at_eq {x p : Pn} (h1 : ((mkB x.key).toList == (mkB p.key).toList) = true) (h2 : (x.st == p.st && (x.en == p.en && true)) = true) : decide (atOf x = atOf p) = true := by
 rw [str_beq] at h1
 have h1 := of_decide_eq_true h1
 simp only [Bool.and_true, Bool.and_eq_true, beq_iff_eq] at h2
 exact decide_eq_true (by simp only [atOf, h1, h2.1, h2.2])
theorem at_ne1 {x p : Pn} (h1 : ((mkB x.key).toList == (mkB p.key).toList) = false) : decide (atOf x = atOf p) = false := by
 rw [str_beq] at h1
 have h1 := of_decide_eq_false h1
 exact decide_eq_false fun h => h1 (by simp only [atOf, AtK.mk.injEq] at h; exact h.1)
theorem at_ne2 {x p : Pn} (h2 : (x.st == p.st && (x.en == p.en && true)) = false) : decide (atOf x = atOf p) = false := by
 refine decide_eq_false fun h => ?_
 simp only [atOf, AtK.mk.injEq] at h
 rw [h.2.1, h.2.2] at h2
 simp at h2
theorem at_key {x p : Pn} (h1 : ((mkB x.key).toList == (mkB p.key).toList) = true) : decide (atOf x = atOf p) = (x.st == p.st && (x.en == p.en && true)) := by
 cases h2 : (x.st == p.st && (x.en == p.en && true)) with
 | true => exact at_eq h1 h2
 | false => exact at_ne2 h2
theorem span_at {p : Pn} {ρ : List Nat} {j : Nat} {u : Value} (hj : (SV.denL ρ [.io .i64 p.st, .io .i64 p.en])[j]? = some u) : p.cells[1 + j]? = some u := by
 have h1 := (List.getElem?_eq_some_iff.1 hj).1
 rw [show (SV.denL ρ [.io .i64 p.st, .io .i64 p.en]).length = 2 from rfl] at h1
 have : j = 0 ∨ j = 1 := by omega
 rcases this with rfl | rfl <;> exact hj
structure RLY where
 i : Nat
 A : Option Addr
 n : Nat
 c : Nat
 M : List (AtK × Pn)
def frRLY (Al : Option Addr) (nl cl : Nat) : RLY → Fr
 | ⟨i, A, n, c, M⟩ => [(0, .sl Al nl cl), (3, .sl A n c), (4, .io .i64 (i : Int))]
def locRLY (_ : RLY) : Sx.Loc := []
def GRLY (w0 : World) (ls : List Pn) : RLY → List Nat → World → Prop
 | ⟨i, A, n, c, M⟩, ρ, w => Rws w0.heap.size [⟨40, 9, A, n, c, pv (M.map (·.2))⟩] ρ w ∧ (i ≤ ls.length ∧ n = M.length ∧ n ≤ i ∧ rlastM (ls.drop i) M = lastM ls ∧ (∀ x ∈ M, x.1 = atOf x.2) ∧ (∀ x ∈ M, ∀ q ∈ ls.drop i, atOf q ≠ x.1))
structure RLL where
 k : Nat
 b : Bool
def frRLL (al : Addr) (nl cl : Nat) (A : Option Addr) (n c i : Nat) : RLL → Fr
 | ⟨k, b⟩ => [(0, .sl (some al) nl cl), (3, .sl A n c), (4, .io .i64 (i : Int)), (5, .bo b), (6, .io .i64 (k : Int))]
def locRLL (_ : RLL) : Sx.Loc := []
def GRLL (w0 : World) (ls : List Pn) (A : Option Addr) (n c : Nat) (M : List (AtK × Pn)) (p : Pn) (i : Nat) : RLL → List Nat → World → Prop
 | ⟨k, b⟩, ρ, w => Rws w0.heap.size [⟨40, 9, A, n, c, pv (M.map (·.2))⟩] ρ w ∧ (i + 1 ≤ k ∧ k ≤ ls.length ∧ b = ((ls.drop (i + 1)).take (k - (i + 1))).any fun q => decide (atOf q = atOf p))
def frRLK (al : Addr) (nl cl : Nat) (A : Option Addr) (n c i : Nat) (j : Nat) : Fr := [(0, .sl (some al) nl cl), (3, .sl A n c), (4, .io .i64 (i : Int)), (7, .io .i64 (j : Int))]
def locRLK (_ : Nat) : Sx.Loc := []
def GRLK (w0 : World) (A : Option Addr) (n c : Nat) (M : List (AtK × Pn)) (p : Pn) (j : Nat) (ρ : List Nat) (w : World) : Prop :=
 Rws w0.heap.size [⟨40, 9, A, n, c, pv (M.map (·.2))⟩] ρ w ∧ (j ≤ n ∧ ∀ q x, q < j → M[q]? = some x → cmp2 x.1 (atOf p) < 0)
noncomputable def B10 : Code := (Tryz.f10.body).getD .skip
set_option maxHeartbeats 20000000 in
set_option maxRecDepth 100000 in
theorem rlast_any {Al : Option Addr} {nl cl : Nat} {ls : List Pn} (w : World) (hl : SlP w Al nl ls) (hbig : nl ≤ 200) :
  Calls Tryz.prog 10 #[.slice Al nl cl] w fun e w' => ∃ A c, e = .returned (.slice A (lastM ls).length c) ∧ RowF w (fun _ => False) [] w.heap.size 40 9 A (lastM ls).length c (pv ((lastM ls).map (·.2))) [] w' := by
 have hnl := hl.1
 refine enter (fn := Tryz.f10) (c := B10) [.sl Al nl cl] Tryz.func10 rfl rfl ?_
 refine zN [0, 3, 4] 0 ⟨.code (sub B10 [1, 1, 0, 1, 4]), [.block 0, .seq (sub B10 pAQ15)], [(0, .sl Al nl cl), (3, .v (.slice none 0 0)), (4, .v (.int .i64 0))], []⟩ ?_
 refine At.canon _ rfl ?_
 refine At.slFr _ rfl ?_
 refine At.loop (σ := RLY) (sub B10 [1, 1, 0, 1, 4, 4]) (frRLY Al nl cl) locRLY (GRLY w ls) (fun x => nl - x.i) ⟨0, none, 0, 0, []⟩ (by kernel_rfl) (by unfold subFr; kernel_rfl) (by kernel_rfl) (fun _ _ _ _ h => ⟨Rws.nil (Rws.none _ _ _) 40 9, Nat.zero_le _, rfl, Nat.le_refl _, rlast_alike ls, fun x hx => absurd hx List.not_mem_nil, fun x hx => absurd hx List.not_mem_nil⟩) ?_
 rintro ⟨i, A, n, c, M⟩
 refine At.pure fun ⟨h1, h2, h3, h4, h5, h6⟩ => ?_
 refine zTq Rws.stable Rws.fewer [0, 3, 4, 12] 0 ?_
 rcases Bool.eq_false_or_eq_true (decide ((↑i : Int) < (↑nl : Int))) with b0 | b0
 ·refine zR 12 b0 ?_
  refine zT Rws.stable Rws.fewer [0, 3, 4, 5, 6] 0 ⟨.code (sub B10 [1, 1, 0, 1, 4, 4, 1, 0, 4, 1, 0, 1, 4]), [.block 2, .seq (sub B10 pAQ9), .block 1, .seq (sub B10 pAQ14), .next (Sx.Next w.heap.size w Tryz.f10.ntmps (frRLY Al nl cl) locRLY (GRLY w ls) (fun x => nl - x.i) (RLY.mk i A n c M)), .block 0, .seq (sub B10 pAQ15)], [(0, .sl Al nl cl), (3, .sl A n c), (4, .io .i64 (↑i : Int)), (5, .v (.bool false)), (6, .io .i64 (IntKind.i64.wrap ((↑i : Int) + 1)))], []⟩ ?_
  have hi : i < nl := by have := of_decide_eq_true b0; omega
  clear b0
  obtain ⟨p, hp⟩ : ∃ p, ls[i]? = some p := ⟨_, List.getElem?_eq_getElem (by rw [hl.1]; exact hi)⟩
  obtain ⟨al, rfl⟩ := hl.some (by omega)
  have hdr := rlast_drop M hp
  rw [h4] at hdr
  refine At.know (p := A = none ∨ ∃ g, A = some ⟨g, 0, none⟩) (fun ρ w1 hf => hf.shape (List.mem_singleton.2 rfl)) fun hA => ?_
  refine At.know (p := 0 < n → ∃ a, A = some a) (fun ρ w1 hf hn => hf.some (List.mem_singleton.2 rfl) hn) fun hA2 => ?_
  refine At.know (p := n ≤ c) (fun ρ w1 hf => hf.cap (x := ⟨40, 9, A, n, c, pv (M.map (·.2))⟩) (List.mem_singleton.2 rfl)) fun hnc => ?_
  have hw3 : IntKind.i64.wrap ((i : Int) + 1) = ((i + 1 : Nat) : Int) := by
   rw [wrap63 (by omega) (by omega)]
   omega
  rw [hw3]
  refine At.canon _ rfl ?_
  refine At.slFr _ rfl ?_
  refine At.loop (σ := RLL) (sub B10 [1, 1, 0, 1, 4, 4, 1, 0, 4, 1, 0, 1, 4, 4]) (frRLL al nl cl A n c i) locRLL (GRLL w ls A n c M p i) (fun x => nl - x.k) ⟨i + 1, false⟩ (by kernel_rfl) (by unfold subFr; kernel_rfl) (by kernel_rfl) (fun _ _ _ _ h => ⟨h, Nat.le_refl _, by omega, by simp⟩) ?_
  rintro ⟨k, b⟩
  refine At.pure fun ⟨hk1, hk2, hb⟩ => ?_
  refine zTq Rws.stable Rws.fewer [0, 3, 4, 5, 6, 20] 0 ?_
  rcases Bool.eq_false_or_eq_true (decide ((↑k : Int) < (↑nl : Int))) with b0 | b0
  ·refine zR 20 b0 ?_
   let kn5 : Go.Sx.K := .next (Sx.Next w.heap.size w Tryz.f10.ntmps (frRLY (some al) nl cl) locRLY (GRLY w ls) (fun x => nl - x.i) (RLY.mk i A n c M))
   refine zT Rws.stable Rws.fewer [0, 3, 4, 6, 24] 0 ⟨pqops B10 [1, 1, 0, 1, 4, 4, 1, 0, 4, 1, 0, 1, 4, 4, 1, 0, 4] 2, [.block 3, .seq (sub B10 pAQ4), .next (Sx.Next w.heap.size w Tryz.f10.ntmps (frRLL al nl cl A n c i) locRLL (GRLL w ls A n c M p i) (fun x => nl - x.k) (RLL.mk k b)), .block 2, .seq (sub B10 pAQ9), .block 1, .seq (sub B10 pAQ14), kn5, .block 0, .seq (sub B10 pAQ15)], [(0, .sl (some al) nl cl), (3, .sl A n c), (4, .io .i64 (↑i : Int)), (6, .io .i64 (↑k : Int)), (24, .bo b)], []⟩ ?_
   rcases Bool.eq_false_or_eq_true (b) with b1 | b1
   ·refine zR 24 b1 ?_
    refine zT Rws.stable Rws.fewer [0, 3, 4, 5, 6] 0 ⟨.exit .normal, [.next (Sx.Next w.heap.size w Tryz.f10.ntmps (frRLL al nl cl A n c i) locRLL (GRLL w ls A n c M p i) (fun x => nl - x.k) (RLL.mk k b)), .block 2, .seq (sub B10 pAQ9), .block 1, .seq (sub B10 pAQ14), kn5, .block 0, .seq (sub B10 pAQ15)], [(0, .sl (some al) nl cl), (3, .sl A n c), (4, .io .i64 (↑i : Int)), (5, .v (.bool true)), (6, .io .i64 (IntKind.i64.wrap ((↑k : Int) + 1)))], []⟩ ?_
    have hkn : k < nl := by have := of_decide_eq_true b0; omega
    clear b0
    subst b1
    obtain ⟨x, hx⟩ : ∃ x, ls[k]? = some x := ⟨_, List.getElem?_eq_getElem (by rw [hl.1]; exact hkn)⟩
    have hstep := take_any (atOf p) hx hk1
    rw [← hb] at hstep
    have hw3 : IntKind.i64.wrap ((k : Int) + 1) = ((k + 1 : Nat) : Int) := by
     rw [wrap63 (by omega) (by omega)]
     omega
    rw [hw3]
    refine At.canon _ rfl ?_
    refine At.next (σ := RLL) ⟨k + 1, true⟩ rfl rfl (by unfold subFr; kernel_rfl) (by kernel_rfl) (fun ρ a' w' hi' hf => ⟨hf, by omega, by omega, (by rw [hstep]; rfl)⟩) ?_
    show nl - (k + 1) < nl - k
    omega
   refine zR 24 b1 ?_
   refine zT Rws.stable Rws.fewer [0, 3, 4, 6, 24, 25, 26] 0 ⟨pqops B10 [1, 1, 0, 1, 4, 4, 1, 0, 4, 1, 0, 1, 4, 4, 1, 0, 4] 4, [.block 3, .seq (sub B10 pAQ4), .next (Sx.Next w.heap.size w Tryz.f10.ntmps (frRLL al nl cl A n c i) locRLL (GRLL w ls A n c M p i) (fun x => nl - x.k) (RLL.mk k b)), .block 2, .seq (sub B10 pAQ9), .block 1, .seq (sub B10 pAQ14), .next (Sx.Next w.heap.size w Tryz.f10.ntmps (frRLY (some al) nl cl) locRLY (GRLY w ls) (fun x => nl - x.i) (RLY.mk i A n c M)), .block 0, .seq (sub B10 pAQ15)], [(0, .sl (some al) nl cl), (3, .sl A n c), (4, .io .i64 (↑i : Int)), (6, .io .i64 (↑k : Int)), (24, .v (.bool false)), (25, .sl (some al) nl cl), (26, .io .i64 (↑k : Int))], []⟩ ?_
   have hkn : k < nl := by have := of_decide_eq_true b0; omega
   clear b0
   subst b1
   obtain ⟨x, hx⟩ : ∃ x, ls[k]? = some x := ⟨_, List.getElem?_eq_getElem (by rw [hl.1]; exact hkn)⟩
   have hstep := take_any (atOf p) hx hk1
   rw [← hb] at hstep
   refine At.idx al nl 9 (k : Int) (by kernel_rfl) (by omega) (by omega) Rws.stable ?_
   let kn0 : Go.Sx.K := .next (Sx.Next w.heap.size w Tryz.f10.ntmps (frRLL al nl cl A n c i) locRLL (GRLL w ls A n c M p i) (fun x => nl - x.k) (RLL.mk k false))
   let kn6 : Go.Sx.K := .next (Sx.Next w.heap.size w Tryz.f10.ntmps (frRLY (some al) nl cl) locRLY (GRLY w ls) (fun x => nl - x.i) (RLY.mk i A n c M))
   refine zT Rws.stable Rws.fewer [0, 3, 4, 6, 24, 27] 0 ⟨pqops B10 [1, 1, 0, 1, 4, 4, 1, 0, 4, 1, 0, 1, 4, 4, 1, 0, 4] 5, [.block 3, .seq (sub B10 pAQ4), kn0, .block 2, .seq (sub B10 pAQ9), .block 1, .seq (sub B10 pAQ14), kn6, .block 0, .seq (sub B10 pAQ15)], [(0, .sl (some al) nl cl), (3, .sl A n c), (4, .io .i64 (↑i : Int)), (6, .io .i64 (↑k : Int)), (24, .v (.bool false)), (27, .v (.pointer (some (al.add ((↑k : Int).toNat * 9)))))], []⟩ ?_
   refine At.fax (al.add ((k : Int).toNat * 9)) 0 (by kernel_rfl) Rws.stable ?_
   refine zT Rws.stable Rws.fewer [0, 3, 4, 6, 24, 28] 0 ⟨pqops B10 [1, 1, 0, 1, 4, 4, 1, 0, 4, 1, 0, 1, 4, 4, 1, 0, 4] 6, [.block 3, .seq (sub B10 pAQ4), kn0, .block 2, .seq (sub B10 pAQ9), .block 1, .seq (sub B10 pAQ14), kn6, .block 0, .seq (sub B10 pAQ15)], [(0, .sl (some al) nl cl), (3, .sl A n c), (4, .io .i64 (↑i : Int)), (6, .io .i64 (↑k : Int)), (24, .v (.bool false)), (28, .v (.pointer (some ((al.add ((↑k : Int).toNat * 9)).add 0))))], []⟩ ?_
   refine At.ldx ((al.add ((k : Int).toNat * 9)).add 0) (.so (mkB x.key)) (by kernel_rfl) Rws.stable (fun ρ w1 hm' hf => hl.cell hm'.below hx (j := 0) rfl) ?_
   refine zT Rws.stable Rws.fewer [0, 3, 4, 6, 24, 29, 30, 31] 0 ⟨pqops B10 [1, 1, 0, 1, 4, 4, 1, 0, 4, 1, 0, 1, 4, 4, 1, 0, 4] 9, [.block 3, .seq (sub B10 pAQ4), kn0, .block 2, .seq (sub B10 pAQ9), .block 1, .seq (sub B10 pAQ14), kn6, .block 0, .seq (sub B10 pAQ15)], [(0, .sl (some al) nl cl), (3, .sl A n c), (4, .io .i64 (↑i : Int)), (6, .io .i64 (↑k : Int)), (24, .v (.bool false)), (29, .so (mkB x.key)), (30, .sl (some al) nl cl), (31, .io .i64 (↑i : Int))], []⟩ ?_
   refine At.idx al nl 9 (i : Int) (by kernel_rfl) (by omega) (by omega) Rws.stable ?_
   refine zT Rws.stable Rws.fewer [0, 3, 4, 6, 24, 29, 32] 0 ⟨pqops B10 [1, 1, 0, 1, 4, 4, 1, 0, 4, 1, 0, 1, 4, 4, 1, 0, 4] 10, [.block 3, .seq (sub B10 pAQ4), kn0, .block 2, .seq (sub B10 pAQ9), .block 1, .seq (sub B10 pAQ14), kn6, .block 0, .seq (sub B10 pAQ15)], [(0, .sl (some al) nl cl), (3, .sl A n c), (4, .io .i64 (↑i : Int)), (6, .io .i64 (↑k : Int)), (24, .v (.bool false)), (29, .so (mkB x.key)), (32, .v (.pointer (some (al.add ((↑i : Int).toNat * 9)))))], []⟩ ?_
   refine At.fax (al.add ((i : Int).toNat * 9)) 0 (by kernel_rfl) Rws.stable ?_
   refine zT Rws.stable Rws.fewer [0, 3, 4, 6, 24, 29, 33] 0 ⟨pqops B10 [1, 1, 0, 1, 4, 4, 1, 0, 4, 1, 0, 1, 4, 4, 1, 0, 4] 11, [.block 3, .seq (sub B10 pAQ4), kn0, .block 2, .seq (sub B10 pAQ9), .block 1, .seq (sub B10 pAQ14), kn6, .block 0, .seq (sub B10 pAQ15)], [(0, .sl (some al) nl cl), (3, .sl A n c), (4, .io .i64 (↑i : Int)), (6, .io .i64 (↑k : Int)), (24, .v (.bool false)), (29, .so (mkB x.key)), (33, .v (.pointer (some ((al.add ((↑i : Int).toNat * 9)).add 0))))], []⟩ ?_
   refine At.ldx ((al.add ((i : Int).toNat * 9)).add 0) (.so (mkB p.key)) (by kernel_rfl) Rws.stable (fun ρ w1 hm' hf => hl.cell hm'.below hp (j := 0) rfl) ?_
   refine zTq Rws.stable Rws.fewer [0, 3, 4, 6, 24, 35, 36] 0 ?_
   rcases Bool.eq_false_or_eq_true ((mkB x.key).toList == (mkB p.key).toList) with b0 | b0
   ·refine zR 36 b0 ?_
    let kn1 : Go.Sx.K := .next (Sx.Next w.heap.size w Tryz.f10.ntmps (frRLL al nl cl A n c i) locRLL (GRLL w ls A n c M p i) (fun x => nl - x.k) (RLL.mk k false))
    let kn7 : Go.Sx.K := .next (Sx.Next w.heap.size w Tryz.f10.ntmps (frRLY (some al) nl cl) locRLY (GRLY w ls) (fun x => nl - x.i) (RLY.mk i A n c M))
    refine zT Rws.stable Rws.fewer [0, 3, 4, 6, 24, 35, 36, 37, 38] 0 ⟨pqops B10 [1, 1, 0, 1, 4, 4, 1, 0, 4, 1, 0, 1, 4, 4, 1, 0, 4] 16, [.block 3, .seq (sub B10 pAQ4), kn1, .block 2, .seq (sub B10 pAQ9), .block 1, .seq (sub B10 pAQ14), kn7, .block 0, .seq (sub B10 pAQ15)], [(0, .sl (some al) nl cl), (3, .sl A n c), (4, .io .i64 (↑i : Int)), (6, .io .i64 (↑k : Int)), (24, .v (.bool false)), (35, .bo ((mkB x.key).toList == (mkB p.key).toList)), (36, .v (.bool true)), (37, .sl (some al) nl cl), (38, .io .i64 (↑k : Int))], []⟩ ?_
    refine At.idx al nl 9 (k : Int) (by kernel_rfl) (by omega) (by omega) Rws.stable ?_
    refine zT Rws.stable Rws.fewer [0, 3, 4, 6, 24, 35, 36, 39] 0 ⟨pqops B10 [1, 1, 0, 1, 4, 4, 1, 0, 4, 1, 0, 1, 4, 4, 1, 0, 4] 17, [.block 3, .seq (sub B10 pAQ4), kn1, .block 2, .seq (sub B10 pAQ9), .block 1, .seq (sub B10 pAQ14), kn7, .block 0, .seq (sub B10 pAQ15)], [(0, .sl (some al) nl cl), (3, .sl A n c), (4, .io .i64 (↑i : Int)), (6, .io .i64 (↑k : Int)), (24, .v (.bool false)), (35, .bo ((mkB x.key).toList == (mkB p.key).toList)), (36, .v (.bool true)), (39, .v (.pointer (some (al.add ((↑k : Int).toNat * 9)))))], []⟩ ?_
    refine At.fax (al.add ((k : Int).toNat * 9)) 1 (by kernel_rfl) Rws.stable ?_
    refine zT Rws.stable Rws.fewer [0, 3, 4, 6, 24, 35, 36, 40] 0 ⟨pqops B10 [1, 1, 0, 1, 4, 4, 1, 0, 4, 1, 0, 1, 4, 4, 1, 0, 4] 18, [.block 3, .seq (sub B10 pAQ4), kn1, .block 2, .seq (sub B10 pAQ9), .block 1, .seq (sub B10 pAQ14), kn7, .block 0, .seq (sub B10 pAQ15)], [(0, .sl (some al) nl cl), (3, .sl A n c), (4, .io .i64 (↑i : Int)), (6, .io .i64 (↑k : Int)), (24, .v (.bool false)), (35, .bo ((mkB x.key).toList == (mkB p.key).toList)), (36, .v (.bool true)), (40, .v (.pointer (some (Addr.mk (al.add ((↑k : Int).toNat * 9)).block ((al.add ((↑k : Int).toNat * 9)).off + 1) none))))], []⟩ ?_
    refine At.lda ((al.add ((k : Int).toNat * 9)).add 1) 2 [.io .i64 x.st, .io .i64 x.en] (by kernel_rfl) rfl Rws.stable (fun ρ w1 hm' hf j v hj => by rw [add_add]; exact hl.cell (ρ := ρ) hm'.below hx (span_at (ρ := ρ) hj)) ?_
    refine zT Rws.stable Rws.fewer [0, 3, 4, 6, 24, 35, 36, 41, 42, 43] 0 ⟨pqops B10 [1, 1, 0, 1, 4, 4, 1, 0, 4, 1, 0, 1, 4, 4, 1, 0, 4] 21, [.block 3, .seq (sub B10 pAQ4), kn1, .block 2, .seq (sub B10 pAQ9), .block 1, .seq (sub B10 pAQ14), kn7, .block 0, .seq (sub B10 pAQ15)], [(0, .sl (some al) nl cl), (3, .sl A n c), (4, .io .i64 (↑i : Int)), (6, .io .i64 (↑k : Int)), (24, .v (.bool false)), (35, .bo ((mkB x.key).toList == (mkB p.key).toList)), (36, .v (.bool true)), (41, .agg [.io .i64 x.st, .io .i64 x.en]), (42, .sl (some al) nl cl), (43, .io .i64 (↑i : Int))], []⟩ ?_
    refine At.idx al nl 9 (i : Int) (by kernel_rfl) (by omega) (by omega) Rws.stable ?_
    refine zT Rws.stable Rws.fewer [0, 3, 4, 6, 24, 35, 36, 41, 44] 0 ⟨pqops B10 [1, 1, 0, 1, 4, 4, 1, 0, 4, 1, 0, 1, 4, 4, 1, 0, 4] 22, [.block 3, .seq (sub B10 pAQ4), kn1, .block 2, .seq (sub B10 pAQ9), .block 1, .seq (sub B10 pAQ14), kn7, .block 0, .seq (sub B10 pAQ15)], [(0, .sl (some al) nl cl), (3, .sl A n c), (4, .io .i64 (↑i : Int)), (6, .io .i64 (↑k : Int)), (24, .v (.bool false)), (35, .bo ((mkB x.key).toList == (mkB p.key).toList)), (36, .v (.bool true)), (41, .agg [.io .i64 x.st, .io .i64 x.en]), (44, .v (.pointer (some (al.add ((↑i : Int).toNat * 9)))))], []⟩ ?_
    refine At.fax (al.add ((i : Int).toNat * 9)) 1 (by kernel_rfl) Rws.stable ?_
    refine zT Rws.stable Rws.fewer [0, 3, 4, 6, 24, 35, 36, 41, 45] 0 ⟨pqops B10 [1, 1, 0, 1, 4, 4, 1, 0, 4, 1, 0, 1, 4, 4, 1, 0, 4] 23, [.block 3, .seq (sub B10 pAQ4), kn1, .block 2, .seq (sub B10 pAQ9), .block 1, .seq (sub B10 pAQ14), kn7, .block 0, .seq (sub B10 pAQ15)], [(0, .sl (some al) nl cl), (3, .sl A n c), (4, .io .i64 (↑i : Int)), (6, .io .i64 (↑k : Int)), (24, .v (.bool false)), (35, .bo ((mkB x.key).toList == (mkB p.key).toList)), (36, .v (.bool true)), (41, .agg [.io .i64 x.st, .io .i64 x.en]), (45, .v (.pointer (some (Addr.mk (al.add ((↑i : Int).toNat * 9)).block ((al.add ((↑i : Int).toNat * 9)).off + 1) none))))], []⟩ ?_
    refine At.lda ((al.add ((i : Int).toNat * 9)).add 1) 2 [.io .i64 p.st, .io .i64 p.en] (by kernel_rfl) rfl Rws.stable (fun ρ w1 hm' hf j v hj => by rw [add_add]; exact hl.cell (ρ := ρ) hm'.below hp (span_at (ρ := ρ) hj)) ?_
    refine zT Rws.stable Rws.fewer [0, 3, 4, 5, 6, 35, 36] 0 ⟨.exit .normal, [kn1, .block 2, .seq (sub B10 pAQ9), .block 1, .seq (sub B10 pAQ14), kn7, .block 0, .seq (sub B10 pAQ15)], [(0, .sl (some al) nl cl), (3, .sl A n c), (4, .io .i64 (↑i : Int)), (5, .bo (x.st == p.st && (x.en == p.en && true))), (6, .io .i64 (IntKind.i64.wrap ((↑k : Int) + 1))), (35, .bo ((mkB x.key).toList == (mkB p.key).toList)), (36, .v (.bool true))], []⟩ ?_
    have hat : decide (atOf x = atOf p) = (x.st == p.st && (x.en == p.en && true)) := at_key b0
    have hw3 : IntKind.i64.wrap ((k : Int) + 1) = ((k + 1 : Nat) : Int) := by
     rw [wrap63 (by omega) (by omega)]
     omega
    rw [hw3]
    refine At.canon _ rfl ?_
    refine At.next (σ := RLL) ⟨k + 1, (x.st == p.st && (x.en == p.en && true))⟩ rfl rfl (by unfold subFr; kernel_rfl) (by kernel_rfl) (fun ρ a' w' hi' hf => ⟨hf, by omega, by omega, (by rw [hstep, hat]; rfl)⟩) ?_
    show nl - (k + 1) < nl - k
    omega
   refine zR 36 b0 ?_
   refine zT Rws.stable Rws.fewer [0, 3, 4, 5, 6, 35, 36] 0 ⟨.exit .normal, [.next (Sx.Next w.heap.size w Tryz.f10.ntmps (frRLL al nl cl A n c i) locRLL (GRLL w ls A n c M p i) (fun x => nl - x.k) (RLL.mk k false)), .block 2, .seq (sub B10 pAQ9), .block 1, .seq (sub B10 pAQ14), .next (Sx.Next w.heap.size w Tryz.f10.ntmps (frRLY (some al) nl cl) locRLY (GRLY w ls) (fun x => nl - x.i) (RLY.mk i A n c M)), .block 0, .seq (sub B10 pAQ15)], [(0, .sl (some al) nl cl), (3, .sl A n c), (4, .io .i64 (↑i : Int)), (5, .v (.bool false)), (6, .io .i64 (IntKind.i64.wrap ((↑k : Int) + 1))), (35, .bo ((mkB x.key).toList == (mkB p.key).toList)), (36, .v (.bool false))], []⟩ ?_
   have hat : decide (atOf x = atOf p) = false := at_ne1 b0
   have hw3 : IntKind.i64.wrap ((k : Int) + 1) = ((k + 1 : Nat) : Int) := by
    rw [wrap63 (by omega) (by omega)]
    omega
   rw [hw3]
   refine At.canon _ rfl ?_
   refine At.next (σ := RLL) ⟨k + 1, false⟩ rfl rfl (by unfold subFr; kernel_rfl) (by kernel_rfl) (fun ρ a' w' hi' hf => ⟨hf, by omega, by omega, (by rw [hstep, hat]; rfl)⟩) ?_
   show nl - (k + 1) < nl - k
   omega
  refine zR 20 b0 ?_
  let kn8 : Go.Sx.K := .next (Sx.Next w.heap.size w Tryz.f10.ntmps (frRLY (some al) nl cl) locRLY (GRLY w ls) (fun x => nl - x.i) (RLY.mk i A n c M))
  refine zT Rws.stable Rws.fewer [0, 3, 4, 5, 6, 50] 0 ⟨.code (sub B10 [1, 1, 0, 1, 4, 4, 1, 0, 4, 1, 1, 0, 1]), [.seq (sub B10 pAQ8), .block 1, .seq (sub B10 pAQ14), kn8, .block 0, .seq (sub B10 pAQ15)], [(0, .sl (some al) nl cl), (3, .sl A n c), (4, .io .i64 (↑i : Int)), (5, .bo b), (6, .io .i64 (↑k : Int)), (50, .bo b)], []⟩ ?_
  rcases Bool.eq_false_or_eq_true (b) with b2 | b2
  ·refine zR 50 b2 ?_
   refine zT Rws.stable Rws.fewer [0, 3, 4, 5, 6] 0 ⟨.exit .normal, [kn8, .block 0, .seq (sub B10 pAQ15)], [(0, .sl (some al) nl cl), (3, .sl A n c), (4, .io .i64 (IntKind.i64.wrap ((↑i : Int) + 1))), (5, .bo b), (6, .io .i64 (↑k : Int))], []⟩ ?_
   have hkn : k = nl := by have := of_decide_eq_false b0; omega
   subst hkn
   clear b0
   have hb2 : ((ls.drop (i + 1)).any fun q => decide (atOf q = atOf p)) = true := by
    rw [List.take_of_length_le (by rw [List.length_drop]; omega)] at hb
    rw [← hb]
    exact b2
   rw [hb2, cond_true] at hdr
   have hw3 : IntKind.i64.wrap ((i : Int) + 1) = ((i + 1 : Nat) : Int) := by
    rw [wrap63 (by omega) (by omega)]
    omega
   rw [hw3]
   refine At.next (σ := RLY) ⟨i + 1, A, n, c, M⟩ rfl rfl (by unfold subFr; kernel_rfl) (by kernel_rfl) (fun ρ a' w' hi' hf => ⟨hf, by omega, h2, by omega, hdr.symm, h5, fun x hx q hq => h6 x hx q (by rw [drop_at hp]; exact List.mem_cons_of_mem _ hq)⟩) ?_
   show k - (i + 1) < k - i
   omega
  refine zR 50 b2 ?_
  refine zT Rws.stable Rws.fewer [0, 3, 4, 5, 6, 7] 0 ⟨.code (sub B10 [1, 1, 0, 1, 4, 4, 1, 0, 4, 1, 1, 1, 1, 0, 4]), [.block 4, .seq (sub B10 pAQ7), .block 1, .seq (sub B10 pAQ14), kn8, .block 0, .seq (sub B10 pAQ15)], [(0, .sl (some al) nl cl), (3, .sl A n c), (4, .io .i64 (↑i : Int)), (5, .bo b), (6, .io .i64 (↑k : Int)), (7, .v (.int .i64 0))], []⟩ ?_
  have hkn : k = nl := by have := of_decide_eq_false b0; omega
  subst hkn
  clear b0
  have hb2 : ((ls.drop (i + 1)).any fun q => decide (atOf q = atOf p)) = false := by
   rw [List.take_of_length_le (by rw [List.length_drop]; omega)] at hb
   rw [← hb]
   exact b2
  clear hb
  rw [hb2, cond_false] at hdr
  have hno : ∀ q ∈ ls.drop (i + 1), atOf q ≠ atOf p := fun q hq e => by
   have := List.any_eq_false.1 hb2 q hq
   simp [e] at this
  have hne : ∀ x ∈ M, x.1 ≠ atOf p := fun x hx e => h6 x hx p (by rw [drop_at hp]; exact List.mem_cons_self ..) e.symm
  refine At.canon _ rfl ?_
  refine At.slFr _ rfl ?_
  refine At.loop (σ := Nat) (sub B10 [1, 1, 0, 1, 4, 4, 1, 0, 4, 1, 1, 1, 1, 0, 4, 4]) (frRLK al k cl A n c i) locRLK (GRLK w A n c M p) (fun j => n - j) 0 (by kernel_rfl) (by unfold subFr; kernel_rfl) (by kernel_rfl) (fun _ _ _ _ h => ⟨h, Nat.zero_le _, fun j x hj => absurd hj (Nat.not_lt_zero _)⟩) ?_
  intro j
  refine At.pure fun ⟨hj, hlow⟩ => ?_
  refine zTq Rws.stable Rws.fewer [0, 3, 4, 7, 55] 0 ?_
  rcases Bool.eq_false_or_eq_true (decide ((↑j : Int) < (↑n : Int))) with b0 | b0
  ·refine zR 55 b0 ?_
   refine zT Rws.stable Rws.fewer [0, 3, 4, 7, 55, 56, 57] 0 ⟨pqops B10 [1, 1, 0, 1, 4, 4, 1, 0, 4, 1, 1, 1, 1, 0, 4, 4, 0, 0] 7, [.seq (sub B10 pAQ0), .seq (sub B10 pAQ1), .next (Sx.Next w.heap.size w Tryz.f10.ntmps (frRLK al k cl A n c i) locRLK (GRLK w A n c M p) (fun j => n - j) j), .block 4, .seq (sub B10 pAQ7), .block 1, .seq (sub B10 pAQ14), .next (Sx.Next w.heap.size w Tryz.f10.ntmps (frRLY (some al) k cl) locRLY (GRLY w ls) (fun x => k - x.i) (RLY.mk i A n c M)), .block 0, .seq (sub B10 pAQ15)], [(0, .sl (some al) k cl), (3, .sl A n c), (4, .io .i64 (↑i : Int)), (7, .io .i64 (↑j : Int)), (55, .v (.bool true)), (56, .sl A n c), (57, .io .i64 (↑j : Int))], []⟩ ?_
   have hjn : j < n := by have := of_decide_eq_true b0; omega
   clear b0
   obtain ⟨y, hy⟩ : ∃ y, M[j]? = some y := ⟨_, List.getElem?_eq_getElem (by omega)⟩
   have hya : y.1 = atOf y.2 := h5 y (List.mem_of_getElem? hy)
   have hy2 : (M.map (·.2))[(j : Int).toNat]? = some y.2 := by rw [Int.toNat_natCast, List.getElem?_map, hy]; rfl
   obtain ⟨ka, rfl⟩ := hA2 (by omega)
   refine At.idx ka n 9 (j : Int) (by kernel_rfl) (by omega) (by omega) Rws.stable ?_
   let kn2 : Go.Sx.K := .next (Sx.Next w.heap.size w Tryz.f10.ntmps (frRLY (some al) k cl) locRLY (GRLY w ls) (fun x => k - x.i) (RLY.mk i (some ka) n c M))
   let kn4 : Go.Sx.K := .next (Sx.Next w.heap.size w Tryz.f10.ntmps (frRLK al k cl (some ka) n c i) locRLK (GRLK w (some ka) n c M p) (fun j => n - j) j)
   refine zT Rws.stable Rws.fewer [0, 3, 4, 7, 55, 58] 0 ⟨pqops B10 [1, 1, 0, 1, 4, 4, 1, 0, 4, 1, 1, 1, 1, 0, 4, 4, 0, 0] 8, [.seq (sub B10 pAQ0), .seq (sub B10 pAQ1), kn4, .block 4, .seq (sub B10 pAQ7), .block 1, .seq (sub B10 pAQ14), kn2, .block 0, .seq (sub B10 pAQ15)], [(0, .sl (some al) k cl), (3, .sl (some ka) n c), (4, .io .i64 (↑i : Int)), (7, .io .i64 (↑j : Int)), (55, .v (.bool true)), (58, .v (.pointer (some (ka.add ((↑j : Int).toNat * 9)))))], []⟩ ?_
   refine At.fax (ka.add ((j : Int).toNat * 9)) 0 (by kernel_rfl) Rws.stable ?_
   refine zT Rws.stable Rws.fewer [0, 3, 4, 7, 55, 59] 0 ⟨pqops B10 [1, 1, 0, 1, 4, 4, 1, 0, 4, 1, 1, 1, 1, 0, 4, 4, 0, 0] 9, [.seq (sub B10 pAQ0), .seq (sub B10 pAQ1), kn4, .block 4, .seq (sub B10 pAQ7), .block 1, .seq (sub B10 pAQ14), kn2, .block 0, .seq (sub B10 pAQ15)], [(0, .sl (some al) k cl), (3, .sl (some ka) n c), (4, .io .i64 (↑i : Int)), (7, .io .i64 (↑j : Int)), (55, .v (.bool true)), (59, .v (.pointer (some ((ka.add ((↑j : Int).toNat * 9)).add 0))))], []⟩ ?_
   refine At.ldx ((ka.add ((j : Int).toNat * 9)).add 0) (.so (mkB y.2.key)) (by kernel_rfl) Rws.stable (fun ρ w1 hm' hf => by rw [add_add]; exact hf.src (List.mem_singleton.2 rfl) rfl _ _ (pv_at hy2 rfl)) ?_
   refine zT Rws.stable Rws.fewer [0, 3, 4, 7, 55, 60, 61, 62] 0 ⟨pqops B10 [1, 1, 0, 1, 4, 4, 1, 0, 4, 1, 1, 1, 1, 0, 4, 4, 0, 0] 12, [.seq (sub B10 pAQ0), .seq (sub B10 pAQ1), kn4, .block 4, .seq (sub B10 pAQ7), .block 1, .seq (sub B10 pAQ14), kn2, .block 0, .seq (sub B10 pAQ15)], [(0, .sl (some al) k cl), (3, .sl (some ka) n c), (4, .io .i64 (↑i : Int)), (7, .io .i64 (↑j : Int)), (55, .v (.bool true)), (60, .so (mkB y.snd.key)), (61, .sl (some ka) n c), (62, .io .i64 (↑j : Int))], []⟩ ?_
   refine At.idx ka n 9 (j : Int) (by kernel_rfl) (by omega) (by omega) Rws.stable ?_
   refine zT Rws.stable Rws.fewer [0, 3, 4, 7, 55, 60, 63] 0 ⟨pqops B10 [1, 1, 0, 1, 4, 4, 1, 0, 4, 1, 1, 1, 1, 0, 4, 4, 0, 0] 13, [.seq (sub B10 pAQ0), .seq (sub B10 pAQ1), kn4, .block 4, .seq (sub B10 pAQ7), .block 1, .seq (sub B10 pAQ14), kn2, .block 0, .seq (sub B10 pAQ15)], [(0, .sl (some al) k cl), (3, .sl (some ka) n c), (4, .io .i64 (↑i : Int)), (7, .io .i64 (↑j : Int)), (55, .v (.bool true)), (60, .so (mkB y.snd.key)), (63, .v (.pointer (some (ka.add ((↑j : Int).toNat * 9)))))], []⟩ ?_
   refine At.fax (ka.add ((j : Int).toNat * 9)) 1 (by kernel_rfl) Rws.stable ?_
   refine zT Rws.stable Rws.fewer [0, 3, 4, 7, 55, 60, 64] 0 ⟨pqops B10 [1, 1, 0, 1, 4, 4, 1, 0, 4, 1, 1, 1, 1, 0, 4, 4, 0, 0] 14, [.seq (sub B10 pAQ0), .seq (sub B10 pAQ1), kn4, .block 4, .seq (sub B10 pAQ7), .block 1, .seq (sub B10 pAQ14), kn2, .block 0, .seq (sub B10 pAQ15)], [(0, .sl (some al) k cl), (3, .sl (some ka) n c), (4, .io .i64 (↑i : Int)), (7, .io .i64 (↑j : Int)), (55, .v (.bool true)), (60, .so (mkB y.snd.key)), (64, .v (.pointer (some (Addr.mk (ka.add ((↑j : Int).toNat * 9)).block ((ka.add ((↑j : Int).toNat * 9)).off + 1) none))))], []⟩ ?_
   refine At.lda ((ka.add ((j : Int).toNat * 9)).add 1) 2 [.io .i64 y.2.st, .io .i64 y.2.en] (by kernel_rfl) rfl Rws.stable (fun ρ w1 hm' hf j v hj => by rw [add_add, add_add]; exact hf.src (List.mem_singleton.2 rfl) rfl _ _ (pv_at hy2 (span_at (ρ := ρ) hj))) ?_
   refine zT Rws.stable Rws.fewer [0, 3, 4, 7, 55, 60, 66, 67, 68] 0 ⟨pqops B10 [1, 1, 0, 1, 4, 4, 1, 0, 4, 1, 1, 1, 1, 0, 4, 4, 0, 0] 18, [.seq (sub B10 pAQ0), .seq (sub B10 pAQ1), kn4, .block 4, .seq (sub B10 pAQ7), .block 1, .seq (sub B10 pAQ14), kn2, .block 0, .seq (sub B10 pAQ15)], [(0, .sl (some al) k cl), (3, .sl (some ka) n c), (4, .io .i64 (↑i : Int)), (7, .io .i64 (↑j : Int)), (55, .v (.bool true)), (60, .so (mkB y.snd.key)), (66, .agg [.so (mkB y.snd.key), .io .i64 y.snd.st, .io .i64 y.snd.en, .v (.int .i64 0), .v (.int .i64 0), .v (.int .i64 0), .v (.int .i64 0), .v (.int .i64 0), .v (.int .i64 0)]), (67, .sl (some al) k cl), (68, .io .i64 (↑i : Int))], []⟩ ?_
   refine At.idx al k 9 (i : Int) (by kernel_rfl) (by omega) (by omega) Rws.stable ?_
   refine zT Rws.stable Rws.fewer [0, 3, 4, 7, 55, 60, 66, 69] 0 ⟨pqops B10 [1, 1, 0, 1, 4, 4, 1, 0, 4, 1, 1, 1, 1, 0, 4, 4, 0, 0] 19, [.seq (sub B10 pAQ0), .seq (sub B10 pAQ1), kn4, .block 4, .seq (sub B10 pAQ7), .block 1, .seq (sub B10 pAQ14), kn2, .block 0, .seq (sub B10 pAQ15)], [(0, .sl (some al) k cl), (3, .sl (some ka) n c), (4, .io .i64 (↑i : Int)), (7, .io .i64 (↑j : Int)), (55, .v (.bool true)), (60, .so (mkB y.snd.key)), (66, .agg [.so (mkB y.snd.key), .io .i64 y.snd.st, .io .i64 y.snd.en, .v (.int .i64 0), .v (.int .i64 0), .v (.int .i64 0), .v (.int .i64 0), .v (.int .i64 0), .v (.int .i64 0)]), (69, .v (.pointer (some (al.add ((↑i : Int).toNat * 9)))))], []⟩ ?_
   refine At.fax (al.add ((i : Int).toNat * 9)) 0 (by kernel_rfl) Rws.stable ?_
   refine zT Rws.stable Rws.fewer [0, 3, 4, 7, 55, 60, 66, 70] 0 ⟨pqops B10 [1, 1, 0, 1, 4, 4, 1, 0, 4, 1, 1, 1, 1, 0, 4, 4, 0, 0] 20, [.seq (sub B10 pAQ0), .seq (sub B10 pAQ1), kn4, .block 4, .seq (sub B10 pAQ7), .block 1, .seq (sub B10 pAQ14), kn2, .block 0, .seq (sub B10 pAQ15)], [(0, .sl (some al) k cl), (3, .sl (some ka) n c), (4, .io .i64 (↑i : Int)), (7, .io .i64 (↑j : Int)), (55, .v (.bool true)), (60, .so (mkB y.snd.key)), (66, .agg [.so (mkB y.snd.key), .io .i64 y.snd.st, .io .i64 y.snd.en, .v (.int .i64 0), .v (.int .i64 0), .v (.int .i64 0), .v (.int .i64 0), .v (.int .i64 0), .v (.int .i64 0)]), (70, .v (.pointer (some ((al.add ((↑i : Int).toNat * 9)).add 0))))], []⟩ ?_
   refine At.ldx ((al.add ((i : Int).toNat * 9)).add 0) (.so (mkB p.key)) (by kernel_rfl) Rws.stable (fun ρ w1 hm' hf => hl.cell hm'.below hp (j := 0) rfl) ?_
   refine zT Rws.stable Rws.fewer [0, 3, 4, 7, 55, 60, 66, 71, 72, 73] 0 ⟨pqops B10 [1, 1, 0, 1, 4, 4, 1, 0, 4, 1, 1, 1, 1, 0, 4, 4, 0, 0] 23, [.seq (sub B10 pAQ0), .seq (sub B10 pAQ1), kn4, .block 4, .seq (sub B10 pAQ7), .block 1, .seq (sub B10 pAQ14), kn2, .block 0, .seq (sub B10 pAQ15)], [(0, .sl (some al) k cl), (3, .sl (some ka) n c), (4, .io .i64 (↑i : Int)), (7, .io .i64 (↑j : Int)), (55, .v (.bool true)), (60, .so (mkB y.snd.key)), (66, .agg [.so (mkB y.snd.key), .io .i64 y.snd.st, .io .i64 y.snd.en, .v (.int .i64 0), .v (.int .i64 0), .v (.int .i64 0), .v (.int .i64 0), .v (.int .i64 0), .v (.int .i64 0)]), (71, .so (mkB p.key)), (72, .sl (some al) k cl), (73, .io .i64 (↑i : Int))], []⟩ ?_
   refine At.idx al k 9 (i : Int) (by kernel_rfl) (by omega) (by omega) Rws.stable ?_
   refine zT Rws.stable Rws.fewer [0, 3, 4, 7, 55, 60, 66, 71, 74] 0 ⟨pqops B10 [1, 1, 0, 1, 4, 4, 1, 0, 4, 1, 1, 1, 1, 0, 4, 4, 0, 0] 24, [.seq (sub B10 pAQ0), .seq (sub B10 pAQ1), kn4, .block 4, .seq (sub B10 pAQ7), .block 1, .seq (sub B10 pAQ14), kn2, .block 0, .seq (sub B10 pAQ15)], [(0, .sl (some al) k cl), (3, .sl (some ka) n c), (4, .io .i64 (↑i : Int)), (7, .io .i64 (↑j : Int)), (55, .v (.bool true)), (60, .so (mkB y.snd.key)), (66, .agg [.so (mkB y.snd.key), .io .i64 y.snd.st, .io .i64 y.snd.en, .v (.int .i64 0), .v (.int .i64 0), .v (.int .i64 0), .v (.int .i64 0), .v (.int .i64 0), .v (.int .i64 0)]), (71, .so (mkB p.key)), (74, .v (.pointer (some (al.add ((↑i : Int).toNat * 9)))))], []⟩ ?_
   refine At.fax (al.add ((i : Int).toNat * 9)) 1 (by kernel_rfl) Rws.stable ?_
   refine zT Rws.stable Rws.fewer [0, 3, 4, 7, 55, 60, 66, 71, 75] 0 ⟨pqops B10 [1, 1, 0, 1, 4, 4, 1, 0, 4, 1, 1, 1, 1, 0, 4, 4, 0, 0] 25, [.seq (sub B10 pAQ0), .seq (sub B10 pAQ1), kn4, .block 4, .seq (sub B10 pAQ7), .block 1, .seq (sub B10 pAQ14), kn2, .block 0, .seq (sub B10 pAQ15)], [(0, .sl (some al) k cl), (3, .sl (some ka) n c), (4, .io .i64 (↑i : Int)), (7, .io .i64 (↑j : Int)), (55, .v (.bool true)), (60, .so (mkB y.snd.key)), (66, .agg [.so (mkB y.snd.key), .io .i64 y.snd.st, .io .i64 y.snd.en, .v (.int .i64 0), .v (.int .i64 0), .v (.int .i64 0), .v (.int .i64 0), .v (.int .i64 0), .v (.int .i64 0)]), (71, .so (mkB p.key)), (75, .v (.pointer (some (Addr.mk (al.add ((↑i : Int).toNat * 9)).block ((al.add ((↑i : Int).toNat * 9)).off + 1) none))))], []⟩ ?_
   refine At.lda ((al.add ((i : Int).toNat * 9)).add 1) 2 [.io .i64 p.st, .io .i64 p.en] (by kernel_rfl) rfl Rws.stable (fun ρ w1 hm' hf j v hj => by rw [add_add]; exact hl.cell (ρ := ρ) hm'.below hp (span_at (ρ := ρ) hj)) ?_
   refine zT Rws.stable Rws.fewer [0, 3, 4, 7, 55, 60, 66, 77] 0 ⟨pqops B10 [1, 1, 0, 1, 4, 4, 1, 0, 4, 1, 1, 1, 1, 0, 4, 4, 0, 0] 27, [.seq (sub B10 pAQ0), .seq (sub B10 pAQ1), kn4, .block 4, .seq (sub B10 pAQ7), .block 1, .seq (sub B10 pAQ14), kn2, .block 0, .seq (sub B10 pAQ15)], [(0, .sl (some al) k cl), (3, .sl (some ka) n c), (4, .io .i64 (↑i : Int)), (7, .io .i64 (↑j : Int)), (55, .v (.bool true)), (60, .so (mkB y.snd.key)), (66, .agg [.so (mkB y.snd.key), .io .i64 y.snd.st, .io .i64 y.snd.en, .v (.int .i64 0), .v (.int .i64 0), .v (.int .i64 0), .v (.int .i64 0), .v (.int .i64 0), .v (.int .i64 0)]), (77, .agg [.so (mkB p.key), .io .i64 p.st, .io .i64 p.en, .v (.int .i64 0), .v (.int .i64 0), .v (.int .i64 0), .v (.int .i64 0), .v (.int .i64 0), .v (.int .i64 0)])], []⟩ ?_
   refine zC Rws.stable 34 [.agg [.so (mkB y.2.key), .io .i64 y.2.st, .io .i64 y.2.en, .v (.int .i64 0), .v (.int .i64 0), .v (.int .i64 0), .v (.int .i64 0), .v (.int .i64 0), .v (.int .i64 0)], .agg [.so (mkB p.key), .io .i64 p.st, .io .i64 p.en, .v (.int .i64 0), .v (.int .i64 0), .v (.int .i64 0), .v (.int .i64 0), .v (.int .i64 0), .v (.int .i64 0)]] (.io .i64 (cmp2 (atOf y.2) (atOf p))) (fun _ _ w1 _ _ => (rcompare_any (bareP y.2) (bareP p) w1).mono fun e w2 h => ⟨h.1.trans (by rw [cmpP_bare]; rfl), h.2⟩) ?_
   refine zTq Rws.stable Rws.fewer [0, 3, 4, 7, 55, 60, 66, 77, 80] 0 ?_
   rcases Bool.eq_false_or_eq_true (decide (cmp2 (atOf y.snd) (atOf p) < 0)) with b0 | b0
   ·refine zR 80 b0 ?_
    refine zT Rws.stable Rws.fewer [0, 3, 4, 7, 55, 60, 66, 77] 0 ⟨.exit .normal, [.next (Sx.Next w.heap.size w Tryz.f10.ntmps (frRLK al k cl (some ka) n c i) locRLK (GRLK w (some ka) n c M p) (fun j => n - j) j), .block 4, .seq (sub B10 pAQ7), .block 1, .seq (sub B10 pAQ14), kn2, .block 0, .seq (sub B10 pAQ15)], [(0, .sl (some al) k cl), (3, .sl (some ka) n c), (4, .io .i64 (↑i : Int)), (7, .io .i64 (IntKind.i64.wrap ((↑j : Int) + 1))), (55, .v (.bool true)), (60, .so (mkB y.snd.key)), (66, .agg [.so (mkB y.snd.key), .io .i64 y.snd.st, .io .i64 y.snd.en, .v (.int .i64 0), .v (.int .i64 0), .v (.int .i64 0), .v (.int .i64 0), .v (.int .i64 0), .v (.int .i64 0)]), (77, .agg [.so (mkB p.key), .io .i64 p.st, .io .i64 p.en, .v (.int .i64 0), .v (.int .i64 0), .v (.int .i64 0), .v (.int .i64 0), .v (.int .i64 0), .v (.int .i64 0)])], []⟩ ?_
    have hw3 : IntKind.i64.wrap ((j : Int) + 1) = ((j + 1 : Nat) : Int) := by
     rw [wrap63 (by omega) (by omega)]
     omega
    rw [hw3]
    refine At.next (σ := Nat) (j + 1) rfl rfl (by unfold subFr; kernel_rfl) (by kernel_rfl) (fun ρ a' w' hi' hf => ⟨hf, by omega, fun q z hq hz => ?_⟩) ?_
    ·rcases Nat.lt_or_ge q j with h | h
     ·exact hlow q z h hz
     have : q = j := by omega
     subst this
     rw [hy] at hz
     injection hz with hz
     subst hz
     rw [hya]
     exact of_decide_eq_true b0
    show n - (j + 1) < n - j
    omega
   refine zR 80 b0 ?_
   refine zT Rws.stable Rws.fewer [0, 3, 4, 7, 55, 60, 66, 77, 83, 84, 85] 0 ⟨pops B10 pAQ5 3, [.seq (sub B10 pAQ6), .block 1, .seq (sub B10 pAQ14), kn2, .block 0, .seq (sub B10 pAQ15)], [(0, .sl (some al) k cl), (3, .sl (some ka) n c), (4, .io .i64 (↑i : Int)), (7, .io .i64 (↑j : Int)), (55, .v (.bool true)), (60, .so (mkB y.snd.key)), (66, .agg [.so (mkB y.snd.key), .io .i64 y.snd.st, .io .i64 y.snd.en, .v (.int .i64 0), .v (.int .i64 0), .v (.int .i64 0), .v (.int .i64 0), .v (.int .i64 0), .v (.int .i64 0)]), (77, .agg [.so (mkB p.key), .io .i64 p.st, .io .i64 p.en, .v (.int .i64 0), .v (.int .i64 0), .v (.int .i64 0), .v (.int .i64 0), .v (.int .i64 0), .v (.int .i64 0)]), (83, .v (.slice none 0 0)), (84, .sl (some ka) n c), (85, .io .i64 (↑j : Int))], []⟩ ?_
   have hhi : ∀ z, M[j]? = some z → ¬ cmp2 z.1 (atOf p) < 0 := fun z hz => by
    rw [hy] at hz
    injection hz with hz
    subst hz
    rw [hya]
    exact of_decide_eq_false b0
   clear b0
   refine At.mono (F' := Rws w.heap.size [⟨40, 9, none, 0, 0, []⟩, ⟨40, 9, (some ka), n, c, pv (M.map (·.2))⟩]) (fun ρ w1 h => h.nil 40 9) ?_
   refine At.slx (some ka) n c none (j : Int) 9 (.sl (some ka) j c) (by kernel_rfl) Rws.stable (by decide) (by simp) (fun ρ w1 hm hf => ⟨by omega, ?_⟩) ?_
   ·show Value.slice (some ka) j c = .slice (if c = 0 then (some ka) else ((some ka)).map (·.add (0 * 9))) ((j : Int).toNat - 0) (c - 0)
    rw [addZ (some ka) c 9 hA, Int.toNat_natCast]
    rfl
   refine zT Rws.stable Rws.fewer [0, 3, 4, 7, 83, 86] 0 ⟨pops B10 pAQ5 4, [.seq (sub B10 pAQ6), .block 1, .seq (sub B10 pAQ14), kn2, .block 0, .seq (sub B10 pAQ15)], [(0, .sl (some al) k cl), (3, .sl (some ka) n c), (4, .io .i64 (↑i : Int)), (7, .io .i64 (↑j : Int)), (83, .v (.slice none 0 0)), (86, .sl (some ka) j c)], []⟩ ?_
   refine At.appR 40 9 80 none 0 0 (some ka) j c [] (pv ((M.map (·.2)).take j)) [⟨40, 9, (some ka), n, c, pv (M.map (·.2))⟩] (by kernel_rfl) (by rw [pv_len, List.length_take, List.length_map]; congr 1; omega) (pv_one _) (fun h => ?_) (fun b hb ρ w1 hm hf => ?_) (by omega) (by simp only [maxLen]; omega) (fun A1 c1 hc1 => ?_)
   ·rcases Nat.eq_zero_or_pos n with h0 | h0
    ·omega
    obtain ⟨a9, ha9⟩ := hA2 h0
    rw [ha9] at h
    cases h
   ·refine src_pre (ys := pv ((M.map (·.2)).drop j)) ?_
    rw [← pv_append, List.take_append_drop]
    exact hf.src (List.mem_cons_of_mem _ (List.mem_singleton.2 rfl)) hb
   rw [Nat.zero_add, List.nil_append]
   let kn3 : Go.Sx.K := .next (Sx.Next w.heap.size w Tryz.f10.ntmps (frRLY (some al) k cl) locRLY (GRLY w ls) (fun x => k - x.i) (RLY.mk i (some ka) n c M))
   refine zT Rws.stable Rws.fewer [0, 3, 4, 7, 88, 89, 90] 0 ⟨pops B10 pAQ2 3, [.seq (sub B10 pAQ3), .block 1, .seq (sub B10 pAQ14), kn3, .block 0, .seq (sub B10 pAQ15)], [(0, .sl (some al) k cl), (3, .sl (some ka) n c), (4, .io .i64 (↑i : Int)), (7, .io .i64 (↑j : Int)), (88, .sl A1 j c1), (89, .sl (some al) k cl), (90, .io .i64 (↑i : Int))], []⟩ ?_
   refine At.idx al k 9 (i : Int) (by kernel_rfl) (by omega) (by omega) Rws.stable ?_
   refine zT Rws.stable Rws.fewer [0, 3, 4, 7, 88, 91] 0 ⟨pops B10 pAQ2 4, [.seq (sub B10 pAQ3), .block 1, .seq (sub B10 pAQ14), kn3, .block 0, .seq (sub B10 pAQ15)], [(0, .sl (some al) k cl), (3, .sl (some ka) n c), (4, .io .i64 (↑i : Int)), (7, .io .i64 (↑j : Int)), (88, .sl A1 j c1), (91, .v (.pointer (some (al.add ((↑i : Int).toNat * 9)))))], []⟩ ?_
   refine At.lda (al.add ((i : Int).toNat * 9)) 9 [.so (mkB p.key), .io .i64 p.st, .io .i64 p.en, .io .i64 p.kd, .io .i64 p.nt, .io .i64 p.ct, .io .i64 p.sm, .io .i64 p.mn, .io .i64 p.mx] (by kernel_rfl) rfl Rws.stable (fun ρ w1 hm' hf j v hj => hl.cell hm'.below hp hj) ?_
   refine zT Rws.stable Rws.fewer [0, 3, 4, 7, 88, 93] 1 ⟨pops B10 pAQ2 6, [.seq (sub B10 pAQ3), .block 1, .seq (sub B10 pAQ14), kn3, .block 0, .seq (sub B10 pAQ15)], [(0, .sl (some al) k cl), (3, .sl (some ka) n c), (4, .io .i64 (↑i : Int)), (7, .io .i64 (↑j : Int)), (88, .sl A1 j c1), (93, .ls 0 0 1 1)], [([.so (mkB p.key), .io .i64 p.st, .io .i64 p.en, .io .i64 p.kd, .io .i64 p.nt, .io .i64 p.ct, .io .i64 p.sm, .io .i64 p.mn, .io .i64 p.mx], 40)]⟩ ?_
   refine At.appV 22 40 9 80 A1 j c1 1 [.so (mkB p.key), .io .i64 p.st, .io .i64 p.en, .io .i64 p.kd, .io .i64 p.nt, .io .i64 p.ct, .io .i64 p.sm, .io .i64 p.mn, .io .i64 p.mx] (pv ((M.map (·.2)).take j)) p.cells [⟨40, 9, (some ka), n, c, pv (M.map (·.2))⟩] (by kernel_rfl) (fun _ => rfl) (by omega) (by simp only [maxLen]; omega) (fun A2 c2 hc2 => ?_)
   refine zT Rws.stable Rws.fewer [0, 4, 8, 95, 96, 97] 0 ⟨pops B10 pAQ3 3, [.block 1, .seq (sub B10 pAQ14), kn3, .block 0, .seq (sub B10 pAQ15)], [(0, .sl (some al) k cl), (4, .io .i64 (↑i : Int)), (8, .sl A2 (j + 1) c2), (95, .sl A2 (j + 1) c2), (96, .sl (some ka) n c), (97, .io .i64 (↑j : Int))], []⟩ ?_
   refine At.slG (some ka) n c (j : Int) 9 (.sl (subA (some ka) c j 9) (n - j) (c - j)) (by kernel_rfl) Rws.stable (by omega) (by omega) (fun ρ => by rw [Int.toNat_natCast]; rfl) ?_
   refine zT Rws.stable Rws.fewer [0, 4, 8, 95, 98] 0 ⟨pops B10 pAQ3 4, [.block 1, .seq (sub B10 pAQ14), kn3, .block 0, .seq (sub B10 pAQ15)], [(0, .sl (some al) k cl), (4, .io .i64 (↑i : Int)), (8, .sl A2 (j + 1) c2), (95, .sl A2 (j + 1) c2), (98, .sl (subA (some ka) c j 9) (n - j) (c - j))], []⟩ ?_
   refine At.appR 40 9 80 A2 (j + 1) c2 (subA (some ka) c j 9) (n - j) (c - j) (pv ((M.map (·.2)).take j) ++ p.cells) (pv ((M.map (·.2)).drop j)) [⟨40, 9, (some ka), n, c, pv (M.map (·.2))⟩] (by kernel_rfl) (by rw [pv_len, List.length_drop, List.length_map]; congr 1; omega) (pv_one _) (fun h => ?_) (fun b hb ρ w1 hm hf => ?_) (by omega) (by simp only [maxLen]; omega) (fun A3 c3 hc3 => ?_)
   ·exact subA_none9 (n := n) hA2 hnc h
   ·exact subA_src9 hA hb (fun a ha => hf.src (x := ⟨40, 9, (some ka), n, c, pv (M.map (·.2))⟩) (List.mem_cons_of_mem _ (List.mem_singleton.2 rfl)) ha) (by rw [List.length_map]; omega) hnc
   refine zT Rws.stable Rws.fewer [0, 3, 4, 8] 0 ⟨.exit .normal, [kn3, .block 0, .seq (sub B10 pAQ15)], [(0, .sl (some al) k cl), (3, .sl A3 (j + 1 + (n - j)) c3), (4, .io .i64 (IntKind.i64.wrap ((↑i : Int) + 1))), (8, .sl A2 (j + 1) c2)], []⟩ ?_
   have hin := insL_at lin2 (v := p) M j (by omega) hne hlow hhi
   rw [hin] at hdr
   have hw3 : IntKind.i64.wrap ((i : Int) + 1) = ((i + 1 : Nat) : Int) := by
    rw [wrap63 (by omega) (by omega)]
    omega
   rw [hw3]
   refine At.next (σ := RLY) ⟨i + 1, A3, j + 1 + (n - j), c3, M.take j ++ (atOf p, p) :: M.drop j⟩ rfl rfl (by unfold subFr; kernel_rfl) (by kernel_rfl) (fun ρ a' w' hi' hf => ⟨?_, by omega, ?_, by omega, hdr.symm, fun x hx => ?_, fun x hx q hq => ?_⟩) ?_
   ·have h7 : Rws _ [_] _ _ := hf.sub (List.Sublist.cons_cons _ (List.nil_sublist _))
    rw [show pv ((M.take j ++ (atOf p, p) :: M.drop j).map (·.2)) = pv ((M.map (·.2)).take j) ++ p.cells ++ pv ((M.map (·.2)).drop j) by rw [List.map_append, List.map_cons, List.map_take, List.map_drop, pv_append, pv_cons, List.append_assoc]]
    exact h7
   ·simp
    omega
   ·rcases List.mem_append.1 hx with hx | hx
    ·exact h5 x (List.mem_of_mem_take hx)
    rcases List.mem_cons.1 hx with rfl | hx
    ·rfl
    exact h5 x (List.mem_of_mem_drop hx)
   ·rcases List.mem_append.1 hx with hx | hx
    ·exact h6 x (List.mem_of_mem_take hx) q (by rw [drop_at hp]; exact List.mem_cons_of_mem _ hq)
    rcases List.mem_cons.1 hx with rfl | hx
    ·exact hno q hq
    exact h6 x (List.mem_of_mem_drop hx) q (by rw [drop_at hp]; exact List.mem_cons_of_mem _ hq)
   show k - (i + 1) < k - i
   omega
  refine zR 55 b0 ?_
  let kn9 : Go.Sx.K := .next (Sx.Next w.heap.size w Tryz.f10.ntmps (frRLY (some al) k cl) locRLY (GRLY w ls) (fun x => k - x.i) (RLY.mk i A n c M))
  refine zT Rws.stable Rws.fewer [0, 3, 4, 7, 83, 84, 85] 0 ⟨pops B10 pAQ5 3, [.seq (sub B10 pAQ6), .block 1, .seq (sub B10 pAQ14), kn9, .block 0, .seq (sub B10 pAQ15)], [(0, .sl (some al) k cl), (3, .sl A n c), (4, .io .i64 (↑i : Int)), (7, .io .i64 (↑j : Int)), (83, .v (.slice none 0 0)), (84, .sl A n c), (85, .io .i64 (↑j : Int))], []⟩ ?_
  have hjn : ¬ j < n := by have := of_decide_eq_false b0; omega
  clear b0
  have hhi : ∀ z, M[j]? = some z → ¬ cmp2 z.1 (atOf p) < 0 := fun z hz => by
   rw [List.getElem?_eq_none (by omega)] at hz
   cases hz
  refine At.mono (F' := Rws w.heap.size [⟨40, 9, none, 0, 0, []⟩, ⟨40, 9, A, n, c, pv (M.map (·.2))⟩]) (fun ρ w1 h => h.nil 40 9) ?_
  refine At.slx A n c none (j : Int) 9 (.sl A j c) (by kernel_rfl) Rws.stable (by decide) (by simp) (fun ρ w1 hm hf => ⟨by omega, ?_⟩) ?_
  ·show Value.slice A j c = .slice (if c = 0 then A else (A).map (·.add (0 * 9))) ((j : Int).toNat - 0) (c - 0)
   rw [addZ A c 9 hA, Int.toNat_natCast]
   rfl
  refine zT Rws.stable Rws.fewer [0, 3, 4, 7, 83, 86] 0 ⟨pops B10 pAQ5 4, [.seq (sub B10 pAQ6), .block 1, .seq (sub B10 pAQ14), kn9, .block 0, .seq (sub B10 pAQ15)], [(0, .sl (some al) k cl), (3, .sl A n c), (4, .io .i64 (↑i : Int)), (7, .io .i64 (↑j : Int)), (83, .v (.slice none 0 0)), (86, .sl A j c)], []⟩ ?_
  refine At.appR 40 9 80 none 0 0 A j c [] (pv ((M.map (·.2)).take j)) [⟨40, 9, A, n, c, pv (M.map (·.2))⟩] (by kernel_rfl) (by rw [pv_len, List.length_take, List.length_map]; congr 1; omega) (pv_one _) (fun h => ?_) (fun b hb ρ w1 hm hf => ?_) (by omega) (by simp only [maxLen]; omega) (fun A1 c1 hc1 => ?_)
  ·rcases Nat.eq_zero_or_pos n with h0 | h0
   ·omega
   obtain ⟨a9, ha9⟩ := hA2 h0
   rw [ha9] at h
   cases h
  ·refine src_pre (ys := pv ((M.map (·.2)).drop j)) ?_
   rw [← pv_append, List.take_append_drop]
   exact hf.src (List.mem_cons_of_mem _ (List.mem_singleton.2 rfl)) hb
  rw [Nat.zero_add, List.nil_append]
  let kn10 : Go.Sx.K := .next (Sx.Next w.heap.size w Tryz.f10.ntmps (frRLY (some al) k cl) locRLY (GRLY w ls) (fun x => k - x.i) (RLY.mk i A n c M))
  refine zT Rws.stable Rws.fewer [0, 3, 4, 7, 88, 89, 90] 0 ⟨pops B10 pAQ2 3, [.seq (sub B10 pAQ3), .block 1, .seq (sub B10 pAQ14), kn10, .block 0, .seq (sub B10 pAQ15)], [(0, .sl (some al) k cl), (3, .sl A n c), (4, .io .i64 (↑i : Int)), (7, .io .i64 (↑j : Int)), (88, .sl A1 j c1), (89, .sl (some al) k cl), (90, .io .i64 (↑i : Int))], []⟩ ?_
  refine At.idx al k 9 (i : Int) (by kernel_rfl) (by omega) (by omega) Rws.stable ?_
  refine zT Rws.stable Rws.fewer [0, 3, 4, 7, 88, 91] 0 ⟨pops B10 pAQ2 4, [.seq (sub B10 pAQ3), .block 1, .seq (sub B10 pAQ14), kn10, .block 0, .seq (sub B10 pAQ15)], [(0, .sl (some al) k cl), (3, .sl A n c), (4, .io .i64 (↑i : Int)), (7, .io .i64 (↑j : Int)), (88, .sl A1 j c1), (91, .v (.pointer (some (al.add ((↑i : Int).toNat * 9)))))], []⟩ ?_
  refine At.lda (al.add ((i : Int).toNat * 9)) 9 [.so (mkB p.key), .io .i64 p.st, .io .i64 p.en, .io .i64 p.kd, .io .i64 p.nt, .io .i64 p.ct, .io .i64 p.sm, .io .i64 p.mn, .io .i64 p.mx] (by kernel_rfl) rfl Rws.stable (fun ρ w1 hm' hf j v hj => hl.cell hm'.below hp hj) ?_
  refine zT Rws.stable Rws.fewer [0, 3, 4, 7, 88, 93] 1 ⟨pops B10 pAQ2 6, [.seq (sub B10 pAQ3), .block 1, .seq (sub B10 pAQ14), kn10, .block 0, .seq (sub B10 pAQ15)], [(0, .sl (some al) k cl), (3, .sl A n c), (4, .io .i64 (↑i : Int)), (7, .io .i64 (↑j : Int)), (88, .sl A1 j c1), (93, .ls 0 0 1 1)], [([.so (mkB p.key), .io .i64 p.st, .io .i64 p.en, .io .i64 p.kd, .io .i64 p.nt, .io .i64 p.ct, .io .i64 p.sm, .io .i64 p.mn, .io .i64 p.mx], 40)]⟩ ?_
  refine At.appV 22 40 9 80 A1 j c1 1 [.so (mkB p.key), .io .i64 p.st, .io .i64 p.en, .io .i64 p.kd, .io .i64 p.nt, .io .i64 p.ct, .io .i64 p.sm, .io .i64 p.mn, .io .i64 p.mx] (pv ((M.map (·.2)).take j)) p.cells [⟨40, 9, A, n, c, pv (M.map (·.2))⟩] (by kernel_rfl) (fun _ => rfl) (by omega) (by simp only [maxLen]; omega) (fun A2 c2 hc2 => ?_)
  refine zT Rws.stable Rws.fewer [0, 4, 8, 95, 96, 97] 0 ⟨pops B10 pAQ3 3, [.block 1, .seq (sub B10 pAQ14), kn10, .block 0, .seq (sub B10 pAQ15)], [(0, .sl (some al) k cl), (4, .io .i64 (↑i : Int)), (8, .sl A2 (j + 1) c2), (95, .sl A2 (j + 1) c2), (96, .sl A n c), (97, .io .i64 (↑j : Int))], []⟩ ?_
  refine At.slG A n c (j : Int) 9 (.sl (subA A c j 9) (n - j) (c - j)) (by kernel_rfl) Rws.stable (by omega) (by omega) (fun ρ => by rw [Int.toNat_natCast]; rfl) ?_
  refine zT Rws.stable Rws.fewer [0, 4, 8, 95, 98] 0 ⟨pops B10 pAQ3 4, [.block 1, .seq (sub B10 pAQ14), kn10, .block 0, .seq (sub B10 pAQ15)], [(0, .sl (some al) k cl), (4, .io .i64 (↑i : Int)), (8, .sl A2 (j + 1) c2), (95, .sl A2 (j + 1) c2), (98, .sl (subA A c j 9) (n - j) (c - j))], []⟩ ?_
  refine At.appR 40 9 80 A2 (j + 1) c2 (subA A c j 9) (n - j) (c - j) (pv ((M.map (·.2)).take j) ++ p.cells) (pv ((M.map (·.2)).drop j)) [⟨40, 9, A, n, c, pv (M.map (·.2))⟩] (by kernel_rfl) (by rw [pv_len, List.length_drop, List.length_map]; congr 1; omega) (pv_one _) (fun h => ?_) (fun b hb ρ w1 hm hf => ?_) (by omega) (by simp only [maxLen]; omega) (fun A3 c3 hc3 => ?_)
  ·exact subA_none9 (n := n) hA2 hnc h
  ·exact subA_src9 hA hb (fun a ha => hf.src (x := ⟨40, 9, A, n, c, pv (M.map (·.2))⟩) (List.mem_cons_of_mem _ (List.mem_singleton.2 rfl)) ha) (by rw [List.length_map]; omega) hnc
  refine zT Rws.stable Rws.fewer [0, 3, 4, 8] 0 ⟨.exit .normal, [kn10, .block 0, .seq (sub B10 pAQ15)], [(0, .sl (some al) k cl), (3, .sl A3 (j + 1 + (n - j)) c3), (4, .io .i64 (IntKind.i64.wrap ((↑i : Int) + 1))), (8, .sl A2 (j + 1) c2)], []⟩ ?_
  have hin := insL_at lin2 (v := p) M j (by omega) hne hlow hhi
  rw [hin] at hdr
  have hw3 : IntKind.i64.wrap ((i : Int) + 1) = ((i + 1 : Nat) : Int) := by
   rw [wrap63 (by omega) (by omega)]
   omega
  rw [hw3]
  refine At.next (σ := RLY) ⟨i + 1, A3, j + 1 + (n - j), c3, M.take j ++ (atOf p, p) :: M.drop j⟩ rfl rfl (by unfold subFr; kernel_rfl) (by kernel_rfl) (fun ρ a' w' hi' hf => ⟨?_, by omega, ?_, by omega, hdr.symm, fun x hx => ?_, fun x hx q hq => ?_⟩) ?_
  ·have h7 : Rws _ [_] _ _ := hf.sub (List.Sublist.cons_cons _ (List.nil_sublist _))
   rw [show pv ((M.take j ++ (atOf p, p) :: M.drop j).map (·.2)) = pv ((M.map (·.2)).take j) ++ p.cells ++ pv ((M.map (·.2)).drop j) by rw [List.map_append, List.map_cons, List.map_take, List.map_drop, pv_append, pv_cons, List.append_assoc]]
   exact h7
  ·simp
   omega
  ·rcases List.mem_append.1 hx with hx | hx
   ·exact h5 x (List.mem_of_mem_take hx)
   rcases List.mem_cons.1 hx with rfl | hx
   ·rfl
   exact h5 x (List.mem_of_mem_drop hx)
  ·rcases List.mem_append.1 hx with hx | hx
   ·exact h6 x (List.mem_of_mem_take hx) q (by rw [drop_at hp]; exact List.mem_cons_of_mem _ hq)
   rcases List.mem_cons.1 hx with rfl | hx
   ·exact hno q hq
   exact h6 x (List.mem_of_mem_drop hx) q (by rw [drop_at hp]; exact List.mem_cons_of_mem _ hq)
  show k - (i + 1) < k - i
  omega
 refine zR 12 b0 ?_
 refine zT Rws.stable Rws.fewer [2] 0 ⟨.exit .ret, [], [(2, .sl A n c)], []⟩ ?_
 refine zE (.sl A n c) ?_
 have hi : i = nl := by have := of_decide_eq_false b0; omega
 subst hi
 rw [List.drop_eq_nil_of_le (by omega)] at h4
 have hM : M = lastM ls := h4
 subst hM
 subst h2
 intro ρ w9 hm hf
 refine ⟨A, c, rfl, ?_⟩
 have h8 := Rws.fewer ρ _ 0 (Nat.zero_le _) hf
 rw [List.take_zero] at h8
 exact rowF_of h8 hm.below
end Go.Proofs.YtkjnbafdmjakgaaGreatDoor
end
section
namespace Go.Proofs.YtkjnbafdmjakgaaGreatDoor
open Go.RowKit Go.Sx
theorem slp_take {w : World} {A : Option Addr} {n m : Nat} {ps : List Pn} (h : SlP w A n ps) (hm : m ≤ n) : SlP w A m (ps.take m) :=
 ⟨by rw [List.length_take, h.1]; omega, fun hA => by rw [h.2.1 hA]; exact List.take_nil, fun a ha => src_pre (ys := pv (ps.drop m)) (by rw [← pv_append, List.take_append_drop]; exact h.2.2 a ha)⟩
def frRB (Ab : Option Addr) (nb cb : Nat) (kA : Option Addr) (kn kc i : Nat) : Fr := [(1, .sl Ab nb cb), (5, .sl kA kn kc), (6, .io .i64 (i : Int))]
def locRB (_ : Nat) : Sx.Loc := []
def GRB (w0 : World) (va vb : List Pn) (kA : Option Addr) (kc : Nat) (E : List En) (i : Nat) (ρ : List Nat) (w : World) : Prop :=
 Rws w0.heap.size (⟨32, 2, kA, E.length, kc, outL1 E⟩ :: cl1 E) ρ w ∧ (i ≤ E.length ∧ begB va vb = ((E.map (fun e => (e.1, e.2.1))).drop i).all fun x => decide (x.2.length ≤ (grp x.1 vb).length ∧ x.2 = (grp x.1 vb).take x.2.length))
end Go.Proofs.YtkjnbafdmjakgaaGreatDoor
namespace Go.Sx
open Go.RowKit
section
variable {P : Program} {Q : Exit → Act → World → Prop} {N : Nat} {w0 : World} {ntm : Nat} {F : List Nat → World → Prop}
end
end Go.Sx
namespace Go.Proofs.YtkjnbafdmjakgaaGreatDoor
open Go.RowKit Go.Sx
noncomputable def B11 : Code := (Tryz.f11.body).getD .skip
set_option maxHeartbeats 20000000 in
set_option maxRecDepth 100000 in
theorem rbegins_any {Aa Ab : Option Addr} {na ca nb cb : Nat} {va vb : List Pn} (w : World) (ha : SlP w Aa na va) (hb : SlP w Ab nb vb) (hna : na ≤ 200) (hnb : nb ≤ 200) :
  Calls Tryz.prog 11 #[.slice Aa na ca, .slice Ab nb cb] w fun e w' => e = .returned (.bool (begB va vb)) ∧ Below w.heap.size w w' := by
 refine enter (fn := Tryz.f11) (c := B11) [.sl Aa na ca, .sl Ab nb cb] Tryz.func11 rfl rfl ?_
 refine zN [1, 9] 0 ⟨pops B11 [1, 0] 1, [.seq (sub B11 [1, 1])], [(1, .sl Ab nb cb), (9, .sl Aa na ca)], []⟩ ?_
 refine At.callx noF_stable (X := Option Addr × Nat × Nat × List En) 9 [.sl Aa na ca] (fun x => .sl x.1 x.2.1 x.2.2.1) (fun x ρ w1 => Rws w.heap.size (⟨32, 2, x.1, x.2.1, x.2.2.1, outL1 x.2.2.2⟩ :: cl1 x.2.2.2) ρ w1 ∧ (x.2.1 = x.2.2.2.length ∧ x.2.2.2.map (fun e => (e.1, e.2.1)) = keysM va)) (fun x => Stable.andP Rws.stable) (by kernel_rfl) (by kernel_rfl) (by kernel_rfl) (by kernel_rfl) (fun ρ a w1 hi hf => (rKeys_any w1 (ha.below hi.mem.below) hna).mono fun e w2 h => ?_) (fun x => ?_)
 ·obtain ⟨A, n, c, E, h1, h2, h3, h4, h5⟩ := h
  exact ⟨(A, n, c, E), h1, h5, rws_lift hi.mem h4 h5, h2, h3⟩
 obtain ⟨kA, kn, kc, E⟩ := x
 dsimp only
 refine At.mono (F' := fun ρ w1 => Rws w.heap.size (⟨32, 2, kA, kn, kc, outL1 E⟩ :: cl1 E) ρ w1 ∧ (kn = E.length ∧ E.map (fun e => (e.1, e.2.1)) = keysM va)) (fun ρ w1 h => h.2) (At.pure fun ⟨hkn, hE⟩ => ?_)
 subst hkn
 have hEl : E.length ≤ 200 := by
  have h8 := congrArg List.length hE
  have h9 := keysM_len va
  have h10 := ha.1
  rw [List.length_map] at h8
  omega
 have hbeg := rbeg (a := va) (b := vb)
 rw [← hE] at hbeg
 refine zT Rws.stable Rws.fewer [1, 5, 6] 0 ⟨.code (sub B11 [1, 1, 0, 1, 4]), [.block 0, .seq (sub B11 pAQ15)], [(1, .sl Ab nb cb), (5, .sl kA E.length kc), (6, .v (.int .i64 0))], []⟩ ?_
 refine At.canon _ rfl ?_
 refine At.slFr _ rfl ?_
 refine At.loop (σ := Nat) (sub B11 [1, 1, 0, 1, 4, 4]) (frRB Ab nb cb kA E.length kc) locRB (GRB w va vb kA kc E) (fun i => E.length - i) 0 (by kernel_rfl) (by unfold subFr; kernel_rfl) (by kernel_rfl) (fun _ _ _ _ h => ⟨h, Nat.zero_le _, by rw [List.drop_zero]; exact hbeg.symm⟩) ?_
 intro i
 refine At.pure fun ⟨h1, h2⟩ => ?_
 refine zTq Rws.stable Rws.fewer [1, 5, 6, 14] 0 ?_
 rcases Bool.eq_false_or_eq_true (decide ((↑i : Int) < (↑E.length : Int))) with b0 | b0
 ·refine zR 14 b0 ?_
  refine zT Rws.stable Rws.fewer [1, 5, 6, 17, 18, 19] 0 ⟨pops B11 pAQ11 3, [.seq (sub B11 pAQ12), .block 1, .seq (sub B11 pAQ14), .next (Sx.Next w.heap.size w Tryz.f11.ntmps (frRB Ab nb cb kA E.length kc) locRB (GRB w va vb kA kc E) (fun i => E.length - i) i), .block 0, .seq (sub B11 pAQ15)], [(1, .sl Ab nb cb), (5, .sl kA E.length kc), (6, .io .i64 (↑i : Int)), (17, .sl Ab nb cb), (18, .sl kA E.length kc), (19, .io .i64 (↑i : Int))], []⟩ ?_
  have hi : i < E.length := by have := of_decide_eq_true b0; omega
  clear b0
  obtain ⟨⟨k, g, B, d⟩, he⟩ : ∃ e, E[i]? = some e := ⟨_, List.getElem?_eq_getElem hi⟩
  have hKi : (E.map (fun e => (e.1, e.2.1)))[i]? = some (k, g) := by rw [List.getElem?_map, he]; rfl
  have hmem : (⟨40, 9, B, g.length, d, pv g⟩ : Sx.Rw) ∈ cl1 E := List.mem_map.2 ⟨_, List.mem_of_getElem? he, rfl⟩
  have hgk : g = grp k va := (keysOf_mem (keysM_of va) (List.mem_of_getElem? (hE ▸ hKi))).1
  have hgl : g.length ≤ 200 := by
   have := grp_le k va
   have := ha.1
   rw [hgk]
   omega
  have hbl : (grp k vb).length ≤ 200 := by
   have := grp_le k vb
   have := hb.1
   omega
  refine At.know (p := ∃ a, kA = some a) (fun ρ w1 hf => hf.some (List.mem_cons_self ..) (show 0 < E.length by omega)) fun ⟨ka, hka⟩ => ?_
  subst hka
  have hG0 : ∀ {L : List Sx.Rw} {ρ : List Nat} {w1 : World}, Rws w.heap.size L ρ w1 → (⟨32, 2, some ka, E.length, kc, outL1 E⟩ : Sx.Rw) ∈ L → w1.cell? ((ka.add ((i : Int).toNat * 2)).add 0) = some (.string (mkB k)) := fun hf hx => by
   rw [add_add]
   exact hf.src hx rfl _ _ (outL1_at he).1
  have hG1 : ∀ {L : List Sx.Rw} {ρ : List Nat} {w1 : World}, Rws w.heap.size L ρ w1 → (⟨32, 2, some ka, E.length, kc, outL1 E⟩ : Sx.Rw) ∈ L → w1.cell? ((ka.add ((i : Int).toNat * 2)).add 1) = some (.slice B g.length d) := fun hf hx => by
   rw [add_add]
   exact hf.src hx rfl _ _ (outL1_at he).2
  refine At.idx ka E.length 2 (i : Int) (by kernel_rfl) (by omega) (by omega) Rws.stable ?_
  let kn0 : Go.Sx.K := .next (Sx.Next w.heap.size w Tryz.f11.ntmps (frRB Ab nb cb (some ka) E.length kc) locRB (GRB w va vb (some ka) kc E) (fun i => E.length - i) i)
  refine zT Rws.stable Rws.fewer [1, 5, 6, 17, 20] 0 ⟨pops B11 pAQ11 4, [.seq (sub B11 pAQ12), .block 1, .seq (sub B11 pAQ14), kn0, .block 0, .seq (sub B11 pAQ15)], [(1, .sl Ab nb cb), (5, .sl (some ka) E.length kc), (6, .io .i64 (↑i : Int)), (17, .sl Ab nb cb), (20, .v (.pointer (some (ka.add ((↑i : Int).toNat * 2)))))], []⟩ ?_
  refine At.fax (ka.add ((i : Int).toNat * 2)) 0 (by kernel_rfl) Rws.stable ?_
  refine zT Rws.stable Rws.fewer [1, 5, 6, 17, 21] 0 ⟨pops B11 pAQ11 5, [.seq (sub B11 pAQ12), .block 1, .seq (sub B11 pAQ14), kn0, .block 0, .seq (sub B11 pAQ15)], [(1, .sl Ab nb cb), (5, .sl (some ka) E.length kc), (6, .io .i64 (↑i : Int)), (17, .sl Ab nb cb), (21, .v (.pointer (some ((ka.add ((↑i : Int).toNat * 2)).add 0))))], []⟩ ?_
  refine At.ldx ((ka.add ((i : Int).toNat * 2)).add 0) (.so (mkB k)) (by kernel_rfl) Rws.stable (fun ρ w1 hm' hf => hG0 hf (List.mem_cons_self ..)) ?_
  refine zT Rws.stable Rws.fewer [1, 5, 6, 17, 22] 0 ⟨pops B11 pAQ11 6, [.seq (sub B11 pAQ12), .block 1, .seq (sub B11 pAQ14), kn0, .block 0, .seq (sub B11 pAQ15)], [(1, .sl Ab nb cb), (5, .sl (some ka) E.length kc), (6, .io .i64 (↑i : Int)), (17, .sl Ab nb cb), (22, .so (mkB k))], []⟩ ?_
  refine Go.Sx.At.rowCall (e := 40) (size := 9) 14 [.sl Ab nb cb, .so (mkB k)] (pv (grp k vb)) (fun A n c => .sl A n c) (by kernel_rfl) (by kernel_rfl) (by kernel_rfl) (by kernel_rfl) (fun ρ w1 hm hf => (rof_any k w1 (hb.below hm.below) hnb).mono fun e w2 h => ?_) (fun oA on oc hon => ?_)
  ·obtain ⟨A', c', h1, h2⟩ := h
   exact ⟨A', _, c', h1, h2⟩
  obtain rfl : on = (grp k vb).length := by rw [pv_len] at hon; omega
  refine zT Rws.stable Rws.fewer [1, 5, 6, 7, 24, 25] 0 ⟨pops B11 pAQ10 2, [.seq (sub B11 pAQ9), .block 1, .seq (sub B11 pAQ14), kn0, .block 0, .seq (sub B11 pAQ15)], [(1, .sl Ab nb cb), (5, .sl (some ka) E.length kc), (6, .io .i64 (↑i : Int)), (7, .sl oA (grp k vb).length oc), (24, .sl (some ka) E.length kc), (25, .io .i64 (↑i : Int))], []⟩ ?_
  refine At.idx ka E.length 2 (i : Int) (by kernel_rfl) (by omega) (by omega) Rws.stable ?_
  refine zT Rws.stable Rws.fewer [1, 5, 6, 7, 26] 0 ⟨pops B11 pAQ10 3, [.seq (sub B11 pAQ9), .block 1, .seq (sub B11 pAQ14), kn0, .block 0, .seq (sub B11 pAQ15)], [(1, .sl Ab nb cb), (5, .sl (some ka) E.length kc), (6, .io .i64 (↑i : Int)), (7, .sl oA (grp k vb).length oc), (26, .v (.pointer (some (ka.add ((↑i : Int).toNat * 2)))))], []⟩ ?_
  refine At.fax (ka.add ((i : Int).toNat * 2)) 1 (by kernel_rfl) Rws.stable ?_
  refine zT Rws.stable Rws.fewer [1, 5, 6, 7, 27] 0 ⟨pops B11 pAQ10 4, [.seq (sub B11 pAQ9), .block 1, .seq (sub B11 pAQ14), kn0, .block 0, .seq (sub B11 pAQ15)], [(1, .sl Ab nb cb), (5, .sl (some ka) E.length kc), (6, .io .i64 (↑i : Int)), (7, .sl oA (grp k vb).length oc), (27, .v (.pointer (some (Addr.mk (ka.add ((↑i : Int).toNat * 2)).block ((ka.add ((↑i : Int).toNat * 2)).off + 1) none))))], []⟩ ?_
  refine At.ldx ((ka.add ((i : Int).toNat * 2)).add 1) (.sl B g.length d) (by kernel_rfl) Rws.stable (fun ρ w1 hm' hf => hG1 hf (List.mem_cons_of_mem _ (List.mem_cons_self ..))) ?_
  refine zTq Rws.stable Rws.fewer [1, 5, 6, 7, 8, 34] 0 ?_
  rcases Bool.eq_false_or_eq_true (decide ((↑(grp k vb).length : Int) < (↑g.length : Int))) with b0 | b0
  ·refine zR 34 b0 ?_
   refine zT Rws.stable Rws.fewer [4] 0 ⟨.exit .ret, [], [(4, .v (.bool false))], []⟩ ?_
   refine zE (.v (.bool false)) ?_
   have hst : begB va vb = (decide (g.length ≤ (grp k vb).length ∧ g = (grp k vb).take g.length) && ((E.map (fun e => (e.1, e.2.1))).drop (i + 1)).all fun x => decide (x.2.length ≤ (grp x.1 vb).length ∧ x.2 = (grp x.1 vb).take x.2.length)) := by
    rw [h2, drop_at hKi, List.all_cons]
   have hbf : begB va vb = false := by
    have := of_decide_eq_true b0
    rw [hst, decide_eq_false (by omega), Bool.false_and]
   intro ρ w9 hm hf
   exact ⟨by rw [hbf]; rfl, hm.below⟩
  refine zR 34 b0 ?_
  let kn1 : Go.Sx.K := .next (Sx.Next w.heap.size w Tryz.f11.ntmps (frRB Ab nb cb (some ka) E.length kc) locRB (GRB w va vb (some ka) kc E) (fun i => E.length - i) i)
  refine zT Rws.stable Rws.fewer [1, 5, 6, 7, 8, 34, 35, 36] 0 ⟨pqops B11 [1, 1, 0, 1, 4, 4, 1, 0, 4, 1, 1, 0] 7, [.seq (sub B11 pAQ8), .block 1, .seq (sub B11 pAQ14), kn1, .block 0, .seq (sub B11 pAQ15)], [(1, .sl Ab nb cb), (5, .sl (some ka) E.length kc), (6, .io .i64 (↑i : Int)), (7, .sl oA (grp k vb).length oc), (8, .io .i64 (↑g.length : Int)), (34, .v (.bool false)), (35, .sl (some ka) E.length kc), (36, .io .i64 (↑i : Int))], []⟩ ?_
  refine At.idx ka E.length 2 (i : Int) (by kernel_rfl) (by omega) (by omega) Rws.stable ?_
  refine zT Rws.stable Rws.fewer [1, 5, 6, 7, 8, 34, 37] 0 ⟨pqops B11 [1, 1, 0, 1, 4, 4, 1, 0, 4, 1, 1, 0] 8, [.seq (sub B11 pAQ8), .block 1, .seq (sub B11 pAQ14), kn1, .block 0, .seq (sub B11 pAQ15)], [(1, .sl Ab nb cb), (5, .sl (some ka) E.length kc), (6, .io .i64 (↑i : Int)), (7, .sl oA (grp k vb).length oc), (8, .io .i64 (↑g.length : Int)), (34, .v (.bool false)), (37, .v (.pointer (some (ka.add ((↑i : Int).toNat * 2)))))], []⟩ ?_
  refine At.fax (ka.add ((i : Int).toNat * 2)) 1 (by kernel_rfl) Rws.stable ?_
  refine zT Rws.stable Rws.fewer [1, 5, 6, 7, 8, 34, 38] 0 ⟨pqops B11 [1, 1, 0, 1, 4, 4, 1, 0, 4, 1, 1, 0] 9, [.seq (sub B11 pAQ8), .block 1, .seq (sub B11 pAQ14), kn1, .block 0, .seq (sub B11 pAQ15)], [(1, .sl Ab nb cb), (5, .sl (some ka) E.length kc), (6, .io .i64 (↑i : Int)), (7, .sl oA (grp k vb).length oc), (8, .io .i64 (↑g.length : Int)), (34, .v (.bool false)), (38, .v (.pointer (some (Addr.mk (ka.add ((↑i : Int).toNat * 2)).block ((ka.add ((↑i : Int).toNat * 2)).off + 1) none))))], []⟩ ?_
  refine At.ldx ((ka.add ((i : Int).toNat * 2)).add 1) (.sl B g.length d) (by kernel_rfl) Rws.stable (fun ρ w1 hm' hf => hG1 hf (List.mem_cons_of_mem _ (List.mem_cons_self ..))) ?_
  refine zT Rws.stable Rws.fewer [1, 5, 6, 7, 8, 34, 39, 40, 41] 0 ⟨pqops B11 [1, 1, 0, 1, 4, 4, 1, 0, 4, 1, 1, 0] 12, [.seq (sub B11 pAQ8), .block 1, .seq (sub B11 pAQ14), kn1, .block 0, .seq (sub B11 pAQ15)], [(1, .sl Ab nb cb), (5, .sl (some ka) E.length kc), (6, .io .i64 (↑i : Int)), (7, .sl oA (grp k vb).length oc), (8, .io .i64 (↑g.length : Int)), (34, .v (.bool false)), (39, .sl B g.length d), (40, .sl oA (grp k vb).length oc), (41, .io .i64 (↑g.length : Int))], []⟩ ?_
  have hst : begB va vb = (decide (g.length ≤ (grp k vb).length ∧ g = (grp k vb).take g.length) && ((E.map (fun e => (e.1, e.2.1))).drop (i + 1)).all fun x => decide (x.2.length ≤ (grp x.1 vb).length ∧ x.2 = (grp x.1 vb).take x.2.length)) := by
   rw [h2, drop_at hKi, List.all_cons]
  have hle : g.length ≤ (grp k vb).length := by have := of_decide_eq_false b0; omega
  clear b0
  refine At.know (p := oA = none ∨ ∃ g, oA = some ⟨g, 0, none⟩) (fun ρ w1 hf => hf.shape (List.mem_cons_self ..)) fun hoA => ?_
  refine At.know (p := (grp k vb).length ≤ oc) (fun ρ w1 hf => hf.cap (x := ⟨40, 9, oA, (grp k vb).length, oc, pv (grp k vb)⟩) (List.mem_cons_self ..)) fun hoc => ?_
  refine At.slx oA (grp k vb).length oc none (g.length : Int) 9 (.sl oA g.length oc) (by kernel_rfl) Rws.stable (by decide) (by simp) (fun ρ w1 hm hf => ⟨by omega, ?_⟩) ?_
  ·show Value.slice oA g.length oc = .slice (if oc = 0 then oA else oA.map (·.add (0 * 9))) ((g.length : Int).toNat - 0) (oc - 0)
   rw [addZ oA oc 9 hoA, Int.toNat_natCast]
   rfl
  refine zT Rws.stable Rws.fewer [1, 5, 6, 7, 8, 34, 39, 42] 0 ⟨pqops B11 [1, 1, 0, 1, 4, 4, 1, 0, 4, 1, 1, 0] 13, [.seq (sub B11 pAQ8), .block 1, .seq (sub B11 pAQ14), kn1, .block 0, .seq (sub B11 pAQ15)], [(1, .sl Ab nb cb), (5, .sl (some ka) E.length kc), (6, .io .i64 (↑i : Int)), (7, .sl oA (grp k vb).length oc), (8, .io .i64 (↑g.length : Int)), (34, .v (.bool false)), (39, .sl B g.length d), (42, .sl oA g.length oc)], []⟩ ?_
  refine zC Rws.stable 13 [.sl B g.length d, .sl oA g.length oc] (.bo (decide (g = (grp k vb).take g.length))) (fun ρ _ w1 hi hf => same_sl (A := B) (B := oA) (n := g.length) (m := g.length) (c := d) (d := oc) (ps := g) (qs := (grp k vb).take g.length) w1 (rws_slp hf (List.mem_cons_of_mem _ (List.mem_cons_of_mem _ hmem)) rfl) (slp_take (rws_slp hf (List.mem_cons_self ..) rfl) hle) (by omega)) ?_
  refine zTq Rws.stable Rws.fewer [1, 5, 6, 7, 8, 45] 0 ?_
  rcases Bool.eq_false_or_eq_true (!decide (g = List.take g.length (grp k vb))) with b0 | b0
  ·refine zR 45 b0 ?_
   refine zT Rws.stable Rws.fewer [4] 0 ⟨.exit .ret, [], [(4, .v (.bool false))], []⟩ ?_
   refine zE (.v (.bool false)) ?_
   have hbf : begB va vb = false := by
    rw [hst, decide_eq_false (fun h => by
     have h9 := h.2
     rw [decide_eq_true h9] at b0
     exact absurd b0 (by decide)), Bool.false_and]
   intro ρ w9 hm hf
   exact ⟨by rw [hbf]; rfl, hm.below⟩
  refine zR 45 b0 ?_
  refine zT Rws.stable Rws.fewer [1, 5, 6, 7, 8] 0 ⟨.exit .normal, [kn1, .block 0, .seq (sub B11 pAQ15)], [(1, .sl Ab nb cb), (5, .sl (some ka) E.length kc), (6, .io .i64 (IntKind.i64.wrap ((↑i : Int) + 1))), (7, .sl oA (grp k vb).length oc), (8, .io .i64 (↑g.length : Int))], []⟩ ?_
  have hw3 : IntKind.i64.wrap ((i : Int) + 1) = ((i + 1 : Nat) : Int) := by
   rw [wrap63 (by omega) (by omega)]
   omega
  rw [hw3]
  have heq : g = (grp k vb).take g.length := by
   simpa using b0
  refine At.next (σ := Nat) (i + 1) rfl rfl (by unfold subFr; kernel_rfl) (by kernel_rfl) (fun ρ a' w' hi' hf => ⟨hf.sub (List.sublist_cons_self ..), by omega, by rw [hst, decide_eq_true ⟨hle, heq⟩, Bool.true_and]⟩) ?_
  show E.length - (i + 1) < E.length - i
  omega
 refine zR 14 b0 ?_
 refine zT Rws.stable Rws.fewer [4] 0 ⟨.exit .ret, [], [(4, .v (.bool true))], []⟩ ?_
 refine zE (.v (.bool true)) ?_
 have hi : i = E.length := by have := of_decide_eq_false b0; omega
 subst hi
 intro ρ w9 hm hf
 refine ⟨?_, hm.below⟩
 rw [h2, List.drop_eq_nil_of_le (by rw [List.length_map]; exact Nat.le_refl _)]
 rfl
end Go.Proofs.YtkjnbafdmjakgaaGreatDoor
end
section
namespace Go.Proofs.YtkjnbafdmjakgaaGreatDoor
open Go.RowKit Go.Sx
def SlK (w : World) (A : Option Addr) (n : Nat) (E : List En) : Prop := E.length = n ∧ (A = none → E = []) ∧ (∀ a, A = some a → Src w a (outL1 E)) ∧ ∀ e ∈ E, SlP w e.2.2.1 e.2.1.length e.2.1
theorem SlK.below {w w' : World} {A : Option Addr} {n : Nat} {E : List En} (h : SlK w A n E) (hb : Below w.heap.size w w') : SlK w' A n E := ⟨h.1, h.2.1, fun a ha => src_low (h.2.2.1 a ha) hb, fun e he => (h.2.2.2 e he).below hb⟩
theorem slk_some {w : World} {A : Option Addr} {n : Nat} {E : List En} (h : SlK w A n E) (hn : 0 < n) : ∃ a, A = some a := by
 cases A with
 | none =>
  have h1 := h.2.1 rfl
  have h2 := h.1
  rw [h1] at h2
  simp only [List.length_nil] at h2
  omega
 | some a => exact ⟨a, rfl⟩
theorem SlK.cell0 {w w' : World} {a : Addr} {n i : Nat} {E : List En} {k : List UInt8} {g : List Pn} {B : Option Addr} {d : Nat} (h : SlK w (some a) n E) (hb : Below w.heap.size w w') (he : E[i]? = some (k, g, B, d)) : w'.cell? ((a.add ((i : Int).toNat * 2)).add 0) = some (.string (mkB k)) := by
 rw [add_add]
 exact (h.below hb).2.2.1 a rfl _ _ (outL1_at he).1
theorem SlK.cell1 {w w' : World} {a : Addr} {n i : Nat} {E : List En} {k : List UInt8} {g : List Pn} {B : Option Addr} {d : Nat} (h : SlK w (some a) n E) (hb : Below w.heap.size w w') (he : E[i]? = some (k, g, B, d)) : w'.cell? ((a.add ((i : Int).toNat * 2)).add 1) = some (.slice B g.length d) := by
 rw [add_add]
 exact (h.below hb).2.2.1 a rfl _ _ (outL1_at he).2
theorem rws_slk {b : Nat} {L : List Sx.Rw} {ρ : List Nat} {w : World} (h : Rws b L ρ w) {A : Option Addr} {n c : Nat} {E : List En} (hx : (⟨32, 2, A, n, c, outL1 E⟩ : Sx.Rw) ∈ L) (hE : ∀ x ∈ cl1 E, x ∈ L) (hn : n = E.length) : SlK w A n E :=
 ⟨hn.symm, fun hA => by
  have := (h.isNil hx hA).1
  exact List.eq_nil_of_length_eq_zero (by simp only at this; omega), fun a ha => h.src hx ha, fun e he => rws_slp h (hE _ (List.mem_map.2 ⟨e, he, rfl⟩)) rfl⟩
def frSK (Aa Ab : Option Addr) (na nb ca cb i : Nat) : Fr := [(0, .sl Aa na ca), (1, .sl Ab nb cb), (5, .io .i64 (i : Int))]
def locSK (_ : Nat) : Sx.Loc := []
noncomputable def B12 : Code := (Tryz.f12.body).getD .skip
set_option maxHeartbeats 20000000 in
set_option maxRecDepth 100000 in
theorem rsame_keys {Aa Ab : Option Addr} {na ca nb cb : Nat} {E F : List En} (w : World) (hA : SlK w Aa na E) (hB : SlK w Ab nb F) (hEF : E.map (fun e => (e.1, e.2.1)) = F.map (fun e => (e.1, e.2.1))) (hna : na ≤ 200) (hg : ∀ e ∈ E, e.2.1.length ≤ 200) :
  Calls Tryz.prog 12 #[.slice Aa na ca, .slice Ab nb cb] w fun e w' => e = .returned (.bool true) ∧ Below w.heap.size w w' := by
 have hnm : na = nb := by
  have h8 := congrArg List.length hEF
  rw [List.length_map, List.length_map, hA.1, hB.1] at h8
  exact h8
 refine enter (fn := Tryz.f12) (c := B12) [.sl Aa na ca, .sl Ab nb cb] Tryz.func12 rfl rfl ?_
 refine zNq [0, 1, 11] 0 ?_
 refine At.res 11 ((↑na : Int) != (↑nb : Int)) false (by kernel_rfl) (by first | assumption | (simp only [*]; done) | (simp [*]; done)) ?_
 refine zN [0, 1, 5] 0 ⟨.code (sub B12 [1, 1, 0, 1, 4]), [.block 0, .seq (sub B12 pAQ15)], [(0, .sl Aa na ca), (1, .sl Ab nb cb), (5, .v (.int .i64 0))], []⟩ ?_
 refine At.canon _ rfl ?_
 refine At.slFr _ rfl ?_
 refine At.loop (σ := Nat) (sub B12 [1, 1, 0, 1, 4, 4]) (frSK Aa Ab na nb ca cb) locSK (fun i _ _ => i ≤ na) (fun i => na - i) 0 (by kernel_rfl) (by unfold subFr; kernel_rfl) (by kernel_rfl) (fun _ _ _ _ h => Nat.zero_le _) ?_
 intro i
 refine At.mono (F' := fun ρ w => noF ρ w ∧ i ≤ na) (fun ρ w h => ⟨trivial, h⟩) ?_
 refine At.pure fun h1 => ?_
 refine zNq [0, 1, 5, 15] 0 ?_
 rcases Bool.eq_false_or_eq_true (decide ((↑i : Int) < (↑na : Int))) with b0 | b0
 ·refine zR 15 b0 ?_
  refine zN [0, 1, 5, 18, 19] 0 ⟨pqops B12 [1, 1, 0, 1, 4, 4, 1, 0, 4, 0] 2, [.seq (sub B12 pAQ12), .block 1, .seq (sub B12 pAQ14), .next (Sx.Next w.heap.size w Tryz.f12.ntmps (frSK Aa Ab na nb ca cb) locSK (fun i x x_1 => i ≤ na) (fun i => na - i) i), .block 0, .seq (sub B12 pAQ15)], [(0, .sl Aa na ca), (1, .sl Ab nb cb), (5, .io .i64 (↑i : Int)), (18, .sl Aa na ca), (19, .io .i64 (↑i : Int))], []⟩ ?_
  have hi : i < na := by have := of_decide_eq_true b0; omega
  clear b0
  obtain ⟨⟨k, g, B, d⟩, he⟩ : ∃ e, E[i]? = some e := ⟨_, List.getElem?_eq_getElem (by rw [hA.1]; exact hi)⟩
  obtain ⟨⟨k', g', B', d'⟩, hf⟩ : ∃ e, F[i]? = some e := ⟨_, List.getElem?_eq_getElem (by rw [hB.1, ← hnm]; exact hi)⟩
  have hkg : (k, g) = (k', g') := by
   have h8 : (E.map (fun e => (e.1, e.2.1)))[i]? = some (k, g) := by rw [List.getElem?_map, he]; rfl
   rw [hEF, List.getElem?_map, hf] at h8
   injection h8 with h8
   exact h8.symm
  injection hkg with hk hg'
  subst hk hg'
  obtain ⟨a, rfl⟩ := slk_some hA (by omega)
  obtain ⟨b, rfl⟩ := slk_some hB (by omega)
  have hSA := hA.2.2.2 _ (List.mem_of_getElem? he)
  have hSB := hB.2.2.2 _ (List.mem_of_getElem? hf)
  have hgl := hg _ (List.mem_of_getElem? he)
  simp only at hSA hSB hgl
  refine At.idx a na 2 (i : Int) (by kernel_rfl) (by omega) (by omega) noF_stable ?_
  let kn0 : Go.Sx.K := .next (Sx.Next w.heap.size w Tryz.f12.ntmps (frSK (some a) (some b) na nb ca cb) locSK (fun i x x_1 => i ≤ na) (fun i => na - i) i)
  refine zN [0, 1, 5, 20] 0 ⟨pqops B12 [1, 1, 0, 1, 4, 4, 1, 0, 4, 0] 3, [.seq (sub B12 pAQ12), .block 1, .seq (sub B12 pAQ14), kn0, .block 0, .seq (sub B12 pAQ15)], [(0, .sl (some a) na ca), (1, .sl (some b) nb cb), (5, .io .i64 (↑i : Int)), (20, .v (.pointer (some (a.add ((↑i : Int).toNat * 2)))))], []⟩ ?_
  refine At.fax (a.add ((i : Int).toNat * 2)) 1 (by kernel_rfl) noF_stable ?_
  refine zN [0, 1, 5, 21] 0 ⟨pqops B12 [1, 1, 0, 1, 4, 4, 1, 0, 4, 0] 4, [.seq (sub B12 pAQ12), .block 1, .seq (sub B12 pAQ14), kn0, .block 0, .seq (sub B12 pAQ15)], [(0, .sl (some a) na ca), (1, .sl (some b) nb cb), (5, .io .i64 (↑i : Int)), (21, .v (.pointer (some (Addr.mk (a.add ((↑i : Int).toNat * 2)).block ((a.add ((↑i : Int).toNat * 2)).off + 1) none))))], []⟩ ?_
  refine At.ldx ((a.add ((i : Int).toNat * 2)).add 1) (.sl B g.length d) (by kernel_rfl) noF_stable (fun ρ w1 hm' _ => hA.cell1 hm'.below he) ?_
  refine zN [0, 1, 5, 22, 23, 24] 0 ⟨pqops B12 [1, 1, 0, 1, 4, 4, 1, 0, 4, 0] 7, [.seq (sub B12 pAQ12), .block 1, .seq (sub B12 pAQ14), kn0, .block 0, .seq (sub B12 pAQ15)], [(0, .sl (some a) na ca), (1, .sl (some b) nb cb), (5, .io .i64 (↑i : Int)), (22, .sl B g.length d), (23, .sl (some b) nb cb), (24, .io .i64 (↑i : Int))], []⟩ ?_
  refine At.idx b nb 2 (i : Int) (by kernel_rfl) (by omega) (by omega) noF_stable ?_
  refine zN [0, 1, 5, 22, 25] 0 ⟨pqops B12 [1, 1, 0, 1, 4, 4, 1, 0, 4, 0] 8, [.seq (sub B12 pAQ12), .block 1, .seq (sub B12 pAQ14), kn0, .block 0, .seq (sub B12 pAQ15)], [(0, .sl (some a) na ca), (1, .sl (some b) nb cb), (5, .io .i64 (↑i : Int)), (22, .sl B g.length d), (25, .v (.pointer (some (b.add ((↑i : Int).toNat * 2)))))], []⟩ ?_
  refine At.fax (b.add ((i : Int).toNat * 2)) 1 (by kernel_rfl) noF_stable ?_
  refine zN [0, 1, 5, 22, 26] 0 ⟨pqops B12 [1, 1, 0, 1, 4, 4, 1, 0, 4, 0] 9, [.seq (sub B12 pAQ12), .block 1, .seq (sub B12 pAQ14), kn0, .block 0, .seq (sub B12 pAQ15)], [(0, .sl (some a) na ca), (1, .sl (some b) nb cb), (5, .io .i64 (↑i : Int)), (22, .sl B g.length d), (26, .v (.pointer (some (Addr.mk (b.add ((↑i : Int).toNat * 2)).block ((b.add ((↑i : Int).toNat * 2)).off + 1) none))))], []⟩ ?_
  refine At.ldx ((b.add ((i : Int).toNat * 2)).add 1) (.sl B' g.length d') (by kernel_rfl) noF_stable (fun ρ w1 hm' _ => hB.cell1 hm'.below hf) ?_
  refine zN [0, 1, 5, 22, 27] 0 ⟨pqops B12 [1, 1, 0, 1, 4, 4, 1, 0, 4, 0] 10, [.seq (sub B12 pAQ12), .block 1, .seq (sub B12 pAQ14), kn0, .block 0, .seq (sub B12 pAQ15)], [(0, .sl (some a) na ca), (1, .sl (some b) nb cb), (5, .io .i64 (↑i : Int)), (22, .sl B g.length d), (27, .sl B' g.length d')], []⟩ ?_
  refine zC noF_stable 13 [.sl B g.length d, .sl B' g.length d'] (.v (.bool true)) (fun ρ _ w1 hi _ => (same_sl (A := B) (B := B') (n := g.length) (m := g.length) (c := d) (d := d') (ps := g) (qs := g) w1 (hSA.below hi.mem.below) (hSB.below hi.mem.below) (by omega)).mono fun e w2 h => ⟨h.1.trans (by rw [decide_eq_true rfl]; rfl), h.2⟩) ?_
  refine zN [0, 1, 5, 6, 29, 30] 0 ⟨pqops B12 [1, 1, 0, 1, 4, 4, 1, 0, 4, 1, 0] 2, [.seq (sub B12 pAQ9), .block 1, .seq (sub B12 pAQ14), kn0, .block 0, .seq (sub B12 pAQ15)], [(0, .sl (some a) na ca), (1, .sl (some b) nb cb), (5, .io .i64 (↑i : Int)), (6, .v (.bool true)), (29, .sl (some a) na ca), (30, .io .i64 (↑i : Int))], []⟩ ?_
  refine At.idx a na 2 (i : Int) (by kernel_rfl) (by omega) (by omega) noF_stable ?_
  refine zN [0, 1, 5, 6, 31] 0 ⟨pqops B12 [1, 1, 0, 1, 4, 4, 1, 0, 4, 1, 0] 3, [.seq (sub B12 pAQ9), .block 1, .seq (sub B12 pAQ14), kn0, .block 0, .seq (sub B12 pAQ15)], [(0, .sl (some a) na ca), (1, .sl (some b) nb cb), (5, .io .i64 (↑i : Int)), (6, .v (.bool true)), (31, .v (.pointer (some (a.add ((↑i : Int).toNat * 2)))))], []⟩ ?_
  refine At.fax (a.add ((i : Int).toNat * 2)) 0 (by kernel_rfl) noF_stable ?_
  refine zN [0, 1, 5, 6, 32] 0 ⟨pqops B12 [1, 1, 0, 1, 4, 4, 1, 0, 4, 1, 0] 4, [.seq (sub B12 pAQ9), .block 1, .seq (sub B12 pAQ14), kn0, .block 0, .seq (sub B12 pAQ15)], [(0, .sl (some a) na ca), (1, .sl (some b) nb cb), (5, .io .i64 (↑i : Int)), (6, .v (.bool true)), (32, .v (.pointer (some ((a.add ((↑i : Int).toNat * 2)).add 0))))], []⟩ ?_
  refine At.ldx ((a.add ((i : Int).toNat * 2)).add 0) (.so (mkB k)) (by kernel_rfl) noF_stable (fun ρ w1 hm' _ => hA.cell0 hm'.below he) ?_
  refine zN [0, 1, 5, 6, 33, 34, 35] 0 ⟨pqops B12 [1, 1, 0, 1, 4, 4, 1, 0, 4, 1, 0] 7, [.seq (sub B12 pAQ9), .block 1, .seq (sub B12 pAQ14), kn0, .block 0, .seq (sub B12 pAQ15)], [(0, .sl (some a) na ca), (1, .sl (some b) nb cb), (5, .io .i64 (↑i : Int)), (6, .v (.bool true)), (33, .so (mkB k)), (34, .sl (some b) nb cb), (35, .io .i64 (↑i : Int))], []⟩ ?_
  refine At.idx b nb 2 (i : Int) (by kernel_rfl) (by omega) (by omega) noF_stable ?_
  refine zN [0, 1, 5, 6, 33, 36] 0 ⟨pqops B12 [1, 1, 0, 1, 4, 4, 1, 0, 4, 1, 0] 8, [.seq (sub B12 pAQ9), .block 1, .seq (sub B12 pAQ14), kn0, .block 0, .seq (sub B12 pAQ15)], [(0, .sl (some a) na ca), (1, .sl (some b) nb cb), (5, .io .i64 (↑i : Int)), (6, .v (.bool true)), (33, .so (mkB k)), (36, .v (.pointer (some (b.add ((↑i : Int).toNat * 2)))))], []⟩ ?_
  refine At.fax (b.add ((i : Int).toNat * 2)) 0 (by kernel_rfl) noF_stable ?_
  refine zN [0, 1, 5, 6, 33, 37] 0 ⟨pqops B12 [1, 1, 0, 1, 4, 4, 1, 0, 4, 1, 0] 9, [.seq (sub B12 pAQ9), .block 1, .seq (sub B12 pAQ14), kn0, .block 0, .seq (sub B12 pAQ15)], [(0, .sl (some a) na ca), (1, .sl (some b) nb cb), (5, .io .i64 (↑i : Int)), (6, .v (.bool true)), (33, .so (mkB k)), (37, .v (.pointer (some ((b.add ((↑i : Int).toNat * 2)).add 0))))], []⟩ ?_
  refine At.ldx ((b.add ((i : Int).toNat * 2)).add 0) (.so (mkB k)) (by kernel_rfl) noF_stable (fun ρ w1 hm' _ => hB.cell0 hm'.below hf) ?_
  refine zNq [0, 1, 5, 6, 40] 0 ?_
  refine At.res 40 (!(mkB k).toList == (mkB k).toList) false (by kernel_rfl) (by first | assumption | (simp only [*]; done) | (simp [*]; done)) ?_
  refine zN [0, 1, 5, 6] 0 ⟨.exit .normal, [kn0, .block 0, .seq (sub B12 pAQ15)], [(0, .sl (some a) na ca), (1, .sl (some b) nb cb), (5, .io .i64 (IntKind.i64.wrap ((↑i : Int) + 1))), (6, .v (.bool true))], []⟩ ?_
  have hw3 : IntKind.i64.wrap ((i : Int) + 1) = ((i + 1 : Nat) : Int) := by
   rw [wrap63 (by omega) (by omega)]
   omega
  rw [hw3]
  refine At.next (σ := Nat) (i + 1) rfl rfl (by unfold subFr; kernel_rfl) (by kernel_rfl) (fun ρ a' w' hi' _ => (by omega : i + 1 ≤ na)) ?_
  show na - (i + 1) < na - i
  omega
 refine zR 15 b0 ?_
 refine zN [4] 0 ⟨.exit .ret, [], [(4, .v (.bool true))], []⟩ ?_
 refine zE (.v (.bool true)) ?_
 intro ρ w9 hm hf
 exact ⟨rfl, hm.below⟩
end Go.Proofs.YtkjnbafdmjakgaaGreatDoor
end
section
/- Several rows that a callee makes at once, beside those of one's own; a row given away; a cell stored into a row of wider elements. -/
namespace Go.Sx
open Go.RowKit
section
variable {P : Program} {Q : Exit → Act → World → Prop} {N : Nat} {w0 : World} {ntm : Nat} {F : List Nat → World → Prop}
theorem Rws.app {w w' : World} {ρ : List Nat} {loc : Loc} {L R : List Rw} (hm : WInv N w0 ρ loc w) (hL : Rws N L ρ w) (hR : Rws w.heap.size R [] w') (hb : Below w.heap.size w w') : Rws N (R ++ L) ρ w' := by
 have hge : ∀ x ∈ R, ∀ g, x.own = Option.some g → w.heap.size ≤ g := fun x hx g hg => ((hR.1 x hx).1.lt g hg).1
 refine ⟨fun x hx => ?_, List.pairwise_append.2 ⟨hR.2, hL.2, fun x hx y hy g hg he => ?_⟩⟩
 ·rcases List.mem_append.1 hx with hx | hx
  ·have hr := hR.1 x hx
   refine ⟨own_base' hr.1 hm.hN, fun g hg hmm => ?_⟩
   have h5 := hge x hx g hg
   have h6 := (hm.ge g hmm).2
   omega
  exact (hL.1 x hx).keep (Grow.refl _ _) (Keep.of_below hb)
 have h5 := hge x hx g hg
 have h6 := ((hL.1 y hy).1.lt g he).2
 omega
theorem At.rowsCall {s : S} {L : List Rw} {X : Type} (g : FuncId) (vs : List SV) (rv : X → SV) (R : X → List Rw) (p : X → Prop) (hc : s.call? = some (g, vs)) (hb : bodied P g = true) (hd : s.dstOk ntm = true) (hq : (match s.pc with | .ops .. => true | _ => false) = true)
  (hr : ∀ ρ w, WInv N w0 ρ s.loc w → Rws N L ρ w → Calls P g (SV.denL ρ vs).toArray w fun e w' => ∃ x, e = .returned ((rv x).den ρ) ∧ Rws w.heap.size (R x) [] w' ∧ Below w.heap.size w w' ∧ p x)
  (h : ∀ x, p x → At P Q N w0 ntm (Rws N (R x ++ L)) (s.tail ntm (rv x))) : At P Q N w0 ntm (Rws N L) s := by
 refine At.callx Rws.stable g vs rv (fun x ρ w => Rws N (R x ++ L) ρ w ∧ p x) (fun x ρ w ρ1 w1 hg hk hf => ⟨Rws.stable ρ w ρ1 w1 hg hk hf.1, hf.2⟩) hc hb hd hq (fun ρ a w hi hf => (hr ρ w hi.mem hf).mono ?_) (fun x => At.mono (F' := fun ρ w => Rws N (R x ++ L) ρ w ∧ p x) (fun ρ w h => h.2) (At.pure fun hp => h x hp))
 rintro e w' ⟨x, rfl, h1, h2, h3⟩
 exact ⟨x, rfl, h2, Rws.app hi.mem hf h1 h2, h3⟩
theorem At.giveR {s : S} {L : List Rw} {x : Rw} (ok : Option Addr → Nat → Nat → Nat → Prop) (hok : ∀ A n c k, ok A n c k ↔ (Value.slice A n c).ownBlock = some k) (g : FuncId) (hc : s.call? = some (g, [.sl x.A x.n x.c])) (hb : bodied P g = true) (hd : s.dstOk ntm = true) (hp : s.plain = true) (hsc : scopedFr s.loc.length s.fr = true) (hloc : s.loc = [])
  (hr : ∀ w, N ≤ w.heap.size → w.ownsRow N x.e x.size (.slice x.A x.n x.c) x.n x.xs → Calls P g #[.slice x.A x.n x.c] w fun e w' => e = .returned (.tuple #[]) ∧ Chg (ok x.A x.n x.c) w w')
  (h : At P Q N w0 ntm (Rws N L) ((s.tail ntm (.tup [])).withLoc s.loc)) : At P Q N w0 ntm (Rws N (x :: L)) s := by
 refine At.callg (X := Unit) g [.sl x.A x.n x.c] (fun _ => .tup []) (fun _ => s.loc) (fun _ => Rws N L) hc hb hd hp hsc ?_ (fun _ => h)
 intro ρ w hm hf
 have hx := hf.1 x (List.mem_cons_self ..)
 have hlen : ρ = [] := List.length_eq_zero_iff.1 (by rw [hm.len, hloc]; rfl)
 refine (hr w hm.hN hx.1).mono ?_
 rintro e w' ⟨rfl, k⟩
 have hge : ∀ g, ok x.A x.n x.c g → N ≤ g := fun g hg => (hx.1.lt g ((hok _ _ _ _).1 hg)).1
 refine ⟨(), ρ, rfl, Grow.refl _ _, ⟨hm.below.trans ⟨k.os, k.tape, k.output, k.size, fun i hi => k.block i (Nat.lt_of_lt_of_le hi hm.hN) fun ho => ?_⟩, Nat.le_trans hm.hN k.size, hm.len, hm.nodup, fun b hb => ?_, fun i c t hi => ?_⟩, fun y hy => ?_, (List.pairwise_cons.1 hf.2).2⟩
 ·have := hge i ho; omega
 ·rw [hlen] at hb; cases hb
 ·rw [hloc] at hi; simp at hi
 refine Row.chg' (hf.1 y (List.mem_cons_of_mem _ hy)) fun g hg => k.block g (((hf.1 y (List.mem_cons_of_mem _ hy)).1.lt g hg).2) fun ho => ?_
 exact (List.pairwise_cons.1 hf.2).1 y hy g ((hok _ _ _ _).1 ho) hg
theorem At.stRs {s : S} {e size n c : Nat} {a : Addr} {xs : List Value} {L : List Rw} (j : Nat) (p : Addr) (cv : SV) (u : Value) (hq : stI P s = some (p, cv)) (hp : p = a.add j) (hj : j < n * size) (hu : ∀ ρ, cv.den ρ = u)
  (h : At P Q N w0 ntm (Rws N (⟨e, size, some a, n, c, xs.set j u⟩ :: L)) s.past) : At P Q N w0 ntm (Rws N (⟨e, size, some a, n, c, xs⟩ :: L)) s := by
 unfold stI at hq
 split at hq
 ·rename_i o ho hpl
  obtain ⟨all, rest, h1, h2, h3⟩ := S.past_at ho hpl
  intro ρ act w hi hf
  have hrow := hf.1 _ (List.mem_cons_self ..)
  simp only at hrow
  have ha : a = ⟨a.block, 0, none⟩ := by
   rcases hrow.1.2 with ⟨h', _⟩ | ⟨g, cap, cur, hv, _⟩
   ·cases h'
   injection hv with hv _ _
   injection hv with hv
   rw [hv]
  generalize hg : a.block = g at ha
  subst ha
  have hlen : xs.length = n * size := hrow.1.1
  have hst := hrow.1.stored j u
  obtain ⟨g', hg', hcell⟩ := hrow.cell (j := j) hj
  injection hg' with hg'
  injection hg' with hg' _ _
  subst hg'
  have hp' : p.add 0 = ⟨g, j, none⟩ := by rw [hp, add_ok, add_ok, Nat.zero_add, Nat.add_zero]
  rw [List.getElem?_eq_getElem (by omega)] at hcell
  obtain ⟨hd, hrun⟩ := run_stQ hi.act hq (w := w) (v0 := xs[j]) (by rw [hp']; exact hcell) (by rw [hp']; exact hrow.1.frozenAt j)
  rw [hp', hu] at hrun
  have hown : ∀ k, some g = some k → N ≤ k ∧ k ∉ ρ := fun k hk => by
   injection hk with hk
   subst hk
   exact ⟨(hrow.1.lt g rfl).1, hrow.2 g rfl⟩
  have hk := h ρ act (w.setCell ⟨g, j, none⟩ u) (by rw [h2]; exact ⟨hi.act, hi.mem.grown hst.2 hown⟩) (hf.grown (y := ⟨e, size, some ⟨g, 0, none⟩, n, c, xs.set j u⟩) ⟨hst.1, hrow.2⟩ hst.2 (.inl rfl))
  rw [h2] at hk
  rw [h1]
  show wpList P all _ (o :: rest) act w
  unfold wpList
  rw [if_pos (guardS_ok hi.act h3)]
  refine .inl ?_
  unfold Oper.wp
  rw [hrun, Oper.upon_skip, hd]
  exact hk
 cases hq
end
end Go.Sx
namespace Go.Proofs.YtkjnbafdmjakgaaGreatDoor
open Go.RowKit Go.Sx
theorem outL1_cons (e : En) (E : List En) : outL1 (e :: E) = .string (mkB e.1) :: .slice e.2.2.1 e.2.1.length e.2.2.2 :: outL1 E := by simp [outL1]
theorem groups_le {E : List En} {ls : List Pn} (h : E.map (fun e => (e.1, e.2.1)) = keysM ls) : E.length ≤ ls.length ∧ ∀ e ∈ E, e.2.1.length ≤ ls.length := by
 refine ⟨?_, fun e he => ?_⟩
 ·have h8 := congrArg List.length h
  have h9 := keysM_len ls
  rw [List.length_map] at h8
  omega
 have h8 : (e.1, e.2.1) ∈ keysM ls := h ▸ List.mem_map.2 ⟨e, he, rfl⟩
 rw [(keysOf_mem (keysM_of ls) h8).1]
 exact grp_le _ _
theorem rws_lent {b : Nat} {L : List Sx.Rw} {ρ : List Nat} {w : World} (h : Rws b L ρ w) {A : Option Addr} {n c : Nat} {ps : List Pn} (hx : (⟨40, 9, A, n + 1, c, pv ps ++ markV⟩ : Sx.Rw) ∈ L) : w.ownsRow b 40 9 (.slice A (n + 1) c) (n + 1) (pv ps ++ markV) := (h.1 _ hx).1
theorem rws_lent_sl {b : Nat} {L : List Sx.Rw} {ρ : List Nat} {w : World} (h : Rws b L ρ w) {A : Option Addr} {n c : Nat} {ps : List Pn} (hx : (⟨40, 9, A, n + 1, c, pv ps ++ markV⟩ : Sx.Rw) ∈ L) : SlP w A n ps := row_head (rws_lent h hx)
theorem perm_by {α : Type} {l l' : List α} (h : ∀ (d : DecidableEq α) (a : α), l.count a = l'.count a) : l.Perm l' := by
 classical
 exact List.perm_iff_count.2 (h inferInstance)
end Go.Proofs.YtkjnbafdmjakgaaGreatDoor
end
