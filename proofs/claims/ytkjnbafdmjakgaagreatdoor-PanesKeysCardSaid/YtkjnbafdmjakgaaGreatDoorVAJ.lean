/- Joined texts: CA, TF, TG, TH, TI, TJ, TP. -/
import Derived.Test.YtkjnbafdmjakgaaGreatDoorVAI
set_option linter.unusedSimpArgs false
set_option linter.unusedVariables false
namespace Go.Sx
open Go
def pAJ0 : List Nat := [1, 0, 1, 2, 1]
def pAJ1 : List Nat := [1, 1, 0, 1]
def pAJ2 : List Nat := [1, 1, 1]
end Go.Sx
section
namespace Go.Proofs.YtkjnbafdmjakgaaGreatDoor
open Go.RowKit Go.Sx
def cmpS (x y : ByteArray) : Int := if Op.bytesLess x.toList y.toList = true then -1 else if (!(Op.bytesLess x.toList y.toList || x.toList == y.toList)) = true then 1 else 0
def cmpI (a b : Int) : Int := if a < b then -1 else if a > b then 1 else 0
noncomputable def B47 : Code := (Tryz.f47.body).getD .skip
set_option maxHeartbeats 4000000 in
set_option maxRecDepth 100000 in
theorem nan_str (x : ByteArray) (w : World) :
  Calls Tryz.prog 47 #[.string x] w fun e w' => e = .returned (.bool false) ∧ Below w.heap.size w w' := by
 refine enter (fn := Tryz.f47) (c := B47) [.so x] Tryz.func47 rfl rfl ?_
 refine zM [2] 0 ⟨.exit .ret, [], [(2, .bo !x.toList == x.toList)], []⟩ ?_
 refine zE (.bo !x.toList == x.toList) ?_
 intro ρ w9 hm' hf
 exact ⟨by simp [SV.den], hm'.below⟩
noncomputable def B29 : Code := (Tryz.f29.body).getD .skip
set_option maxHeartbeats 4000000 in
set_option maxRecDepth 100000 in
theorem cmp_str (x y : ByteArray) (w : World) :
  Calls Tryz.prog 29 #[.string x, .string y] w fun e w' => e = .returned (.int .i64 (cmpS x y)) ∧ Below w.heap.size w w' := by
 refine enter (fn := Tryz.f29) (c := B29) [.so x, .so y] Tryz.func29 rfl rfl ?_
 refine zM [0, 1, 7] 0 ⟨pops B29 [1, 0] 1, [.seq (sub B29 [1, 1])], [(0, .so x), (1, .so y), (7, .so x)], []⟩ ?_
 refine zC noF_stable 47 [.so x] (.v (.bool false)) (fun _ _ w1 hi _ => nan_str x w1) ?_
 refine zM [0, 1, 5, 9] 0 ⟨pops B29 [1, 1, 0] 1, [.seq (sub B29 pAJ2)], [(0, .so x), (1, .so y), (5, .v (.bool false)), (9, .so y)], []⟩ ?_
 refine zC noF_stable 47 [.so y] (.v (.bool false)) (fun _ _ w1 hi _ => nan_str y w1) ?_
 refine zM [0, 1, 16] 0 ⟨.code (sub B29 [1, 1, 1, 1, 1, 0, 1]), [.seq (sub B29 [1, 1, 1, 1, 1, 1])], [(0, .so x), (1, .so y), (16, .bo (Op.bytesLess x.toList y.toList))], []⟩ ?_
 rcases Bool.eq_false_or_eq_true (Op.bytesLess x.toList y.toList) with b0 | b0
 ·refine zR 16 b0 ?_
  refine zM [4] 0 ⟨.exit .ret, [], [(4, .v (.int .i64 (-1)))], []⟩ ?_
  refine zE (.v (.int .i64 (-1))) ?_
  have hc : cmpS x y = -1 := if_pos b0
  intro ρ w9 hm' hf
  exact ⟨by rw [hc]; rfl, hm'.below⟩
 refine zR 16 b0 ?_
 refine zM [19] 0 ⟨.code (sub B29 [1, 1, 1, 1, 1, 1, 0, 1]), [.seq (sub B29 [1, 1, 1, 1, 1, 1, 1])], [(19, .bo !(Op.bytesLess x.toList y.toList || x.toList == y.toList))], []⟩ ?_
 rcases Bool.eq_false_or_eq_true (!(Op.bytesLess x.toList y.toList || x.toList == y.toList)) with b1 | b1
 ·refine zR 19 b1 ?_
  refine zM [4] 0 ⟨.exit .ret, [], [(4, .v (.int .i64 1))], []⟩ ?_
  refine zE (.v (.int .i64 1)) ?_
  have hc : cmpS x y = 1 := (if_neg (by rw [b0]; decide)).trans (if_pos b1)
  intro ρ w9 hm' hf
  exact ⟨by rw [hc]; rfl, hm'.below⟩
 refine zR 19 b1 ?_
 refine zM [4] 0 ⟨.exit .ret, [], [(4, .v (.int .i64 0))], []⟩ ?_
 refine zE (.v (.int .i64 0)) ?_
 have hc : cmpS x y = 0 := (if_neg (by rw [b0]; decide)).trans (if_neg (by rw [b1]; decide))
 intro ρ w9 hm' hf
 exact ⟨by rw [hc]; rfl, hm'.below⟩
noncomputable def B48 : Code := (Tryz.f48.body).getD .skip
set_option maxHeartbeats 4000000 in
set_option maxRecDepth 100000 in
theorem nan_int (x : Int) (w : World) :
  Calls Tryz.prog 48 #[.int .i64 x] w fun e w' => e = .returned (.bool false) ∧ Below w.heap.size w w' := by
 refine enter (fn := Tryz.f48) (c := B48) [.io .i64 x] Tryz.func48 rfl rfl ?_
 refine zM [2] 0 ⟨.exit .ret, [], [(2, .bo (x != x))], []⟩ ?_
 refine zE (.bo (x != x)) ?_
 intro ρ w9 hm' hf
 exact ⟨by simp [SV.den], hm'.below⟩
noncomputable def B30 : Code := (Tryz.f30.body).getD .skip
set_option maxHeartbeats 4000000 in
set_option maxRecDepth 100000 in
theorem cmp_int (x y : Int) (w : World) :
  Calls Tryz.prog 30 #[.int .i64 x, .int .i64 y] w fun e w' => e = .returned (.int .i64 (cmpI x y)) ∧ Below w.heap.size w w' := by
 refine enter (fn := Tryz.f30) (c := B30) [.io .i64 x, .io .i64 y] Tryz.func30 rfl rfl ?_
 refine zM [0, 1, 7] 0 ⟨pops B30 [1, 0] 1, [.seq (sub B30 [1, 1])], [(0, .io .i64 x), (1, .io .i64 y), (7, .io .i64 x)], []⟩ ?_
 refine zC noF_stable 48 [.io .i64 x] (.v (.bool false)) (fun _ _ w1 hi _ => nan_int x w1) ?_
 refine zM [0, 1, 5, 9] 0 ⟨pops B30 [1, 1, 0] 1, [.seq (sub B30 pAJ2)], [(0, .io .i64 x), (1, .io .i64 y), (5, .v (.bool false)), (9, .io .i64 y)], []⟩ ?_
 refine zC noF_stable 48 [.io .i64 y] (.v (.bool false)) (fun _ _ w1 hi _ => nan_int y w1) ?_
 refine zM [0, 1, 16] 0 ⟨.code (sub B30 [1, 1, 1, 1, 1, 0, 1]), [.seq (sub B30 [1, 1, 1, 1, 1, 1])], [(0, .io .i64 x), (1, .io .i64 y), (16, .bo (decide (x < y)))], []⟩ ?_
 rcases Bool.eq_false_or_eq_true (decide (x < y)) with b0 | b0
 ·refine zR 16 b0 ?_
  refine zM [4] 0 ⟨.exit .ret, [], [(4, .v (.int .i64 (-1)))], []⟩ ?_
  refine zE (.v (.int .i64 (-1))) ?_
  have h0 : x < y := of_decide_eq_true b0
  have hc : cmpI x y = -1 := if_pos h0
  intro ρ w9 hm' hf
  exact ⟨by rw [hc]; rfl, hm'.below⟩
 refine zR 16 b0 ?_
 refine zM [19] 0 ⟨.code (sub B30 [1, 1, 1, 1, 1, 1, 0, 1]), [.seq (sub B30 [1, 1, 1, 1, 1, 1, 1])], [(19, .bo (decide (x > y)))], []⟩ ?_
 rcases Bool.eq_false_or_eq_true (decide (x > y)) with b1 | b1
 ·refine zR 19 b1 ?_
  refine zM [4] 0 ⟨.exit .ret, [], [(4, .v (.int .i64 1))], []⟩ ?_
  refine zE (.v (.int .i64 1)) ?_
  have h0 : ¬ x < y := of_decide_eq_false b0
  have h1 : x > y := of_decide_eq_true b1
  have hc : cmpI x y = 1 := (if_neg h0).trans (if_pos h1)
  intro ρ w9 hm' hf
  exact ⟨by rw [hc]; rfl, hm'.below⟩
 refine zR 19 b1 ?_
 refine zM [4] 0 ⟨.exit .ret, [], [(4, .v (.int .i64 0))], []⟩ ?_
 refine zE (.v (.int .i64 0)) ?_
 have h0 : ¬ x < y := of_decide_eq_false b0
 have h1 : ¬ x > y := of_decide_eq_false b1
 have hc : cmpI x y = 0 := (if_neg h0).trans (if_neg h1)
 intro ρ w9 hm' hf
 exact ⟨by rw [hc]; rfl, hm'.below⟩
def orI : List Int → Int
 | [] => 0
 | x :: l => if x = 0 then orI l else x
theorem int_cell {b i : Nat} {t : TypeId} {l : List Int} {x : Int} {w w1 : World} (h : w.heap[b]? = some (.cells (l.map fun x => Value.int .i64 x).toArray t (0, 0))) (hb : Below w.heap.size w w1) (hx : l[i]? = some x) : w1.cell? ((⟨b, 0, none⟩ : Addr).add ((i : Int).toNat * 1)) = some (.int .i64 x) := by
 rw [add_ok, Int.toNat_natCast]
 unfold World.cell?
 rw [hb.block b (Array.getElem?_eq_some_iff.1 h).1, h]
 simp [hx]
def frO (b n : Nat) (i : Nat) : Fr := [(3, .io .i64 0), (6, .sl (some ⟨b, 0, none⟩) n n), (7, .io .i64 (n : Int)), (8, .io .i64 (i : Int))]
def locO (_ : Nat) : Sx.Loc := []
noncomputable def B28 : Code := (Tryz.f28.body).getD .skip
set_option maxHeartbeats 4000000 in
set_option maxRecDepth 100000 in
theorem or_any (b : Nat) (l : List Int) (n : Nat) (hn : l.length = n) (hbig : n ≤ 1000) {t : TypeId} (w : World) (h : w.heap[b]? = some (.cells (l.map fun x => Value.int .i64 x).toArray t (0, 0))) :
  Calls Tryz.prog 28 #[.slice (some ⟨b, 0, none⟩) n n] w fun e w' => e = .returned (.int .i64 (orI l)) ∧ Below w.heap.size w w' := by
 refine enter (fn := Tryz.f28) (c := B28) [.sl (some ⟨b, 0, none⟩) n n] Tryz.func28 rfl rfl ?_
 refine zN [3, 6, 7, 8] 0 ⟨.code (sub B28 [1, 1, 0, 1, 4]), [.block 0, .seq (sub B28 pAJ2)], [(3, .v (.int .i64 0)), (6, .sl (some (Addr.mk b 0 none)) n n), (7, .io .i64 (↑n : Int)), (8, .v (.int .i64 0))], []⟩ ?_
 generalize hR : orI l = R
 refine At.canon _ rfl ?_
 refine At.loop (σ := Nat) (sub B28 [1, 1, 0, 1, 4, 4]) (frO b n) locO (fun i _ _ => i ≤ n ∧ orI (l.drop i) = R) (fun i => n - i) 0 (by kernel_rfl) (by unfold subFr; kernel_rfl) (by kernel_rfl) (fun _ _ _ _ h => ⟨Nat.zero_le _, hR⟩) ?_
 intro i
 refine At.mono (F' := fun ρ w => noF ρ w ∧ (i ≤ n ∧ orI (l.drop i) = R)) (fun ρ w h => ⟨trivial, h⟩) ?_
 refine At.pure fun ⟨h1, h2⟩ => ?_
 refine zNq [3, 6, 7, 8, 9] 0 ?_
 rcases Bool.eq_false_or_eq_true (decide ((↑i : Int) < (↑n : Int))) with b0 | b0
 ·refine zR 9 b0 ?_
  refine zN [3, 6, 7, 8] 0 ⟨pops B28 [1, 1, 0, 1, 4, 4, 1, 1, 0, 4, 0] 0, [.seq (sub B28 [1, 1, 0, 1, 4, 4, 1, 1, 0, 4, 1]), .block 1, .seq (sub B28 [1, 1, 0, 1, 4, 4, 1, 1, 1]), .next (Sx.Next w.heap.size w Tryz.f28.ntmps (frO b n) locO (fun i x x_1 => i ≤ n ∧ orI (List.drop i l) = R) (fun i => n - i) i), .block 0, .seq (sub B28 pAJ2)], [(3, .io .i64 0), (6, .sl (some (Addr.mk b 0 none)) n n), (7, .io .i64 (↑n : Int)), (8, .io .i64 (↑i : Int))], []⟩ ?_
  have hi : i < n := by have := of_decide_eq_true b0; omega
  clear b0
  obtain ⟨x, hx⟩ : ∃ x, l[i]? = some x := ⟨_, List.getElem?_eq_getElem (by omega)⟩
  rw [drop_at hx] at h2
  simp only [orI] at h2
  refine At.idx ⟨b, 0, none⟩ n 1 (i : Int) (by kernel_rfl) (by omega) (by omega) noF_stable ?_
  refine At.ldx ((⟨b, 0, none⟩ : Addr).add ((i : Int).toNat * 1)) (.io .i64 x) (by kernel_rfl) noF_stable (fun ρ w1 hm' _ => int_cell h hm'.below hx) ?_
  refine zNq [3, 5, 6, 7, 8, 14] 0 ?_
  rcases Bool.eq_false_or_eq_true (x != 0) with b0 | b0
  ·refine zR 14 b0 ?_
   refine zN [2] 0 ⟨.exit .ret, [], [(2, .io .i64 x)], []⟩ ?_
   refine zE (.io .i64 x) ?_
   have hx0 : x ≠ 0 := by simpa using b0
   rw [if_neg hx0] at h2
   subst h2
   intro ρ w9 hm' hf
   exact ⟨rfl, hm'.below⟩
  refine zR 14 b0 ?_
  refine zN [3, 6, 7, 8] 0 ⟨.exit .normal, [.next (Sx.Next w.heap.size w Tryz.f28.ntmps (frO b n) locO (fun i x x_1 => i ≤ n ∧ orI (List.drop i l) = R) (fun i => n - i) i), .block 0, .seq (sub B28 pAJ2)], [(3, .io .i64 0), (6, .sl (some (Addr.mk b 0 none)) n n), (7, .io .i64 (↑n : Int)), (8, .io .i64 (IntKind.i64.wrap ((↑i : Int) + 1)))], []⟩ ?_
  have hx0 : x = 0 := by simpa using b0
  rw [if_pos hx0] at h2
  have hw3 : IntKind.i64.wrap ((i : Int) + 1) = ((i + 1 : Nat) : Int) := by
   rw [wrap63 (by omega) (by omega)]
   omega
  rw [hw3]
  refine At.next (σ := Nat) (i + 1) rfl rfl (by unfold subFr; kernel_rfl) (by kernel_rfl) ?_ ?_
  ·intro ρ a' w' hi' hf
   exact ⟨by omega, h2⟩
  show n - (i + 1) < n - i
  omega
 refine zR 9 b0 ?_
 refine zN [2] 0 ⟨.exit .ret, [], [(2, .io .i64 0)], []⟩ ?_
 refine zE (.io .i64 0) ?_
 have hi : ¬ (i : Int) < (n : Int) := of_decide_eq_false b0
 rw [List.drop_eq_nil_of_le (by omega)] at h2
 subst h2
 intro ρ w9 hm' hf
 exact ⟨rfl, hm'.below⟩
end Go.Proofs.YtkjnbafdmjakgaaGreatDoor
end
section
/- The orders of the two kinds of maps, plain. -/
namespace Go.Proofs.YtkjnbafdmjakgaaGreatDoor
open Go.RowKit Go.Sx
theorem less_nil : ∀ l : List UInt8, Op.bytesLess l [] = false
 | [] => rfl
 | _ :: _ => rfl
theorem less_irr : ∀ l : List UInt8, Op.bytesLess l l = false
 | [] => rfl
 | a :: l => by
  simp only [Op.bytesLess]
  have := less_irr l
  simp [this]
theorem less_trans : ∀ a b c : List UInt8, Op.bytesLess a b = true → Op.bytesLess b c = true → Op.bytesLess a c = true
 | _, [], _, h, _ => by rw [less_nil] at h; cases h
 | _, _ :: _, [], _, h => by rw [less_nil] at h; cases h
 | [], _ :: _, _ :: _, _, _ => rfl
 | x :: a, y :: b, z :: c, h1, h2 => by
  have ih := less_trans a b c
  simp only [Op.bytesLess, Bool.or_eq_true, Bool.and_eq_true, decide_eq_true_eq, beq_iff_eq] at h1 h2 ⊢
  rcases h1 with h1 | ⟨h1, h1'⟩
  ·rcases h2 with h2 | ⟨h2, h2'⟩
   ·exact .inl (by simp only [UInt8.lt_iff_toNat_lt] at *; omega)
   exact .inl (h2 ▸ h1)
  rcases h2 with h2 | ⟨h2, h2'⟩
  ·exact .inl (h1 ▸ h2)
  exact .inr ⟨h1.trans h2, ih h1' h2'⟩
theorem less_tri : ∀ a b : List UInt8, Op.bytesLess a b = false → Op.bytesLess b a = false → a = b
 | [], [], _, _ => rfl
 | [], _ :: _, h, _ => by cases h
 | _ :: _, [], _, h => by cases h
 | x :: a, y :: b, h1, h2 => by
  have ih := less_tri a b
  simp only [Op.bytesLess, Bool.or_eq_false_iff, Bool.and_eq_false_iff, decide_eq_false_iff_not, beq_eq_false_iff_ne] at h1 h2
  have e : x = y := UInt8.toNat_inj.1 (by
   have h3 := h1.1; have h4 := h2.1
   simp only [UInt8.lt_iff_toNat_lt] at h3 h4
   omega)
  subst e
  rw [ih (h1.2.resolve_left fun h => h rfl) (h2.2.resolve_left fun h => h rfl)]
theorem less_anti {a b : List UInt8} (h : Op.bytesLess a b = true) : Op.bytesLess b a = false := by
 cases h2 : Op.bytesLess b a with
 | false => rfl
 | true => exact absurd (less_trans a b a h h2) (by rw [less_irr]; decide)
def cmp1 (a b : List UInt8) : Int := cmpS (mkB a) (mkB b)
theorem mkB_list (a : List UInt8) : (mkB a).toList = a := by rw [ByteArray.toList_eq]; rfl
theorem cmp1_lt {a b : List UInt8} : cmp1 a b < 0 ↔ Op.bytesLess a b = true := by
 unfold cmp1 cmpS
 rw [mkB_list, mkB_list]
 constructor
 ·intro h
  split at h
  ·assumption
  split at h <;> omega
 intro h
 rw [if_pos h]
 decide
theorem cmp1_gt {a b : List UInt8} : 0 < cmp1 a b ↔ Op.bytesLess b a = true := by
 unfold cmp1 cmpS
 rw [mkB_list, mkB_list]
 constructor
 ·intro h
  split at h
  ·omega
  rename_i h1
  split at h
  ·rename_i h2
   cases h3 : Op.bytesLess b a with
   | true => rfl
   | false =>
    have e := less_tri a b (by simpa using h1) h3
    subst e
    simp at h2
  omega
 intro h
 have h1 := less_anti h
 have hne : (a == b) = false := by
  rw [beq_eq_false_iff_ne]
  intro e
  subst e
  rw [less_irr] at h
  cases h
 rw [h1, hne]
 decide
theorem lin1 : Lin cmp1 where
 anti a b := by rw [cmp1_lt, cmp1_gt]
 eq a b := by
  constructor
  ·intro h
   refine less_tri a b ?_ ?_
   ·cases h1 : Op.bytesLess a b with
    | false => rfl
    | true => have := cmp1_lt.2 h1; omega
   cases h1 : Op.bytesLess b a with
   | false => rfl
   | true => have := cmp1_gt.2 h1; omega
  intro h
  subst h
  have h1 : ¬ cmp1 a a < 0 := by rw [cmp1_lt, less_irr]; decide
  have h2 : ¬ 0 < cmp1 a a := by rw [cmp1_gt, less_irr]; decide
  omega
 trans a b c h1 h2 := cmp1_lt.2 (less_trans a b c (cmp1_lt.1 h1) (cmp1_lt.1 h2))
theorem cmpI_lt {a b : Int} : cmpI a b < 0 ↔ a < b := by
 unfold cmpI
 split
 ·exact ⟨fun _ => by assumption, fun _ => by decide⟩
 split <;> omega
theorem cmpI_gt {a b : Int} : 0 < cmpI a b ↔ b < a := by
 unfold cmpI
 split
 ·omega
 split <;> omega
def cmp2 (a b : AtK) : Int := if cmp1 a.key b.key ≠ 0 then cmp1 a.key b.key else if cmpI a.st b.st ≠ 0 then cmpI a.st b.st else cmpI a.en b.en
theorem cmp2_lt {a b : AtK} : cmp2 a b < 0 ↔ cmp1 a.key b.key < 0 ∨ (a.key = b.key ∧ (a.st < b.st ∨ (a.st = b.st ∧ a.en < b.en))) := by
 have e := lin1.eq a.key b.key
 have i1 := @cmpI_lt a.st b.st
 have i2 := @cmpI_gt a.st b.st
 have i3 := @cmpI_lt a.en b.en
 unfold cmp2
 split
 ·rename_i h
  constructor
  ·exact .inl
  rintro (h1 | ⟨h1, _⟩)
  ·exact h1
  exact absurd (e.2 h1) h
 rename_i h
 have h := Classical.not_not.1 h
 rw [h]
 have hk := e.1 h
 rw [eq_true hk, true_and]
 split <;> omega
theorem cmp2_gt {a b : AtK} : 0 < cmp2 a b ↔ cmp2 b a < 0 := by
 rw [cmp2_lt]
 have e := lin1.eq a.key b.key
 have ea := lin1.anti b.key a.key
 have i1 := @cmpI_lt a.st b.st
 have i2 := @cmpI_gt a.st b.st
 have i3 := @cmpI_gt a.en b.en
 unfold cmp2
 split
 ·rename_i h
  constructor
  ·exact fun h1 => .inl (ea.2 h1)
  rintro (h1 | ⟨h1, _⟩)
  ·exact ea.1 h1
  exact absurd (e.2 h1.symm) h
 rename_i h
 have h := Classical.not_not.1 h
 have hk := (e.1 h).symm
 have hz : ¬ cmp1 b.key a.key < 0 := by rw [ea]; omega
 rw [eq_true hk, true_and, eq_false hz, false_or]
 split <;> omega
theorem lin2 : Lin cmp2 where
 anti a b := by rw [cmp2_gt]
 eq a b := by
  constructor
  ·intro h
   have h1 : ¬ cmp2 a b < 0 := by omega
   have h2 : ¬ 0 < cmp2 a b := by omega
   rw [cmp2_gt] at h2
   rw [cmp2_lt] at h1 h2
   have ea := lin1.anti b.key a.key
   have e : a.key = b.key := (lin1.eq _ _).1 (by omega)
   obtain ⟨k, s, t⟩ := a
   obtain ⟨k2, s2, t2⟩ := b
   simp only at e h1 h2
   subst e
   simp only [true_and, not_or] at h1 h2
   have : s = s2 := by omega
   subst this
   have : t = t2 := by omega
   subst this
   rfl
  intro h
  subst h
  have h1 : ¬ cmp2 a a < 0 := by
   rw [cmp2_lt, cmp1_lt, less_irr]
   simp
  have h2 : ¬ 0 < cmp2 a a := by rw [cmp2_gt]; exact h1
  omega
 trans a b c h1 h2 := by
  rw [cmp2_lt] at *
  rcases h1 with h1 | ⟨e1, h1⟩
  ·rcases h2 with h2 | ⟨e2, h2⟩
   ·exact .inl (lin1.trans _ _ _ h1 h2)
   exact .inl (e2 ▸ h1)
  rcases h2 with h2 | ⟨e2, h2⟩
  ·exact .inl (e1 ▸ h2)
  exact .inr ⟨e1.trans e2, by omega⟩
end Go.Proofs.YtkjnbafdmjakgaaGreatDoor
end
section
namespace Go.Proofs.YtkjnbafdmjakgaaGreatDoor
open Go.RowKit Go.Sx
theorem Tr.put_many {κ ν : Type} (cmp : κ → κ → Int) (k : κ) (v : ν) : ∀ t : Tr κ ν, (Tr.put cmp k v t).many ≤ t.many + 1
 | .nil => by simp [Tr.put, Tr.many]
 | .node k' v' l r => by
  have h1 := Tr.put_many cmp k v l
  have h2 := Tr.put_many cmp k v r
  unfold Tr.put
  by_cases a : cmp k k' < 0
  ·simp only [if_pos a, Tr.even_many, Tr.many]; omega
  by_cases b : 0 < cmp k k'
  ·simp only [if_neg a, if_pos b, Tr.even_many, Tr.many]; omega
  simp only [if_neg a, if_neg b, Tr.many]; omega
theorem Tr.put_l {κ ν : Type} {cmp : κ → κ → Int} {k k' : κ} {v v' : ν} {l r : Tr κ ν} (h : cmp k k' < 0) : Tr.put cmp k v (.node k' v' l r) = Tr.even k' v' (l.put cmp k v) r := by
 rw [Tr.put, if_pos h]
theorem Tr.put_r {κ ν : Type} {cmp : κ → κ → Int} {k k' : κ} {v v' : ν} {l r : Tr κ ν} (h : ¬ cmp k k' < 0) (h2 : cmp k k' > 0) : Tr.put cmp k v (.node k' v' l r) = Tr.even k' v' l (r.put cmp k v) := by
 rw [Tr.put, if_neg h, if_pos h2]
theorem Tr.put_e {κ ν : Type} {cmp : κ → κ → Int} {k k' : κ} {v v' : ν} {l r : Tr κ ν} (h : ¬ cmp k k' < 0) (h2 : ¬ cmp k k' > 0) : Tr.put cmp k v (.node k' v' l r) = .node k' v l r := by
 rw [Tr.put, if_neg h, if_neg h2]
theorem fc_node {κ ν : Type} {kw : κ → List Value} {vw : ν → List Value} {ρ0 : List Nat} {b : Nat} {ys : List Value} {p q : Option Addr} {t u : Tr κ ν} {w : World} (h0 : Cel ⟨b, 0, none⟩ ys ρ0 w) (h1 : TrF kw vw p t ρ0 w) (h2 : TrF kw vw q u ρ0 w) : FcF kw vw ρ0 [.cel b ys, .tr p t, .tr q u] [] w := fun f hf => by
 rcases List.mem_cons.1 hf with rfl | hf
 ·show Cel ⟨b, 0, none⟩ ys (ρ0 ++ []) w
  rw [List.append_nil]; exact h0
 exact fc_two h1 h2 f hf
noncomputable def B44 : Code := (Tryz.f44.body).getD .skip
set_option maxHeartbeats 20000000 in
set_option maxRecDepth 100000 in
theorem put1_any (k : List UInt8) (v : SlV) {mb : Nat} : ∀ (t : Tr (List UInt8) (SlV)) (ρ0 : List Nat) (p : Option Addr) (w : World) (hM : w.cell? ((⟨mb, 0, none⟩ : Addr).add 0) = some (.func (.func 29) #[] #[])) (hρ : ∀ x ∈ ρ0, x < w.heap.size) (hp : TrF kw1 vw1 p t ρ0 w) (hn : t.many ≤ 800000),
  Calls Tryz.prog 44 #[.pointer (some ⟨mb, 0, none⟩), .pointer p, .string (mkB k), .slice v.A v.n v.c] w fun e w' => ∃ q, e = .returned (.pointer q) ∧ TrF kw1 vw1 q (t.put cmp1 k v) ρ0 w' ∧ Below w.heap.size w w' := by
 intro t
 induction t with
 | nil =>
  intro ρ0 p w hM hρ hp hn
  obtain rfl : p = none := hp
  refine enterF (N := w.heap.size) (F := FcF (κ := List UInt8) (ν := SlV) kw1 vw1 ρ0 []) (fn := Tryz.f44) (c := B44) [.v (.pointer (some ⟨mb, 0, none⟩)), .v (.pointer none), .so (mkB k), .sl v.A v.n v.c] Tryz.func44 rfl rfl (Nat.le_refl _) (fun f hf => by cases hf) ?_
  refine zT FcF.stable FcF.fewer [12, 13] 0 ⟨pops B44 [1, 0, 1, 2, 0] 2, [.seq (sub B44 pAJ0), .seq (sub B44 [1, 1])], [(12, .so (mkB k)), (13, .sl v.A v.n v.c)], []⟩ ?_
  refine At.callx FcF.stable (X := Nat) 59 [.so (mkB k), .sl v.A v.n v.c, .v (.pointer none), .v (.pointer none)] (fun x => .v (.pointer (some ⟨x, 0, none⟩))) (fun x ρ w1 => TrF kw1 vw1 (some ⟨x, 0, none⟩) (Tr.node k v .nil .nil) (ρ0 ++ ρ) w1) (fun x => TrF.stable) (by kernel_rfl) (by kernel_rfl) (by kernel_rfl) (by kernel_rfl) (fun ρ a w1 hi hf => (with1_any k v w1 (low_all hi.mem hρ rfl) (l := .nil) (r := .nil) rfl rfl (by simp only [Tr.many]; omega)).mono fun e w2 h => by
   obtain ⟨b, h1, h2, h3⟩ := h
   exact ⟨b, h1, h3, h2⟩) (fun x => ?_)
  refine zT FcT.stable FcT.fewer [8] 0 ⟨.exit .ret, [], [(8, .v (.pointer (some (Addr.mk x 0 none))))], []⟩ ?_
  refine zE (.v (.pointer (some (Addr.mk x 0 none)))) ?_
  intro ρ w9 hm hf
  refine ⟨_, rfl, ?_, hm.below⟩
  exact hf.2.sub (fun x hx => List.mem_append_left _ hx)
 | node k' v' l r ihl ihr =>
  intro ρ0 p w hM hρ hp hn
  obtain ⟨b, pl, pr, rfl, hc, hl, hr⟩ := hp
  refine enterF (N := w.heap.size) (F := FcF kw1 vw1 ρ0 [.cel b (nodeW kw1 vw1 k' v' pl pr (Tr.node k' v' l r).high (Tr.node k' v' l r).many), .tr pl l, .tr pr r]) (fn := Tryz.f44) (c := B44) [.v (.pointer (some ⟨mb, 0, none⟩)), .v (.pointer (some ⟨b, 0, none⟩)), .so (mkB k), .sl v.A v.n v.c] Tryz.func44 rfl rfl (Nat.le_refl _) (fc_node hc hl hr) ?_
  refine zT FcF.stable FcF.fewer [0, 1, 2, 3, 10] 0 ⟨pops B44 [1, 0, 0] 1, [.seq (sub B44 [1, 0, 1]), .seq (sub B44 [1, 1])], [(0, .v (.pointer (some (Addr.mk mb 0 none)))), (1, .v (.pointer (some (Addr.mk b 0 none)))), (2, .so (mkB k)), (3, .sl v.A v.n v.c), (10, .v (.pointer (some (Addr.mk b 0 none))))], []⟩ ?_
  refine At.pcmp .eql 89 (some ⟨b, 0, none⟩) none false (by kernel_rfl) FcF.stable (fun w1 => eql1_nil b w1) ?_
  refine zT FcF.stable FcF.fewer [0, 1, 2, 3, 15] 0 ⟨pqops B44 [1, 1, 0, 0] 1, [.seq (sub B44 pAJ1), .seq (sub B44 pAJ2)], [(0, .v (.pointer (some (Addr.mk mb 0 none)))), (1, .v (.pointer (some (Addr.mk b 0 none)))), (2, .so (mkB k)), (3, .sl v.A v.n v.c), (15, .v (.pointer (some (Addr.mk mb 0 none))))], []⟩ ?_
  refine At.nck ⟨mb, 0, none⟩ (by kernel_rfl) FcF.stable ?_
  refine zT FcF.stable FcF.fewer [0, 1, 2, 3, 16] 0 ⟨pqops B44 [1, 1, 0, 0] 2, [.seq (sub B44 pAJ1), .seq (sub B44 pAJ2)], [(0, .v (.pointer (some (Addr.mk mb 0 none)))), (1, .v (.pointer (some (Addr.mk b 0 none)))), (2, .so (mkB k)), (3, .sl v.A v.n v.c), (16, .v (.pointer (some (Addr.mk mb 0 none))))], []⟩ ?_
  refine At.fax ⟨mb, 0, none⟩ 0 (by kernel_rfl) FcF.stable ?_
  refine zT FcF.stable FcF.fewer [0, 1, 2, 3, 17] 0 ⟨pqops B44 [1, 1, 0, 0] 3, [.seq (sub B44 pAJ1), .seq (sub B44 pAJ2)], [(0, .v (.pointer (some (Addr.mk mb 0 none)))), (1, .v (.pointer (some (Addr.mk b 0 none)))), (2, .so (mkB k)), (3, .sl v.A v.n v.c), (17, .v (.pointer (some (Addr.mk mb 0 none))))], []⟩ ?_
  refine At.ldx ((⟨mb, 0, none⟩ : Addr).add 0) (.fn (.func 29) []) (by kernel_rfl) FcF.stable (fun ρ w1 hm' hf => cell_belowA hM hm'.below) ?_
  refine zT FcF.stable FcF.fewer [0, 1, 2, 3, 18, 19, 20] 0 ⟨pqops B44 [1, 1, 0, 0] 6, [.seq (sub B44 pAJ1), .seq (sub B44 pAJ2)], [(0, .v (.pointer (some (Addr.mk mb 0 none)))), (1, .v (.pointer (some (Addr.mk b 0 none)))), (2, .so (mkB k)), (3, .sl v.A v.n v.c), (18, .fn (Fn.func 29) []), (19, .so (mkB k)), (20, .v (.pointer (some (Addr.mk b 0 none))))], []⟩ ?_
  refine At.nck ⟨b, 0, none⟩ (by kernel_rfl) FcF.stable ?_
  refine zT FcF.stable FcF.fewer [0, 1, 2, 3, 18, 19, 21] 0 ⟨pqops B44 [1, 1, 0, 0] 7, [.seq (sub B44 pAJ1), .seq (sub B44 pAJ2)], [(0, .v (.pointer (some (Addr.mk mb 0 none)))), (1, .v (.pointer (some (Addr.mk b 0 none)))), (2, .so (mkB k)), (3, .sl v.A v.n v.c), (18, .fn (Fn.func 29) []), (19, .so (mkB k)), (21, .v (.pointer (some (Addr.mk b 0 none))))], []⟩ ?_
  refine At.fax ⟨b, 0, none⟩ 0 (by kernel_rfl) FcF.stable ?_
  refine zT FcF.stable FcF.fewer [0, 1, 2, 3, 18, 19, 22] 0 ⟨pqops B44 [1, 1, 0, 0] 8, [.seq (sub B44 pAJ1), .seq (sub B44 pAJ2)], [(0, .v (.pointer (some (Addr.mk mb 0 none)))), (1, .v (.pointer (some (Addr.mk b 0 none)))), (2, .so (mkB k)), (3, .sl v.A v.n v.c), (18, .fn (Fn.func 29) []), (19, .so (mkB k)), (22, .v (.pointer (some (Addr.mk b 0 none))))], []⟩ ?_
  refine At.ldx ((⟨b, 0, none⟩ : Addr).add 0) (.so (mkB k')) (by kernel_rfl) FcF.stable (fun ρ w1 hm' hf => hf.cell (.head _) rfl) ?_
  refine zT FcF.stable FcF.fewer [0, 1, 2, 3, 18, 19, 23] 0 ⟨pqops B44 [1, 1, 0, 0] 9, [.seq (sub B44 pAJ1), .seq (sub B44 pAJ2)], [(0, .v (.pointer (some (Addr.mk mb 0 none)))), (1, .v (.pointer (some (Addr.mk b 0 none)))), (2, .so (mkB k)), (3, .sl v.A v.n v.c), (18, .fn (Fn.func 29) []), (19, .so (mkB k)), (23, .so (mkB k'))], []⟩ ?_
  refine zC FcF.stable 29 [.so (mkB k), .so (mkB k')] (.io .i64 (cmp1 k k')) (fun ρ _ w1 hi hf => cmp_str (mkB k) (mkB k') w1) ?_
  refine zTq FcF.stable FcF.fewer [0, 1, 2, 3, 9, 25] 0 ?_
  rcases Bool.eq_false_or_eq_true (decide (cmp1 k k' < 0)) with b0 | b0
  ·refine zR 25 b0 ?_
   refine zT FcF.stable FcF.fewer [0, 1, 2, 3] 0 ⟨.any (opsOf (sub B44 [1, 1, 0, 1, 4, 1, 2, 0])) 22 [], [.seq (sub B44 pAJ0), .block 0, .seq (sub B44 pAJ2)], [(0, .v (.pointer (some (Addr.mk mb 0 none)))), (1, .v (.pointer (some (Addr.mk b 0 none)))), (2, .so (mkB k)), (3, .sl v.A v.n v.c)], []⟩ ?_
   refine At.drawnE [(0, .eq (.v (.pointer (some ⟨b, 0, none⟩)))), (1, .eq (.v (.pointer (some ⟨b, 0, none⟩)))), (2, .eq (.v (.pointer (some ((⟨b, 0, none⟩ : Addr).add 0))))), (3, .eq (.so (mkB k'))), (4, .eq (.v (.pointer (some ⟨b, 0, none⟩)))), (5, .eq (.v (.pointer (some ⟨b, 0, none⟩)))), (6, .eq (.v (.pointer (some ((⟨b, 0, none⟩ : Addr).add 1))))), (7, .eq (.sl v'.A v'.n v'.c)), (8, .eq (.v (.pointer (some ⟨mb, 0, none⟩)))), (9, .eq (.v (.pointer (some ⟨b, 0, none⟩)))), (10, .eq (.v (.pointer (some ⟨b, 0, none⟩)))), (11, .eq (.v (.pointer (some ((⟨b, 0, none⟩ : Addr).add 2))))), (12, .eq (.v (.pointer pl))), (13, .eq (.so (mkB k))), (14, .eq (.sl v.A v.n v.c)), (15, .ex (Option Addr) (fun q => .v (.pointer q)) (fun q ρ w1 => TrF kw1 vw1 q (Tr.put cmp1 k v (l)) (ρ0 ++ ρ) w1)), (16, .eq (.v (.pointer (some ⟨b, 0, none⟩)))), (17, .eq (.v (.pointer (some ⟨b, 0, none⟩)))), (18, .eq (.v (.pointer (some ((⟨b, 0, none⟩ : Addr).add 3))))), (19, .eq (.v (.pointer pr))), (20, .ex (Option Addr) (fun q => .v (.pointer q)) (fun q ρ w1 => TrF kw1 vw1 q (Tr.even k' v' (Tr.put cmp1 k v (l)) (r)) (ρ0 ++ ρ) w1)), (21, .ex (Option Addr) (fun q => .v (.pointer q)) (fun q ρ w1 => TrF kw1 vw1 q (Tr.even k' v' (Tr.put cmp1 k v (l)) (r)) (ρ0 ++ ρ) w1))] [0, 1, 2, 3, 4, 5, 6, 7, 8, 9, 10, 11, 12, 13, 14, 15, 16, 17, 18, 19, 20, 21] [] 21 8 (fun q => .v (.pointer q)) (fun q ρ w1 => TrF kw1 vw1 q (Tr.even k' v' (Tr.put cmp1 k v (l)) (r)) (ρ0 ++ ρ) w1) rfl (by kernel_rfl) (by kernel_rfl) FcF.stable (by exact ⟨trivial, trivial, trivial, trivial, trivial, trivial, trivial, trivial, trivial, trivial, trivial, trivial, trivial, trivial, trivial, fun b => TrF.stable, trivial, trivial, trivial, trivial, fun b => TrF.stable, fun b => TrF.stable, trivial⟩) (by exact ⟨StepK.pure (by kernel_rfl) rfl,
    StepK.nck ⟨b, 0, none⟩ (by kernel_rfl) rfl,
    StepK.fax ⟨b, 0, none⟩ 0 (by kernel_rfl) rfl,
    StepK.ldx ((⟨b, 0, none⟩ : Addr).add 0) (by kernel_rfl) rfl (fun ρ w1 hm hf => hf.cell (.head _) rfl),
    StepK.pure (by kernel_rfl) rfl,
    StepK.nck ⟨b, 0, none⟩ (by kernel_rfl) rfl,
    StepK.fax ⟨b, 0, none⟩ 1 (by kernel_rfl) rfl,
    StepK.ldx ((⟨b, 0, none⟩ : Addr).add 1) (by kernel_rfl) rfl (fun ρ w1 hm hf => hf.cell (.head _) rfl),
    StepK.pure (by kernel_rfl) rfl,
    StepK.pure (by kernel_rfl) rfl,
    StepK.nck ⟨b, 0, none⟩ (by kernel_rfl) rfl,
    StepK.fax ⟨b, 0, none⟩ 2 (by kernel_rfl) rfl,
    StepK.ldx ((⟨b, 0, none⟩ : Addr).add 2) (by kernel_rfl) rfl (fun ρ w1 hm hf => hf.cell (.head _) rfl),
    StepK.pure (by kernel_rfl) rfl,
    StepK.pure (by kernel_rfl) rfl,
    StepK.call 44 [.v (.pointer (some ⟨mb, 0, none⟩)), .v (.pointer pl), .so (mkB k), .sl v.A v.n v.c] (by kernel_rfl) rfl (by kernel_rfl) (fun ρ w1 hm hf => (ihl _ pl w1 (cell_belowA hM hm.below) (low_all hm hρ rfl) (hf.tree (.tail _ (.head _))) (by simp only [Tr.many] at hn; omega)).mono fun e w2 h => by
     obtain ⟨q, h1, h2, h3⟩ := h
     exact ⟨_, h1, ⟨q, rfl, h2⟩, h3⟩),
    StepK.pure (by kernel_rfl) rfl,
    StepK.nck ⟨b, 0, none⟩ (by kernel_rfl) rfl,
    StepK.fax ⟨b, 0, none⟩ 3 (by kernel_rfl) rfl,
    StepK.ldx ((⟨b, 0, none⟩ : Addr).add 3) (by kernel_rfl) rfl (fun ρ w1 hm hf => hf.cell (.head _) rfl),
    StepK.callX 15 43 60 (fun x => [.so (mkB k'), .sl v'.A v'.n v'.c, .v (.pointer x), .v (.pointer pr)]) (by kernel_rfl) (by kernel_rfl) rfl (fun x => by kernel_rfl) rfl (by kernel_rfl) (fun x ρ w1 hm hf hx => (even1_any k' v' w1 (low_all hm hρ rfl) hx (hf.tree (.tail _ (.tail _ (.head _)))) (by have h8 := Tr.put_many cmp1 k v l; simp only [Tr.many] at hn; omega)).mono fun e w2 h => by
     obtain ⟨b, h1, h2, h3⟩ := h
     exact ⟨_, h1, ⟨b, rfl, h2⟩, h3⟩),
    StepK.pureXE 20 48 rfl (by kernel_rfl) (by kernel_rfl) rfl (fun b => by kernel_rfl), trivial⟩) (by unfold subFr; kernel_rfl) (by kernel_rfl) rfl (fun x => ?_)
   refine zT FcT.stable FcT.fewer [8] 0 ⟨.exit .ret, [], [(8, .v (.pointer x))], []⟩ ?_
   refine zE (.v (.pointer x)) ?_
   intro ρ w9 hm hf
   refine ⟨_, rfl, ?_, hm.below⟩
   rw [Tr.put_l (of_decide_eq_true b0)]
   exact hf.2.sub (fun x hx => List.mem_append_left _ hx)
  refine zR 25 b0 ?_
  refine zT FcF.stable FcF.fewer [0, 1, 2, 3, 49] 0 ⟨.code (sub B44 [1, 1, 0, 1, 4, 1, 3, 1]), [.block 0, .seq (sub B44 pAJ2)], [(0, .v (.pointer (some (Addr.mk mb 0 none)))), (1, .v (.pointer (some (Addr.mk b 0 none)))), (2, .so (mkB k)), (3, .sl v.A v.n v.c), (49, .bo (decide (cmp1 k k' > 0)))], []⟩ ?_
  rcases Bool.eq_false_or_eq_true (decide (cmp1 k k' > 0)) with b1 | b1
  ·refine zR 49 b1 ?_
   refine zT FcF.stable FcF.fewer [0, 1, 2, 3] 0 ⟨.any (opsOf (sub B44 [1, 1, 0, 1, 4, 1, 3, 1, 2, 0])) 22 [], [.seq (sub B44 pAJ0), .block 0, .seq (sub B44 pAJ2)], [(0, .v (.pointer (some (Addr.mk mb 0 none)))), (1, .v (.pointer (some (Addr.mk b 0 none)))), (2, .so (mkB k)), (3, .sl v.A v.n v.c)], []⟩ ?_
   refine At.drawnE [(0, .eq (.v (.pointer (some ⟨b, 0, none⟩)))), (1, .eq (.v (.pointer (some ⟨b, 0, none⟩)))), (2, .eq (.v (.pointer (some ((⟨b, 0, none⟩ : Addr).add 0))))), (3, .eq (.so (mkB k'))), (4, .eq (.v (.pointer (some ⟨b, 0, none⟩)))), (5, .eq (.v (.pointer (some ⟨b, 0, none⟩)))), (6, .eq (.v (.pointer (some ((⟨b, 0, none⟩ : Addr).add 1))))), (7, .eq (.sl v'.A v'.n v'.c)), (8, .eq (.v (.pointer (some ⟨b, 0, none⟩)))), (9, .eq (.v (.pointer (some ⟨b, 0, none⟩)))), (10, .eq (.v (.pointer (some ((⟨b, 0, none⟩ : Addr).add 2))))), (11, .eq (.v (.pointer pl))), (12, .eq (.v (.pointer (some ⟨mb, 0, none⟩)))), (13, .eq (.v (.pointer (some ⟨b, 0, none⟩)))), (14, .eq (.v (.pointer (some ⟨b, 0, none⟩)))), (15, .eq (.v (.pointer (some ((⟨b, 0, none⟩ : Addr).add 3))))), (16, .eq (.v (.pointer pr))), (17, .eq (.so (mkB k))), (18, .eq (.sl v.A v.n v.c)), (19, .ex (Option Addr) (fun q => .v (.pointer q)) (fun q ρ w1 => TrF kw1 vw1 q (Tr.put cmp1 k v (r)) (ρ0 ++ ρ) w1)), (20, .ex (Option Addr) (fun q => .v (.pointer q)) (fun q ρ w1 => TrF kw1 vw1 q (Tr.even k' v' (l) (Tr.put cmp1 k v (r))) (ρ0 ++ ρ) w1)), (21, .ex (Option Addr) (fun q => .v (.pointer q)) (fun q ρ w1 => TrF kw1 vw1 q (Tr.even k' v' (l) (Tr.put cmp1 k v (r))) (ρ0 ++ ρ) w1))] [0, 1, 2, 3, 4, 5, 6, 7, 8, 9, 10, 11, 12, 13, 14, 15, 16, 17, 18, 19, 20, 21] [] 21 8 (fun q => .v (.pointer q)) (fun q ρ w1 => TrF kw1 vw1 q (Tr.even k' v' (l) (Tr.put cmp1 k v (r))) (ρ0 ++ ρ) w1) rfl (by kernel_rfl) (by kernel_rfl) FcF.stable (by exact ⟨trivial, trivial, trivial, trivial, trivial, trivial, trivial, trivial, trivial, trivial, trivial, trivial, trivial, trivial, trivial, trivial, trivial, trivial, trivial, fun b => TrF.stable, fun b => TrF.stable, fun b => TrF.stable, trivial⟩) (by exact ⟨StepK.pure (by kernel_rfl) rfl,
    StepK.nck ⟨b, 0, none⟩ (by kernel_rfl) rfl,
    StepK.fax ⟨b, 0, none⟩ 0 (by kernel_rfl) rfl,
    StepK.ldx ((⟨b, 0, none⟩ : Addr).add 0) (by kernel_rfl) rfl (fun ρ w1 hm hf => hf.cell (.head _) rfl),
    StepK.pure (by kernel_rfl) rfl,
    StepK.nck ⟨b, 0, none⟩ (by kernel_rfl) rfl,
    StepK.fax ⟨b, 0, none⟩ 1 (by kernel_rfl) rfl,
    StepK.ldx ((⟨b, 0, none⟩ : Addr).add 1) (by kernel_rfl) rfl (fun ρ w1 hm hf => hf.cell (.head _) rfl),
    StepK.pure (by kernel_rfl) rfl,
    StepK.nck ⟨b, 0, none⟩ (by kernel_rfl) rfl,
    StepK.fax ⟨b, 0, none⟩ 2 (by kernel_rfl) rfl,
    StepK.ldx ((⟨b, 0, none⟩ : Addr).add 2) (by kernel_rfl) rfl (fun ρ w1 hm hf => hf.cell (.head _) rfl),
    StepK.pure (by kernel_rfl) rfl,
    StepK.pure (by kernel_rfl) rfl,
    StepK.nck ⟨b, 0, none⟩ (by kernel_rfl) rfl,
    StepK.fax ⟨b, 0, none⟩ 3 (by kernel_rfl) rfl,
    StepK.ldx ((⟨b, 0, none⟩ : Addr).add 3) (by kernel_rfl) rfl (fun ρ w1 hm hf => hf.cell (.head _) rfl),
    StepK.pure (by kernel_rfl) rfl,
    StepK.pure (by kernel_rfl) rfl,
    StepK.call 44 [.v (.pointer (some ⟨mb, 0, none⟩)), .v (.pointer pr), .so (mkB k), .sl v.A v.n v.c] (by kernel_rfl) rfl (by kernel_rfl) (fun ρ w1 hm hf => (ihr _ pr w1 (cell_belowA hM hm.below) (low_all hm hρ rfl) (hf.tree (.tail _ (.tail _ (.head _)))) (by simp only [Tr.many] at hn; omega)).mono fun e w2 h => by
     obtain ⟨q, h1, h2, h3⟩ := h
     exact ⟨_, h1, ⟨q, rfl, h2⟩, h3⟩),
    StepK.callX 19 71 60 (fun x => [.so (mkB k'), .sl v'.A v'.n v'.c, .v (.pointer pl), .v (.pointer x)]) (by kernel_rfl) (by kernel_rfl) rfl (fun x => by kernel_rfl) rfl (by kernel_rfl) (fun x ρ w1 hm hf hx => (even1_any k' v' w1 (low_all hm hρ rfl) (hf.tree (.tail _ (.head _))) hx (by have h8 := Tr.put_many cmp1 k v r; simp only [Tr.many] at hn; omega)).mono fun e w2 h => by
     obtain ⟨b, h1, h2, h3⟩ := h
     exact ⟨_, h1, ⟨b, rfl, h2⟩, h3⟩),
    StepK.pureXE 20 72 rfl (by kernel_rfl) (by kernel_rfl) rfl (fun b => by kernel_rfl), trivial⟩) (by unfold subFr; kernel_rfl) (by kernel_rfl) rfl (fun x => ?_)
   refine zT FcT.stable FcT.fewer [8] 0 ⟨.exit .ret, [], [(8, .v (.pointer x))], []⟩ ?_
   refine zE (.v (.pointer x)) ?_
   intro ρ w9 hm hf
   refine ⟨_, rfl, ?_, hm.below⟩
   rw [Tr.put_r (of_decide_eq_false b0) (of_decide_eq_true b1)]
   exact hf.2.sub (fun x hx => List.mem_append_left _ hx)
  refine zR 49 b1 ?_
  refine zT FcF.stable FcF.fewer [1, 3] 0 ⟨.any (opsOf (sub B44 [1, 1, 1, 0])) 15 [], [.seq (sub B44 pAJ0)], [(1, .v (.pointer (some (Addr.mk b 0 none)))), (3, .sl v.A v.n v.c)], []⟩ ?_
  refine At.drawnE [(0, .eq (.v (.pointer (some ⟨b, 0, none⟩)))), (1, .eq (.v (.pointer (some ⟨b, 0, none⟩)))), (2, .eq (.v (.pointer (some ((⟨b, 0, none⟩ : Addr).add 0))))), (3, .eq (.so (mkB k'))), (4, .eq (.sl v.A v.n v.c)), (5, .eq (.v (.pointer (some ⟨b, 0, none⟩)))), (6, .eq (.v (.pointer (some ⟨b, 0, none⟩)))), (7, .eq (.v (.pointer (some ((⟨b, 0, none⟩ : Addr).add 2))))), (8, .eq (.v (.pointer pl))), (9, .eq (.v (.pointer (some ⟨b, 0, none⟩)))), (10, .eq (.v (.pointer (some ⟨b, 0, none⟩)))), (11, .eq (.v (.pointer (some ((⟨b, 0, none⟩ : Addr).add 3))))), (12, .eq (.v (.pointer pr))), (13, .ex Nat (fun b => .v (.pointer (some ⟨b, 0, none⟩))) (fun b ρ w1 => TrF kw1 vw1 (some ⟨b, 0, none⟩) (Tr.node k' v (l) (r)) (ρ0 ++ ρ) w1)), (14, .ex Nat (fun b => .v (.pointer (some ⟨b, 0, none⟩))) (fun b ρ w1 => TrF kw1 vw1 (some ⟨b, 0, none⟩) (Tr.node k' v (l) (r)) (ρ0 ++ ρ) w1))] [0, 1, 2, 3, 4, 5, 6, 7, 8, 9, 10, 11, 12, 13, 14] [] 14 8 (fun b => .v (.pointer (some ⟨b, 0, none⟩))) (fun b ρ w1 => TrF kw1 vw1 (some ⟨b, 0, none⟩) (Tr.node k' v (l) (r)) (ρ0 ++ ρ) w1) rfl (by kernel_rfl) (by kernel_rfl) FcF.stable (by exact ⟨trivial, trivial, trivial, trivial, trivial, trivial, trivial, trivial, trivial, trivial, trivial, trivial, trivial, fun b => TrF.stable, fun b => TrF.stable, trivial⟩) (by exact ⟨StepK.pure (by kernel_rfl) rfl,
   StepK.nck ⟨b, 0, none⟩ (by kernel_rfl) rfl,
   StepK.fax ⟨b, 0, none⟩ 0 (by kernel_rfl) rfl,
   StepK.ldx ((⟨b, 0, none⟩ : Addr).add 0) (by kernel_rfl) rfl (fun ρ w1 hm hf => hf.cell (.head _) rfl),
   StepK.pure (by kernel_rfl) rfl,
   StepK.pure (by kernel_rfl) rfl,
   StepK.nck ⟨b, 0, none⟩ (by kernel_rfl) rfl,
   StepK.fax ⟨b, 0, none⟩ 2 (by kernel_rfl) rfl,
   StepK.ldx ((⟨b, 0, none⟩ : Addr).add 2) (by kernel_rfl) rfl (fun ρ w1 hm hf => hf.cell (.head _) rfl),
   StepK.pure (by kernel_rfl) rfl,
   StepK.nck ⟨b, 0, none⟩ (by kernel_rfl) rfl,
   StepK.fax ⟨b, 0, none⟩ 3 (by kernel_rfl) rfl,
   StepK.ldx ((⟨b, 0, none⟩ : Addr).add 3) (by kernel_rfl) rfl (fun ρ w1 hm hf => hf.cell (.head _) rfl),
   StepK.call 59 [.so (mkB k'), .sl v.A v.n v.c, .v (.pointer pl), .v (.pointer pr)] (by kernel_rfl) rfl (by kernel_rfl) (fun ρ w1 hm hf => (with1_any k' v w1 (low_all hm hρ rfl) (hf.tree (.tail _ (.head _))) (hf.tree (.tail _ (.tail _ (.head _)))) (by simp only [Tr.many] at hn ⊢; omega)).mono fun e w2 h => by
    obtain ⟨b, h1, h2, h3⟩ := h
    exact ⟨_, h1, ⟨b, rfl, h2⟩, h3⟩),
   StepK.pureXE 13 86 rfl (by kernel_rfl) (by kernel_rfl) rfl (fun b => by kernel_rfl), trivial⟩) (by unfold subFr; kernel_rfl) (by kernel_rfl) rfl (fun x => ?_)
  refine zT FcT.stable FcT.fewer [8] 0 ⟨.exit .ret, [], [(8, .v (.pointer (some (Addr.mk x 0 none))))], []⟩ ?_
  refine zE (.v (.pointer (some (Addr.mk x 0 none)))) ?_
  intro ρ w9 hm hf
  refine ⟨_, rfl, ?_, hm.below⟩
  rw [Tr.put_e (of_decide_eq_false b0) (of_decide_eq_false b1)]
  exact hf.2.sub (fun x hx => List.mem_append_left _ hx)
end Go.Proofs.YtkjnbafdmjakgaaGreatDoor
end
section
namespace Go.Proofs.YtkjnbafdmjakgaaGreatDoor
open Go.RowKit Go.Sx
theorem cmp2_or (p q : AtK) : cmp2 p q = orI [cmpS (mkB p.key) (mkB q.key), cmpI p.st q.st, cmpI p.en q.en] := by
 unfold cmp2
 rw [show cmp1 p.key q.key = cmpS (mkB p.key) (mkB q.key) from rfl]
 simp only [orI]
 by_cases a : cmpS (mkB p.key) (mkB q.key) = 0
 ·rw [if_neg (by simp [a]), if_pos a]
  by_cases b : cmpI p.st q.st = 0
  ·rw [if_neg (by simp [b]), if_pos b]
   by_cases c : cmpI p.en q.en = 0
   ·rw [if_pos c, c]
   rw [if_neg c]
  rw [if_pos b, if_neg b]
 rw [if_pos a, if_neg a]
noncomputable def B27 : Code := (Tryz.f27.body).getD .skip
set_option maxHeartbeats 20000000 in
set_option maxRecDepth 100000 in
theorem lastcmp_any (p q : AtK) (w : World) :
  Calls Tryz.prog 27 #[.agg #[.string (mkB p.key), .int .i64 p.st, .int .i64 p.en], .agg #[.string (mkB q.key), .int .i64 q.st, .int .i64 q.en]] w fun e w' => e = .returned (.int .i64 (cmp2 p q)) ∧ Below w.heap.size w w' := by
 refine enter (fn := Tryz.f27) (c := B27) [.agg [.so (mkB p.key), .io .i64 p.st, .io .i64 p.en], .agg [.so (mkB q.key), .io .i64 q.st, .io .i64 q.en]] Tryz.func27 rfl rfl ?_
 refine zM [2, 3, 6, 8] 2 ⟨.qops (opsOf (sub B27 [1, 0])) (((opsOf (sub B27 [1, 0])).toList.take 19).drop 4), [.tail (opsOf (sub B27 [1, 0])) ((opsOf (sub B27 [1, 0])).toList.drop 19), .seq (sub B27 [1, 1])], [(2, .lp 0 0), (3, .lp 1 0), (6, .so (mkB p.key)), (8, .so (mkB q.key))], [([.so (mkB p.key), .io .i64 p.st, .io .i64 p.en], 59), ([.so (mkB q.key), .io .i64 q.st, .io .i64 q.en], 59)]⟩ ?_
 refine zC noF_stable 29 [.so (mkB p.key), .so (mkB q.key)] (.io .i64 (cmpS (mkB p.key) (mkB q.key))) (fun _ _ w1 hi _ => cmp_str (mkB p.key) (mkB q.key) w1) ?_
 refine zM [2, 3, 9, 12, 15] 2 ⟨.qops (opsOf (sub B27 [1, 0])) (((opsOf (sub B27 [1, 0])).toList.take 19).drop 11), [.tail (opsOf (sub B27 [1, 0])) ((opsOf (sub B27 [1, 0])).toList.drop 19), .seq (sub B27 [1, 1])], [(2, .lp 0 0), (3, .lp 1 0), (9, .io .i64 (cmpS (mkB p.key) (mkB q.key))), (12, .io .i64 p.st), (15, .io .i64 q.st)], [([.so (mkB p.key), .io .i64 p.st, .io .i64 p.en], 59), ([.so (mkB q.key), .io .i64 q.st, .io .i64 q.en], 59)]⟩ ?_
 refine zC noF_stable 30 [.io .i64 p.st, .io .i64 q.st] (.io .i64 (cmpI p.st q.st)) (fun _ _ w1 hi _ => cmp_int p.st q.st w1) ?_
 refine zM [9, 16, 19, 22] 0 ⟨.qops (opsOf (sub B27 [1, 0])) (((opsOf (sub B27 [1, 0])).toList.take 19).drop 18), [.tail (opsOf (sub B27 [1, 0])) ((opsOf (sub B27 [1, 0])).toList.drop 19), .seq (sub B27 [1, 1])], [(9, .io .i64 (cmpS (mkB p.key) (mkB q.key))), (16, .io .i64 (cmpI p.st q.st)), (19, .io .i64 p.en), (22, .io .i64 q.en)], []⟩ ?_
 refine zC noF_stable 30 [.io .i64 p.en, .io .i64 q.en] (.io .i64 (cmpI p.en q.en)) (fun _ _ w1 hi _ => cmp_int p.en q.en w1) ?_
 refine zM [24] 1 ⟨pops B27 [1, 0] 20, [.seq (sub B27 [1, 1])], [(24, .ls 0 0 3 3)], [([.io .i64 (cmpS (mkB p.key) (mkB q.key)), .io .i64 (cmpI p.st q.st), .io .i64 (cmpI p.en q.en)], 3)]⟩ ?_
 refine zC noF_stable 28 [.ls 0 0 3 3] (.io .i64 (orI [cmpS (mkB p.key) (mkB q.key), cmpI p.st q.st, cmpI p.en q.en])) (fun ρ _ w1 hi _ => or_any (nth ρ 0) [cmpS (mkB p.key) (mkB q.key), cmpI p.st q.st, cmpI p.en q.en] 3 rfl (by decide) w1 (hi.mem.cells 0 _ _ rfl)) ?_
 refine zM [4] 0 ⟨.exit .ret, [], [(4, .io .i64 (orI [cmpS (mkB p.key) (mkB q.key), cmpI p.st q.st, cmpI p.en q.en]))], []⟩ ?_
 refine zE (.io .i64 (orI [cmpS (mkB p.key) (mkB q.key), cmpI p.st q.st, cmpI p.en q.en])) ?_
 intro ρ w9 hm' hf
 exact ⟨by rw [cmp2_or]; rfl, hm'.below⟩
end Go.Proofs.YtkjnbafdmjakgaaGreatDoor
end
section
namespace Go.Proofs.YtkjnbafdmjakgaaGreatDoor
open Go.RowKit Go.Sx
noncomputable def B51 : Code := (Tryz.f51.body).getD .skip
set_option maxHeartbeats 20000000 in
set_option maxRecDepth 100000 in
theorem put2_any (k : AtK) (v : Pn) {mb : Nat} : ∀ (t : Tr (AtK) (Pn)) (ρ0 : List Nat) (p : Option Addr) (w : World) (hM : w.cell? ((⟨mb, 0, none⟩ : Addr).add 0) = some (.func (.func 27) #[] #[])) (hρ : ∀ x ∈ ρ0, x < w.heap.size) (hp : TrF kw2 vw2 p t ρ0 w) (hn : t.many ≤ 800000),
  Calls Tryz.prog 51 #[.pointer (some ⟨mb, 0, none⟩), .pointer p, .agg #[.string (mkB k.key), .int .i64 k.st, .int .i64 k.en], v.val] w fun e w' => ∃ q, e = .returned (.pointer q) ∧ TrF kw2 vw2 q (t.put cmp2 k v) ρ0 w' ∧ Below w.heap.size w w' := by
 intro t
 induction t with
 | nil =>
  intro ρ0 p w hM hρ hp hn
  obtain rfl : p = none := hp
  refine enterF (N := w.heap.size) (F := FcF (κ := AtK) (ν := Pn) kw2 vw2 ρ0 []) (fn := Tryz.f51) (c := B51) [.v (.pointer (some ⟨mb, 0, none⟩)), .v (.pointer none), .agg [.so (mkB k.key), .io .i64 k.st, .io .i64 k.en], .agg [.so (mkB v.key), .io .i64 v.st, .io .i64 v.en, .io .i64 v.kd, .io .i64 v.nt, .io .i64 v.ct, .io .i64 v.sm, .io .i64 v.mn, .io .i64 v.mx]] Tryz.func51 rfl rfl (Nat.le_refl _) (fun f hf => by cases hf) ?_
  refine zT FcF.stable FcF.fewer [12, 13] 0 ⟨pops B51 [1, 0, 1, 2, 0] 2, [.seq (sub B51 pAJ0), .seq (sub B51 [1, 1])], [(12, .agg [.so (mkB k.key), .io .i64 k.st, .io .i64 k.en]), (13, .agg [.so (mkB v.key), .io .i64 v.st, .io .i64 v.en, .io .i64 v.kd, .io .i64 v.nt, .io .i64 v.ct, .io .i64 v.sm, .io .i64 v.mn, .io .i64 v.mx])], []⟩ ?_
  refine At.callx FcF.stable (X := Nat) 62 [.agg [.so (mkB k.key), .io .i64 k.st, .io .i64 k.en], .agg [.so (mkB v.key), .io .i64 v.st, .io .i64 v.en, .io .i64 v.kd, .io .i64 v.nt, .io .i64 v.ct, .io .i64 v.sm, .io .i64 v.mn, .io .i64 v.mx], .v (.pointer none), .v (.pointer none)] (fun x => .v (.pointer (some ⟨x, 0, none⟩))) (fun x ρ w1 => TrF kw2 vw2 (some ⟨x, 0, none⟩) (Tr.node k v .nil .nil) (ρ0 ++ ρ) w1) (fun x => TrF.stable) (by kernel_rfl) (by kernel_rfl) (by kernel_rfl) (by kernel_rfl) (fun ρ a w1 hi hf => (with2_any k v w1 (low_all hi.mem hρ rfl) (l := .nil) (r := .nil) rfl rfl (by simp only [Tr.many]; omega)).mono fun e w2 h => by
   obtain ⟨b, h1, h2, h3⟩ := h
   exact ⟨b, h1, h3, h2⟩) (fun x => ?_)
  refine zT FcT.stable FcT.fewer [8] 0 ⟨.exit .ret, [], [(8, .v (.pointer (some (Addr.mk x 0 none))))], []⟩ ?_
  refine zE (.v (.pointer (some (Addr.mk x 0 none)))) ?_
  intro ρ w9 hm hf
  refine ⟨_, rfl, ?_, hm.below⟩
  exact hf.2.sub (fun x hx => List.mem_append_left _ hx)
 | node k' v' l r ihl ihr =>
  intro ρ0 p w hM hρ hp hn
  obtain ⟨b, pl, pr, rfl, hc, hl, hr⟩ := hp
  refine enterF (N := w.heap.size) (F := FcF kw2 vw2 ρ0 [.cel b (nodeW kw2 vw2 k' v' pl pr (Tr.node k' v' l r).high (Tr.node k' v' l r).many), .tr pl l, .tr pr r]) (fn := Tryz.f51) (c := B51) [.v (.pointer (some ⟨mb, 0, none⟩)), .v (.pointer (some ⟨b, 0, none⟩)), .agg [.so (mkB k.key), .io .i64 k.st, .io .i64 k.en], .agg [.so (mkB v.key), .io .i64 v.st, .io .i64 v.en, .io .i64 v.kd, .io .i64 v.nt, .io .i64 v.ct, .io .i64 v.sm, .io .i64 v.mn, .io .i64 v.mx]] Tryz.func51 rfl rfl (Nat.le_refl _) (fc_node hc hl hr) ?_
  refine zT FcF.stable FcF.fewer [0, 1, 6, 7, 10] 2 ⟨pops B51 [1, 0, 0] 1, [.seq (sub B51 [1, 0, 1]), .seq (sub B51 [1, 1])], [(0, .v (.pointer (some (Addr.mk mb 0 none)))), (1, .v (.pointer (some (Addr.mk b 0 none)))), (6, .lp 0 0), (7, .lp 1 0), (10, .v (.pointer (some (Addr.mk b 0 none))))], [([.so (mkB k.key), .io .i64 k.st, .io .i64 k.en], 59), ([.so (mkB v.key), .io .i64 v.st, .io .i64 v.en, .io .i64 v.kd, .io .i64 v.nt, .io .i64 v.ct, .io .i64 v.sm, .io .i64 v.mn, .io .i64 v.mx], 40)]⟩ ?_
  refine At.pcmp .eql 97 (some ⟨b, 0, none⟩) none false (by kernel_rfl) FcF.stable (fun w1 => eql1_nil b w1) ?_
  refine zT FcF.stable FcF.fewer [0, 1, 6, 7, 15] 2 ⟨pqops B51 [1, 1, 0, 0] 1, [.seq (sub B51 pAJ1), .seq (sub B51 pAJ2)], [(0, .v (.pointer (some (Addr.mk mb 0 none)))), (1, .v (.pointer (some (Addr.mk b 0 none)))), (6, .lp 0 0), (7, .lp 1 0), (15, .v (.pointer (some (Addr.mk mb 0 none))))], [([.so (mkB k.key), .io .i64 k.st, .io .i64 k.en], 59), ([.so (mkB v.key), .io .i64 v.st, .io .i64 v.en, .io .i64 v.kd, .io .i64 v.nt, .io .i64 v.ct, .io .i64 v.sm, .io .i64 v.mn, .io .i64 v.mx], 40)]⟩ ?_
  refine At.nck ⟨mb, 0, none⟩ (by kernel_rfl) FcF.stable ?_
  refine zT FcF.stable FcF.fewer [0, 1, 6, 7, 16] 2 ⟨pqops B51 [1, 1, 0, 0] 2, [.seq (sub B51 pAJ1), .seq (sub B51 pAJ2)], [(0, .v (.pointer (some (Addr.mk mb 0 none)))), (1, .v (.pointer (some (Addr.mk b 0 none)))), (6, .lp 0 0), (7, .lp 1 0), (16, .v (.pointer (some (Addr.mk mb 0 none))))], [([.so (mkB k.key), .io .i64 k.st, .io .i64 k.en], 59), ([.so (mkB v.key), .io .i64 v.st, .io .i64 v.en, .io .i64 v.kd, .io .i64 v.nt, .io .i64 v.ct, .io .i64 v.sm, .io .i64 v.mn, .io .i64 v.mx], 40)]⟩ ?_
  refine At.fax ⟨mb, 0, none⟩ 0 (by kernel_rfl) FcF.stable ?_
  refine zT FcF.stable FcF.fewer [0, 1, 6, 7, 17] 2 ⟨pqops B51 [1, 1, 0, 0] 3, [.seq (sub B51 pAJ1), .seq (sub B51 pAJ2)], [(0, .v (.pointer (some (Addr.mk mb 0 none)))), (1, .v (.pointer (some (Addr.mk b 0 none)))), (6, .lp 0 0), (7, .lp 1 0), (17, .v (.pointer (some (Addr.mk mb 0 none))))], [([.so (mkB k.key), .io .i64 k.st, .io .i64 k.en], 59), ([.so (mkB v.key), .io .i64 v.st, .io .i64 v.en, .io .i64 v.kd, .io .i64 v.nt, .io .i64 v.ct, .io .i64 v.sm, .io .i64 v.mn, .io .i64 v.mx], 40)]⟩ ?_
  refine At.ldx ((⟨mb, 0, none⟩ : Addr).add 0) (.fn (.func 27) []) (by kernel_rfl) FcF.stable (fun ρ w1 hm' hf => cell_belowA hM hm'.below) ?_
  refine zT FcF.stable FcF.fewer [0, 1, 6, 7, 18, 19, 20] 2 ⟨pqops B51 [1, 1, 0, 0] 6, [.seq (sub B51 pAJ1), .seq (sub B51 pAJ2)], [(0, .v (.pointer (some (Addr.mk mb 0 none)))), (1, .v (.pointer (some (Addr.mk b 0 none)))), (6, .lp 0 0), (7, .lp 1 0), (18, .fn (Fn.func 27) []), (19, .agg [.so (mkB k.key), .io .i64 k.st, .io .i64 k.en]), (20, .v (.pointer (some (Addr.mk b 0 none))))], [([.so (mkB k.key), .io .i64 k.st, .io .i64 k.en], 59), ([.so (mkB v.key), .io .i64 v.st, .io .i64 v.en, .io .i64 v.kd, .io .i64 v.nt, .io .i64 v.ct, .io .i64 v.sm, .io .i64 v.mn, .io .i64 v.mx], 40)]⟩ ?_
  refine At.nck ⟨b, 0, none⟩ (by kernel_rfl) FcF.stable ?_
  refine zT FcF.stable FcF.fewer [0, 1, 6, 7, 18, 19, 21] 2 ⟨pqops B51 [1, 1, 0, 0] 7, [.seq (sub B51 pAJ1), .seq (sub B51 pAJ2)], [(0, .v (.pointer (some (Addr.mk mb 0 none)))), (1, .v (.pointer (some (Addr.mk b 0 none)))), (6, .lp 0 0), (7, .lp 1 0), (18, .fn (Fn.func 27) []), (19, .agg [.so (mkB k.key), .io .i64 k.st, .io .i64 k.en]), (21, .v (.pointer (some (Addr.mk b 0 none))))], [([.so (mkB k.key), .io .i64 k.st, .io .i64 k.en], 59), ([.so (mkB v.key), .io .i64 v.st, .io .i64 v.en, .io .i64 v.kd, .io .i64 v.nt, .io .i64 v.ct, .io .i64 v.sm, .io .i64 v.mn, .io .i64 v.mx], 40)]⟩ ?_
  refine At.fax ⟨b, 0, none⟩ 0 (by kernel_rfl) FcF.stable ?_
  refine zT FcF.stable FcF.fewer [0, 1, 6, 7, 18, 19, 22] 2 ⟨pqops B51 [1, 1, 0, 0] 8, [.seq (sub B51 pAJ1), .seq (sub B51 pAJ2)], [(0, .v (.pointer (some (Addr.mk mb 0 none)))), (1, .v (.pointer (some (Addr.mk b 0 none)))), (6, .lp 0 0), (7, .lp 1 0), (18, .fn (Fn.func 27) []), (19, .agg [.so (mkB k.key), .io .i64 k.st, .io .i64 k.en]), (22, .v (.pointer (some (Addr.mk b 0 none))))], [([.so (mkB k.key), .io .i64 k.st, .io .i64 k.en], 59), ([.so (mkB v.key), .io .i64 v.st, .io .i64 v.en, .io .i64 v.kd, .io .i64 v.nt, .io .i64 v.ct, .io .i64 v.sm, .io .i64 v.mn, .io .i64 v.mx], 40)]⟩ ?_
  refine At.lda ((⟨b, 0, none⟩ : Addr).add 0) 3 [.so (mkB k'.key), .io .i64 k'.st, .io .i64 k'.en] (by kernel_rfl) rfl FcF.stable (fun ρ w1 hm' hf j u hj => by rw [Addr.add_add]; exact hf.cell (.head _) (part_k hj)) ?_
  refine zT FcF.stable FcF.fewer [0, 1, 6, 7, 18, 19, 23] 2 ⟨pqops B51 [1, 1, 0, 0] 9, [.seq (sub B51 pAJ1), .seq (sub B51 pAJ2)], [(0, .v (.pointer (some (Addr.mk mb 0 none)))), (1, .v (.pointer (some (Addr.mk b 0 none)))), (6, .lp 0 0), (7, .lp 1 0), (18, .fn (Fn.func 27) []), (19, .agg [.so (mkB k.key), .io .i64 k.st, .io .i64 k.en]), (23, .agg [.so (mkB k'.key), .io .i64 k'.st, .io .i64 k'.en])], [([.so (mkB k.key), .io .i64 k.st, .io .i64 k.en], 59), ([.so (mkB v.key), .io .i64 v.st, .io .i64 v.en, .io .i64 v.kd, .io .i64 v.nt, .io .i64 v.ct, .io .i64 v.sm, .io .i64 v.mn, .io .i64 v.mx], 40)]⟩ ?_
  refine zC FcF.stable 27 [.agg [.so (mkB k.key), .io .i64 k.st, .io .i64 k.en], .agg [.so (mkB k'.key), .io .i64 k'.st, .io .i64 k'.en]] (.io .i64 (cmp2 k k')) (fun ρ _ w1 hi hf => lastcmp_any k k' w1) ?_
  refine zTq FcF.stable FcF.fewer [0, 1, 6, 7, 9, 25] 2 ?_
  rcases Bool.eq_false_or_eq_true (decide (cmp2 k k' < 0)) with b0 | b0
  ·refine zR 25 b0 ?_
   refine zT FcF.stable FcF.fewer [0, 1, 6, 7] 2 ⟨.any (opsOf (sub B51 [1, 1, 0, 1, 4, 1, 2, 0])) 22 [], [.seq (sub B51 pAJ0), .block 0, .seq (sub B51 pAJ2)], [(0, .v (.pointer (some (Addr.mk mb 0 none)))), (1, .v (.pointer (some (Addr.mk b 0 none)))), (6, .lp 0 0), (7, .lp 1 0)], [([.so (mkB k.key), .io .i64 k.st, .io .i64 k.en], 59), ([.so (mkB v.key), .io .i64 v.st, .io .i64 v.en, .io .i64 v.kd, .io .i64 v.nt, .io .i64 v.ct, .io .i64 v.sm, .io .i64 v.mn, .io .i64 v.mx], 40)]⟩ ?_
   refine At.drawnE [(0, .eq (.v (.pointer (some ⟨b, 0, none⟩)))), (1, .eq (.v (.pointer (some ⟨b, 0, none⟩)))), (2, .eq (.v (.pointer (some ((⟨b, 0, none⟩ : Addr).add 0))))), (3, .eq (.agg [.so (mkB k'.key), .io .i64 k'.st, .io .i64 k'.en])), (4, .eq (.v (.pointer (some ⟨b, 0, none⟩)))), (5, .eq (.v (.pointer (some ⟨b, 0, none⟩)))), (6, .eq (.v (.pointer (some ((⟨b, 0, none⟩ : Addr).add 3))))), (7, .eq (.agg [.so (mkB v'.key), .io .i64 v'.st, .io .i64 v'.en, .io .i64 v'.kd, .io .i64 v'.nt, .io .i64 v'.ct, .io .i64 v'.sm, .io .i64 v'.mn, .io .i64 v'.mx])), (8, .eq (.v (.pointer (some ⟨mb, 0, none⟩)))), (9, .eq (.v (.pointer (some ⟨b, 0, none⟩)))), (10, .eq (.v (.pointer (some ⟨b, 0, none⟩)))), (11, .eq (.v (.pointer (some ((⟨b, 0, none⟩ : Addr).add 12))))), (12, .eq (.v (.pointer pl))), (13, .eq (.agg [.so (mkB k.key), .io .i64 k.st, .io .i64 k.en])), (14, .eq (.agg [.so (mkB v.key), .io .i64 v.st, .io .i64 v.en, .io .i64 v.kd, .io .i64 v.nt, .io .i64 v.ct, .io .i64 v.sm, .io .i64 v.mn, .io .i64 v.mx])), (15, .ex (Option Addr) (fun q => .v (.pointer q)) (fun q ρ w1 => TrF kw2 vw2 q (Tr.put cmp2 k v (l)) (ρ0 ++ ρ) w1)), (16, .eq (.v (.pointer (some ⟨b, 0, none⟩)))), (17, .eq (.v (.pointer (some ⟨b, 0, none⟩)))), (18, .eq (.v (.pointer (some ((⟨b, 0, none⟩ : Addr).add 13))))), (19, .eq (.v (.pointer pr))), (20, .ex (Option Addr) (fun q => .v (.pointer q)) (fun q ρ w1 => TrF kw2 vw2 q (Tr.even k' v' (Tr.put cmp2 k v (l)) (r)) (ρ0 ++ ρ) w1)), (21, .ex (Option Addr) (fun q => .v (.pointer q)) (fun q ρ w1 => TrF kw2 vw2 q (Tr.even k' v' (Tr.put cmp2 k v (l)) (r)) (ρ0 ++ ρ) w1))] [0, 1, 2, 3, 4, 5, 6, 7, 8, 9, 10, 11, 12, 13, 14, 15, 16, 17, 18, 19, 20, 21] [] 21 8 (fun q => .v (.pointer q)) (fun q ρ w1 => TrF kw2 vw2 q (Tr.even k' v' (Tr.put cmp2 k v (l)) (r)) (ρ0 ++ ρ) w1) rfl (by kernel_rfl) (by kernel_rfl) FcF.stable (by exact ⟨trivial, trivial, trivial, trivial, trivial, trivial, trivial, trivial, trivial, trivial, trivial, trivial, trivial, trivial, trivial, fun b => TrF.stable, trivial, trivial, trivial, trivial, fun b => TrF.stable, fun b => TrF.stable, trivial⟩) (by exact ⟨StepK.pure (by kernel_rfl) rfl,
    StepK.nck ⟨b, 0, none⟩ (by kernel_rfl) rfl,
    StepK.fax ⟨b, 0, none⟩ 0 (by kernel_rfl) rfl,
    StepK.lda ((⟨b, 0, none⟩ : Addr).add 0) 3 [.so (mkB k'.key), .io .i64 k'.st, .io .i64 k'.en] (by kernel_rfl) rfl rfl (fun ρ w1 hm hf j u hj => by rw [Addr.add_add]; exact hf.cell (.head _) (part_k hj)),
    StepK.pure (by kernel_rfl) rfl,
    StepK.nck ⟨b, 0, none⟩ (by kernel_rfl) rfl,
    StepK.fax ⟨b, 0, none⟩ 3 (by kernel_rfl) rfl,
    StepK.lda ((⟨b, 0, none⟩ : Addr).add 3) 9 [.so (mkB v'.key), .io .i64 v'.st, .io .i64 v'.en, .io .i64 v'.kd, .io .i64 v'.nt, .io .i64 v'.ct, .io .i64 v'.sm, .io .i64 v'.mn, .io .i64 v'.mx] (by kernel_rfl) rfl rfl (fun ρ w1 hm hf j u hj => by rw [Addr.add_add]; exact hf.cell (.head _) (part_v hj)),
    StepK.pure (by kernel_rfl) rfl,
    StepK.pure (by kernel_rfl) rfl,
    StepK.nck ⟨b, 0, none⟩ (by kernel_rfl) rfl,
    StepK.fax ⟨b, 0, none⟩ 12 (by kernel_rfl) rfl,
    StepK.ldx ((⟨b, 0, none⟩ : Addr).add 12) (by kernel_rfl) rfl (fun ρ w1 hm hf => hf.cell (.head _) rfl),
    StepK.pure (by kernel_rfl) rfl,
    StepK.pure (by kernel_rfl) rfl,
    StepK.call 51 [.v (.pointer (some ⟨mb, 0, none⟩)), .v (.pointer pl), .agg [.so (mkB k.key), .io .i64 k.st, .io .i64 k.en], .agg [.so (mkB v.key), .io .i64 v.st, .io .i64 v.en, .io .i64 v.kd, .io .i64 v.nt, .io .i64 v.ct, .io .i64 v.sm, .io .i64 v.mn, .io .i64 v.mx]] (by kernel_rfl) rfl (by kernel_rfl) (fun ρ w1 hm hf => (ihl _ pl w1 (cell_belowA hM hm.below) (low_all hm hρ rfl) (hf.tree (.tail _ (.head _))) (by simp only [Tr.many] at hn; omega)).mono fun e w2 h => by
     obtain ⟨q, h1, h2, h3⟩ := h
     exact ⟨_, h1, ⟨q, rfl, h2⟩, h3⟩),
    StepK.pure (by kernel_rfl) rfl,
    StepK.nck ⟨b, 0, none⟩ (by kernel_rfl) rfl,
    StepK.fax ⟨b, 0, none⟩ 13 (by kernel_rfl) rfl,
    StepK.ldx ((⟨b, 0, none⟩ : Addr).add 13) (by kernel_rfl) rfl (fun ρ w1 hm hf => hf.cell (.head _) rfl),
    StepK.callX 15 43 63 (fun x => [.agg [.so (mkB k'.key), .io .i64 k'.st, .io .i64 k'.en], .agg [.so (mkB v'.key), .io .i64 v'.st, .io .i64 v'.en, .io .i64 v'.kd, .io .i64 v'.nt, .io .i64 v'.ct, .io .i64 v'.sm, .io .i64 v'.mn, .io .i64 v'.mx], .v (.pointer x), .v (.pointer pr)]) (by kernel_rfl) (by kernel_rfl) rfl (fun x => by kernel_rfl) rfl (by kernel_rfl) (fun x ρ w1 hm hf hx => (even2_any k' v' w1 (low_all hm hρ rfl) hx (hf.tree (.tail _ (.tail _ (.head _)))) (by have h8 := Tr.put_many cmp2 k v l; simp only [Tr.many] at hn; omega)).mono fun e w2 h => by
     obtain ⟨b, h1, h2, h3⟩ := h
     exact ⟨_, h1, ⟨b, rfl, h2⟩, h3⟩),
    StepK.pureXE 20 48 rfl (by kernel_rfl) (by kernel_rfl) rfl (fun b => by kernel_rfl), trivial⟩) (by unfold subFr; kernel_rfl) (by kernel_rfl) rfl (fun x => ?_)
   refine zT FcT.stable FcT.fewer [8] 0 ⟨.exit .ret, [], [(8, .v (.pointer x))], []⟩ ?_
   refine zE (.v (.pointer x)) ?_
   intro ρ w9 hm hf
   refine ⟨_, rfl, ?_, hm.below⟩
   rw [Tr.put_l (of_decide_eq_true b0)]
   exact hf.2.sub (fun x hx => List.mem_append_left _ hx)
  refine zR 25 b0 ?_
  refine zT FcF.stable FcF.fewer [0, 1, 6, 7, 49] 2 ⟨.code (sub B51 [1, 1, 0, 1, 4, 1, 3, 1]), [.block 0, .seq (sub B51 pAJ2)], [(0, .v (.pointer (some (Addr.mk mb 0 none)))), (1, .v (.pointer (some (Addr.mk b 0 none)))), (6, .lp 0 0), (7, .lp 1 0), (49, .bo (decide (cmp2 k k' > 0)))], [([.so (mkB k.key), .io .i64 k.st, .io .i64 k.en], 59), ([.so (mkB v.key), .io .i64 v.st, .io .i64 v.en, .io .i64 v.kd, .io .i64 v.nt, .io .i64 v.ct, .io .i64 v.sm, .io .i64 v.mn, .io .i64 v.mx], 40)]⟩ ?_
  rcases Bool.eq_false_or_eq_true (decide (cmp2 k k' > 0)) with b1 | b1
  ·refine zR 49 b1 ?_
   refine zT FcF.stable FcF.fewer [0, 1, 6, 7] 2 ⟨.any (opsOf (sub B51 [1, 1, 0, 1, 4, 1, 3, 1, 2, 0])) 22 [], [.seq (sub B51 pAJ0), .block 0, .seq (sub B51 pAJ2)], [(0, .v (.pointer (some (Addr.mk mb 0 none)))), (1, .v (.pointer (some (Addr.mk b 0 none)))), (6, .lp 0 0), (7, .lp 1 0)], [([.so (mkB k.key), .io .i64 k.st, .io .i64 k.en], 59), ([.so (mkB v.key), .io .i64 v.st, .io .i64 v.en, .io .i64 v.kd, .io .i64 v.nt, .io .i64 v.ct, .io .i64 v.sm, .io .i64 v.mn, .io .i64 v.mx], 40)]⟩ ?_
   refine At.drawnE [(0, .eq (.v (.pointer (some ⟨b, 0, none⟩)))), (1, .eq (.v (.pointer (some ⟨b, 0, none⟩)))), (2, .eq (.v (.pointer (some ((⟨b, 0, none⟩ : Addr).add 0))))), (3, .eq (.agg [.so (mkB k'.key), .io .i64 k'.st, .io .i64 k'.en])), (4, .eq (.v (.pointer (some ⟨b, 0, none⟩)))), (5, .eq (.v (.pointer (some ⟨b, 0, none⟩)))), (6, .eq (.v (.pointer (some ((⟨b, 0, none⟩ : Addr).add 3))))), (7, .eq (.agg [.so (mkB v'.key), .io .i64 v'.st, .io .i64 v'.en, .io .i64 v'.kd, .io .i64 v'.nt, .io .i64 v'.ct, .io .i64 v'.sm, .io .i64 v'.mn, .io .i64 v'.mx])), (8, .eq (.v (.pointer (some ⟨b, 0, none⟩)))), (9, .eq (.v (.pointer (some ⟨b, 0, none⟩)))), (10, .eq (.v (.pointer (some ((⟨b, 0, none⟩ : Addr).add 12))))), (11, .eq (.v (.pointer pl))), (12, .eq (.v (.pointer (some ⟨mb, 0, none⟩)))), (13, .eq (.v (.pointer (some ⟨b, 0, none⟩)))), (14, .eq (.v (.pointer (some ⟨b, 0, none⟩)))), (15, .eq (.v (.pointer (some ((⟨b, 0, none⟩ : Addr).add 13))))), (16, .eq (.v (.pointer pr))), (17, .eq (.agg [.so (mkB k.key), .io .i64 k.st, .io .i64 k.en])), (18, .eq (.agg [.so (mkB v.key), .io .i64 v.st, .io .i64 v.en, .io .i64 v.kd, .io .i64 v.nt, .io .i64 v.ct, .io .i64 v.sm, .io .i64 v.mn, .io .i64 v.mx])), (19, .ex (Option Addr) (fun q => .v (.pointer q)) (fun q ρ w1 => TrF kw2 vw2 q (Tr.put cmp2 k v (r)) (ρ0 ++ ρ) w1)), (20, .ex (Option Addr) (fun q => .v (.pointer q)) (fun q ρ w1 => TrF kw2 vw2 q (Tr.even k' v' (l) (Tr.put cmp2 k v (r))) (ρ0 ++ ρ) w1)), (21, .ex (Option Addr) (fun q => .v (.pointer q)) (fun q ρ w1 => TrF kw2 vw2 q (Tr.even k' v' (l) (Tr.put cmp2 k v (r))) (ρ0 ++ ρ) w1))] [0, 1, 2, 3, 4, 5, 6, 7, 8, 9, 10, 11, 12, 13, 14, 15, 16, 17, 18, 19, 20, 21] [] 21 8 (fun q => .v (.pointer q)) (fun q ρ w1 => TrF kw2 vw2 q (Tr.even k' v' (l) (Tr.put cmp2 k v (r))) (ρ0 ++ ρ) w1) rfl (by kernel_rfl) (by kernel_rfl) FcF.stable (by exact ⟨trivial, trivial, trivial, trivial, trivial, trivial, trivial, trivial, trivial, trivial, trivial, trivial, trivial, trivial, trivial, trivial, trivial, trivial, trivial, fun b => TrF.stable, fun b => TrF.stable, fun b => TrF.stable, trivial⟩) (by exact ⟨StepK.pure (by kernel_rfl) rfl,
    StepK.nck ⟨b, 0, none⟩ (by kernel_rfl) rfl,
    StepK.fax ⟨b, 0, none⟩ 0 (by kernel_rfl) rfl,
    StepK.lda ((⟨b, 0, none⟩ : Addr).add 0) 3 [.so (mkB k'.key), .io .i64 k'.st, .io .i64 k'.en] (by kernel_rfl) rfl rfl (fun ρ w1 hm hf j u hj => by rw [Addr.add_add]; exact hf.cell (.head _) (part_k hj)),
    StepK.pure (by kernel_rfl) rfl,
    StepK.nck ⟨b, 0, none⟩ (by kernel_rfl) rfl,
    StepK.fax ⟨b, 0, none⟩ 3 (by kernel_rfl) rfl,
    StepK.lda ((⟨b, 0, none⟩ : Addr).add 3) 9 [.so (mkB v'.key), .io .i64 v'.st, .io .i64 v'.en, .io .i64 v'.kd, .io .i64 v'.nt, .io .i64 v'.ct, .io .i64 v'.sm, .io .i64 v'.mn, .io .i64 v'.mx] (by kernel_rfl) rfl rfl (fun ρ w1 hm hf j u hj => by rw [Addr.add_add]; exact hf.cell (.head _) (part_v hj)),
    StepK.pure (by kernel_rfl) rfl,
    StepK.nck ⟨b, 0, none⟩ (by kernel_rfl) rfl,
    StepK.fax ⟨b, 0, none⟩ 12 (by kernel_rfl) rfl,
    StepK.ldx ((⟨b, 0, none⟩ : Addr).add 12) (by kernel_rfl) rfl (fun ρ w1 hm hf => hf.cell (.head _) rfl),
    StepK.pure (by kernel_rfl) rfl,
    StepK.pure (by kernel_rfl) rfl,
    StepK.nck ⟨b, 0, none⟩ (by kernel_rfl) rfl,
    StepK.fax ⟨b, 0, none⟩ 13 (by kernel_rfl) rfl,
    StepK.ldx ((⟨b, 0, none⟩ : Addr).add 13) (by kernel_rfl) rfl (fun ρ w1 hm hf => hf.cell (.head _) rfl),
    StepK.pure (by kernel_rfl) rfl,
    StepK.pure (by kernel_rfl) rfl,
    StepK.call 51 [.v (.pointer (some ⟨mb, 0, none⟩)), .v (.pointer pr), .agg [.so (mkB k.key), .io .i64 k.st, .io .i64 k.en], .agg [.so (mkB v.key), .io .i64 v.st, .io .i64 v.en, .io .i64 v.kd, .io .i64 v.nt, .io .i64 v.ct, .io .i64 v.sm, .io .i64 v.mn, .io .i64 v.mx]] (by kernel_rfl) rfl (by kernel_rfl) (fun ρ w1 hm hf => (ihr _ pr w1 (cell_belowA hM hm.below) (low_all hm hρ rfl) (hf.tree (.tail _ (.tail _ (.head _)))) (by simp only [Tr.many] at hn; omega)).mono fun e w2 h => by
     obtain ⟨q, h1, h2, h3⟩ := h
     exact ⟨_, h1, ⟨q, rfl, h2⟩, h3⟩),
    StepK.callX 19 71 63 (fun x => [.agg [.so (mkB k'.key), .io .i64 k'.st, .io .i64 k'.en], .agg [.so (mkB v'.key), .io .i64 v'.st, .io .i64 v'.en, .io .i64 v'.kd, .io .i64 v'.nt, .io .i64 v'.ct, .io .i64 v'.sm, .io .i64 v'.mn, .io .i64 v'.mx], .v (.pointer pl), .v (.pointer x)]) (by kernel_rfl) (by kernel_rfl) rfl (fun x => by kernel_rfl) rfl (by kernel_rfl) (fun x ρ w1 hm hf hx => (even2_any k' v' w1 (low_all hm hρ rfl) (hf.tree (.tail _ (.head _))) hx (by have h8 := Tr.put_many cmp2 k v r; simp only [Tr.many] at hn; omega)).mono fun e w2 h => by
     obtain ⟨b, h1, h2, h3⟩ := h
     exact ⟨_, h1, ⟨b, rfl, h2⟩, h3⟩),
    StepK.pureXE 20 72 rfl (by kernel_rfl) (by kernel_rfl) rfl (fun b => by kernel_rfl), trivial⟩) (by unfold subFr; kernel_rfl) (by kernel_rfl) rfl (fun x => ?_)
   refine zT FcT.stable FcT.fewer [8] 0 ⟨.exit .ret, [], [(8, .v (.pointer x))], []⟩ ?_
   refine zE (.v (.pointer x)) ?_
   intro ρ w9 hm hf
   refine ⟨_, rfl, ?_, hm.below⟩
   rw [Tr.put_r (of_decide_eq_false b0) (of_decide_eq_true b1)]
   exact hf.2.sub (fun x hx => List.mem_append_left _ hx)
  refine zR 49 b1 ?_
  refine zT FcF.stable FcF.fewer [1, 7] 2 ⟨.any (opsOf (sub B51 [1, 1, 1, 0])) 15 [], [.seq (sub B51 pAJ0)], [(1, .v (.pointer (some (Addr.mk b 0 none)))), (7, .lp 1 0)], [([.so (mkB k.key), .io .i64 k.st, .io .i64 k.en], 59), ([.so (mkB v.key), .io .i64 v.st, .io .i64 v.en, .io .i64 v.kd, .io .i64 v.nt, .io .i64 v.ct, .io .i64 v.sm, .io .i64 v.mn, .io .i64 v.mx], 40)]⟩ ?_
  refine At.drawnE [(0, .eq (.v (.pointer (some ⟨b, 0, none⟩)))), (1, .eq (.v (.pointer (some ⟨b, 0, none⟩)))), (2, .eq (.v (.pointer (some ((⟨b, 0, none⟩ : Addr).add 0))))), (3, .eq (.agg [.so (mkB k'.key), .io .i64 k'.st, .io .i64 k'.en])), (4, .eq (.agg [.so (mkB v.key), .io .i64 v.st, .io .i64 v.en, .io .i64 v.kd, .io .i64 v.nt, .io .i64 v.ct, .io .i64 v.sm, .io .i64 v.mn, .io .i64 v.mx])), (5, .eq (.v (.pointer (some ⟨b, 0, none⟩)))), (6, .eq (.v (.pointer (some ⟨b, 0, none⟩)))), (7, .eq (.v (.pointer (some ((⟨b, 0, none⟩ : Addr).add 12))))), (8, .eq (.v (.pointer pl))), (9, .eq (.v (.pointer (some ⟨b, 0, none⟩)))), (10, .eq (.v (.pointer (some ⟨b, 0, none⟩)))), (11, .eq (.v (.pointer (some ((⟨b, 0, none⟩ : Addr).add 13))))), (12, .eq (.v (.pointer pr))), (13, .ex Nat (fun b => .v (.pointer (some ⟨b, 0, none⟩))) (fun b ρ w1 => TrF kw2 vw2 (some ⟨b, 0, none⟩) (Tr.node k' v (l) (r)) (ρ0 ++ ρ) w1)), (14, .ex Nat (fun b => .v (.pointer (some ⟨b, 0, none⟩))) (fun b ρ w1 => TrF kw2 vw2 (some ⟨b, 0, none⟩) (Tr.node k' v (l) (r)) (ρ0 ++ ρ) w1))] [0, 1, 2, 3, 4, 5, 6, 7, 8, 9, 10, 11, 12, 13, 14] [] 14 8 (fun b => .v (.pointer (some ⟨b, 0, none⟩))) (fun b ρ w1 => TrF kw2 vw2 (some ⟨b, 0, none⟩) (Tr.node k' v (l) (r)) (ρ0 ++ ρ) w1) rfl (by kernel_rfl) (by kernel_rfl) FcF.stable (by exact ⟨trivial, trivial, trivial, trivial, trivial, trivial, trivial, trivial, trivial, trivial, trivial, trivial, trivial, fun b => TrF.stable, fun b => TrF.stable, trivial⟩) (by exact ⟨StepK.pure (by kernel_rfl) rfl,
   StepK.nck ⟨b, 0, none⟩ (by kernel_rfl) rfl,
   StepK.fax ⟨b, 0, none⟩ 0 (by kernel_rfl) rfl,
   StepK.lda ((⟨b, 0, none⟩ : Addr).add 0) 3 [.so (mkB k'.key), .io .i64 k'.st, .io .i64 k'.en] (by kernel_rfl) rfl rfl (fun ρ w1 hm hf j u hj => by rw [Addr.add_add]; exact hf.cell (.head _) (part_k hj)),
   StepK.pure (by kernel_rfl) rfl,
   StepK.pure (by kernel_rfl) rfl,
   StepK.nck ⟨b, 0, none⟩ (by kernel_rfl) rfl,
   StepK.fax ⟨b, 0, none⟩ 12 (by kernel_rfl) rfl,
   StepK.ldx ((⟨b, 0, none⟩ : Addr).add 12) (by kernel_rfl) rfl (fun ρ w1 hm hf => hf.cell (.head _) rfl),
   StepK.pure (by kernel_rfl) rfl,
   StepK.nck ⟨b, 0, none⟩ (by kernel_rfl) rfl,
   StepK.fax ⟨b, 0, none⟩ 13 (by kernel_rfl) rfl,
   StepK.ldx ((⟨b, 0, none⟩ : Addr).add 13) (by kernel_rfl) rfl (fun ρ w1 hm hf => hf.cell (.head _) rfl),
   StepK.call 62 [.agg [.so (mkB k'.key), .io .i64 k'.st, .io .i64 k'.en], .agg [.so (mkB v.key), .io .i64 v.st, .io .i64 v.en, .io .i64 v.kd, .io .i64 v.nt, .io .i64 v.ct, .io .i64 v.sm, .io .i64 v.mn, .io .i64 v.mx], .v (.pointer pl), .v (.pointer pr)] (by kernel_rfl) rfl (by kernel_rfl) (fun ρ w1 hm hf => (with2_any k' v w1 (low_all hm hρ rfl) (hf.tree (.tail _ (.head _))) (hf.tree (.tail _ (.tail _ (.head _)))) (by simp only [Tr.many] at hn ⊢; omega)).mono fun e w2 h => by
    obtain ⟨b, h1, h2, h3⟩ := h
    exact ⟨_, h1, ⟨b, rfl, h2⟩, h3⟩),
   StepK.pureXE 13 86 rfl (by kernel_rfl) (by kernel_rfl) rfl (fun b => by kernel_rfl), trivial⟩) (by unfold subFr; kernel_rfl) (by kernel_rfl) rfl (fun x => ?_)
  refine zT FcT.stable FcT.fewer [8] 0 ⟨.exit .ret, [], [(8, .v (.pointer (some (Addr.mk x 0 none))))], []⟩ ?_
  refine zE (.v (.pointer (some (Addr.mk x 0 none)))) ?_
  intro ρ w9 hm hf
  refine ⟨_, rfl, ?_, hm.below⟩
  rw [Tr.put_e (of_decide_eq_false b0) (of_decide_eq_false b1)]
  exact hf.2.sub (fun x hx => List.mem_append_left _ hx)
end Go.Proofs.YtkjnbafdmjakgaaGreatDoor
end
section
namespace Go.Proofs.YtkjnbafdmjakgaaGreatDoor
open Go.RowKit Go.Sx
theorem info132 : (Tryz.prog.info? 91).map (·.size) = some 2 := by kernel_rfl
theorem info139 : (Tryz.prog.info? 99).map (·.size) = some 2 := by kernel_rfl
theorem run_eql_func {P : Program} {t : TypeId} {f : Fn} {a b : Array Value} {ps rs : Array TypeId} {z : Bool} (ht : P.underlying t = some (.func ps rs z)) (w : World) : (binOp .eql t (.func f a b) .nilFunc).run P w = .ok (.bool false) w := by
 have h : ∀ d : Nat, (Op.equalIn (d + 1) t (.func f a b) .nilFunc).run P w = .ok false w := fun d => by
  simp [Op.equalIn, run_underlying ht]
 simp only [binOp]
 simp [Op.equal, Op.maxDepth, h 9999]
def fcI (ntm : Nat) (s : S) : Option (BinOp × TypeId × SV × SV) := match s.head?, s.dstOk ntm with
 | some o, true => match o.op with
  | .binOp op t x y _ => match evalS s.fr x, evalS s.fr y with
   | some (.fn g c), some (.v .nilFunc) => some (op, t, .fn g c, .v .nilFunc)
   | _, _ => none
  | _ => none
 | _, _ => none
theorem At.fcmp {P : Program} {Q : Exit → Act → World → Prop} {N : Nat} {w0 : World} {ntm : Nat} {F : List Nat → World → Prop} {s : S} (op : BinOp) (t : TypeId) (g : Fn) (c : List SV) (b : Bool) (hq : fcI ntm s = some (op, t, .fn g c, .v .nilFunc)) (hF : Stable F) (hr : ∀ ρ w, (binOp op t ((SV.fn g c).den ρ) .nilFunc).run P w = .ok (.bool b) w) (h : At P Q N w0 ntm F (s.tail ntm (.v (.bool b)))) : At P Q N w0 ntm F s := by
 unfold fcI at hq
 split at hq
 ·rename_i o ho hd
  refine At.op hF o (.v (.bool b)) ho hd (fun ρ act w hi hf => ?_) h
  obtain ⟨dst, opr, ty, pos, after, guard⟩ := o
  simp only at hq
  split at hq
  ·split at hq
   ·rename_i op' t' x y tt _ _ g' c' hx hy
    simp only [Option.some.injEq, Prod.mk.injEq] at hq
    obtain ⟨rfl, rfl, hgc, -⟩ := hq
    rw [hgc] at hx
    have hg : (eqGuard op' t' x y ((SV.fn g c).den ρ) .nilFunc).run P w = .ok () w := by cases op' <;> rfl
    have hr := hr ρ w
    have hd2 : (SV.v Value.nilFunc).den ρ = .nilFunc := rfl
    simp only [execOp, evalS_sound hi.act hx, evalS_sound hi.act hy, hd2, Sem.run_bind, hg, hr, Result.andThen_ok, Sem.run_pure]
    rfl
   cases hq
  cases hq
 cases hq
theorem eqlM1_nil (b : Nat) (w : World) : (binOp .eql 46 (.pointer (some ⟨b, 0, none⟩)) (.pointer none)).run Tryz.prog w = .ok (.bool false) w := by
 obtain ⟨j, hj1, hj2⟩ := Option.map_eq_some_iff.1 info132
 exact run_eql_none ⟨b, 0, none⟩ Tryz.underlying46 hj1 w
theorem eqlM2_nil (b : Nat) (w : World) : (binOp .eql 55 (.pointer (some ⟨b, 0, none⟩)) (.pointer none)).run Tryz.prog w = .ok (.bool false) w := by
 obtain ⟨j, hj1, hj2⟩ := Option.map_eq_some_iff.1 info139
 exact run_eql_none ⟨b, 0, none⟩ Tryz.underlying55 hj1 w
noncomputable def B43 : Code := (Tryz.f43.body).getD .skip
set_option maxHeartbeats 20000000 in
set_option maxRecDepth 100000 in
theorem none1_any {mb : Nat} (w : World) (hM : w.cell? ((⟨mb, 0, none⟩ : Addr).add 0) = some (.func (.func 29) #[] #[])) :
  Calls Tryz.prog 43 #[.pointer (some ⟨mb, 0, none⟩)] w fun e w' => e = .returned (.bool false) ∧ Below w.heap.size w w' := by
 refine enter (fn := Tryz.f43) (c := B43) [.v (.pointer (some ⟨mb, 0, none⟩))] Tryz.func43 rfl rfl ?_
 refine zN [0, 3] 0 ⟨pops B43 [1, 0] 1, [.seq (sub B43 [1, 1])], [(0, .v (.pointer (some (Addr.mk mb 0 none)))), (3, .v (.pointer (some (Addr.mk mb 0 none))))], []⟩ ?_
 refine At.pcmp .eql 46 (some ⟨mb, 0, none⟩) none false (by kernel_rfl) noF_stable (fun w1 => eqlM1_nil mb w1) ?_
 refine zN [5, 6] 0 ⟨pops B43 [1, 0] 4, [.seq (sub B43 [1, 1])], [(5, .v (.bool false)), (6, .v (.pointer (some (Addr.mk mb 0 none))))], []⟩ ?_
 refine At.nck ⟨mb, 0, none⟩ (by kernel_rfl) noF_stable ?_
 refine zN [5, 7] 0 ⟨pops B43 [1, 0] 5, [.seq (sub B43 [1, 1])], [(5, .v (.bool false)), (7, .v (.pointer (some (Addr.mk mb 0 none))))], []⟩ ?_
 refine At.fax ⟨mb, 0, none⟩ 0 (by kernel_rfl) noF_stable ?_
 refine zN [5, 8] 0 ⟨pops B43 [1, 0] 6, [.seq (sub B43 [1, 1])], [(5, .v (.bool false)), (8, .v (.pointer (some (Addr.mk mb 0 none))))], []⟩ ?_
 refine At.ldx ((⟨mb, 0, none⟩ : Addr).add 0) (.fn (.func 29) []) (by kernel_rfl) noF_stable (fun ρ w1 hm' hf => cell_belowA hM hm'.below) ?_
 refine zN [5, 9] 0 ⟨pops B43 [1, 0] 7, [.seq (sub B43 [1, 1])], [(5, .v (.bool false)), (9, .fn (Fn.func 29) [])], []⟩ ?_
 refine At.fcmp .eql 61 (.func 29) [] false (by kernel_rfl) noF_stable (fun ρ w1 => run_eql_func Tryz.underlying61 w1) ?_
 refine zN [2] 0 ⟨.exit .ret, [], [(2, .v (.bool false))], []⟩ ?_
 refine zE (.v (.bool false)) ?_
 intro ρ w9 hm hf
 exact ⟨rfl, hm.below⟩
noncomputable def B50 : Code := (Tryz.f50.body).getD .skip
set_option maxHeartbeats 20000000 in
set_option maxRecDepth 100000 in
theorem none2_any {mb : Nat} (w : World) (hM : w.cell? ((⟨mb, 0, none⟩ : Addr).add 0) = some (.func (.func 27) #[] #[])) :
  Calls Tryz.prog 50 #[.pointer (some ⟨mb, 0, none⟩)] w fun e w' => e = .returned (.bool false) ∧ Below w.heap.size w w' := by
 refine enter (fn := Tryz.f50) (c := B50) [.v (.pointer (some ⟨mb, 0, none⟩))] Tryz.func50 rfl rfl ?_
 refine zN [0, 3] 0 ⟨pops B50 [1, 0] 1, [.seq (sub B50 [1, 1])], [(0, .v (.pointer (some (Addr.mk mb 0 none)))), (3, .v (.pointer (some (Addr.mk mb 0 none))))], []⟩ ?_
 refine At.pcmp .eql 55 (some ⟨mb, 0, none⟩) none false (by kernel_rfl) noF_stable (fun w1 => eqlM2_nil mb w1) ?_
 refine zN [5, 6] 0 ⟨pops B50 [1, 0] 4, [.seq (sub B50 [1, 1])], [(5, .v (.bool false)), (6, .v (.pointer (some (Addr.mk mb 0 none))))], []⟩ ?_
 refine At.nck ⟨mb, 0, none⟩ (by kernel_rfl) noF_stable ?_
 refine zN [5, 7] 0 ⟨pops B50 [1, 0] 5, [.seq (sub B50 [1, 1])], [(5, .v (.bool false)), (7, .v (.pointer (some (Addr.mk mb 0 none))))], []⟩ ?_
 refine At.fax ⟨mb, 0, none⟩ 0 (by kernel_rfl) noF_stable ?_
 refine zN [5, 8] 0 ⟨pops B50 [1, 0] 6, [.seq (sub B50 [1, 1])], [(5, .v (.bool false)), (8, .v (.pointer (some (Addr.mk mb 0 none))))], []⟩ ?_
 refine At.ldx ((⟨mb, 0, none⟩ : Addr).add 0) (.fn (.func 27) []) (by kernel_rfl) noF_stable (fun ρ w1 hm' hf => cell_belowA hM hm'.below) ?_
 refine zN [5, 9] 0 ⟨pops B50 [1, 0] 7, [.seq (sub B50 [1, 1])], [(5, .v (.bool false)), (9, .fn (Fn.func 27) [])], []⟩ ?_
 refine At.fcmp .eql 63 (.func 27) [] false (by kernel_rfl) noF_stable (fun ρ w1 => run_eql_func Tryz.underlying63 w1) ?_
 refine zN [2] 0 ⟨.exit .ret, [], [(2, .v (.bool false))], []⟩ ?_
 refine zE (.v (.bool false)) ?_
 intro ρ w9 hm hf
 exact ⟨rfl, hm.below⟩
end Go.Proofs.YtkjnbafdmjakgaaGreatDoor
end
section
/- By keys, the last ones, who begins whom: plain. -/
namespace Go.Proofs.YtkjnbafdmjakgaaGreatDoor
section
variable {κ ν μ : Type} {cmp : κ → κ → Int}
theorem srt_tail {x : κ × ν} {l : List (κ × ν)} (h : Srt cmp (x :: l)) : Srt cmp l ∧ ∀ a ∈ l, cmp x.1 a.1 < 0 := ⟨(List.pairwise_cons.1 h).2, (List.pairwise_cons.1 h).1⟩
theorem srt_nil : Srt cmp ([] : List (κ × ν)) := List.Pairwise.nil
theorem lookL_below (ho : Lin cmp) {k : κ} {x : κ × ν} {l : List (κ × ν)} (h : Srt cmp (x :: l)) (hk : cmp k x.1 < 0) : lookL cmp k (x :: l) = none := by
 refine lookL_none _ fun a ha => ?_
 rcases List.mem_cons.1 ha with rfl | ha
 ·omega
 have := ho.trans _ _ _ hk ((srt_tail h).2 a ha)
 omega
theorem lin_refl (ho : Lin cmp) (k : κ) : cmp k k = 0 := (ho.eq k k).2 rfl
theorem lookL_ins (ho : Lin cmp) (k k' : κ) (v : ν) : ∀ l : List (κ × ν), Srt cmp l → lookL cmp k (insL cmp k' v l) = if cmp k k' = 0 then some v else lookL cmp k l
 | [], _ => by simp only [insL, lookL]
 | (a, b) :: l, h => by
  have ih := lookL_ins ho k k' v l (srt_tail h).1
  rw [insL]
  split
  ·rfl
  rename_i h1
  split
  ·rename_i h2
   rw [lookL, ih, lookL]
   by_cases e : cmp k a = 0
   ·have := (ho.eq _ _).1 e
    subst this
    have h3 : ¬ cmp k k' = 0 := by
     intro h3
     have := (ho.eq _ _).1 h3
     subst this
     rw [lin_refl ho] at h2
     omega
    rw [if_pos e, if_neg h3, if_pos e]
   rw [if_neg e, if_neg e]
  rename_i h2
  have := (ho.eq k' a).1 (by omega)
  subst this
  rw [lookL, lookL]
  by_cases e : cmp k k' = 0
  ·rw [if_pos e, if_pos e]
  rw [if_neg e, if_neg e, if_neg e]
theorem lookL_mem (ho : Lin cmp) {k : κ} {v : ν} : ∀ {l : List (κ × ν)}, Srt cmp l → (lookL cmp k l = some v ↔ (k, v) ∈ l)
 | [], _ => by simp [lookL]
 | (a, b) :: l, h => by
  have ih := lookL_mem ho (k := k) (v := v) (srt_tail h).1
  rw [lookL]
  split
  ·rename_i e
   have := (ho.eq _ _).1 e
   subst this
   constructor
   ·intro h1
    injection h1 with h1
    subst h1
    exact List.mem_cons_self ..
   intro h1
   rcases List.mem_cons.1 h1 with h1 | h1
   ·injection h1 with _ h1
    rw [h1]
   have := (srt_tail h).2 _ h1
   rw [lin_refl ho] at this
   omega
  rename_i e
  rw [ih]
  constructor
  ·exact List.mem_cons_of_mem _
  intro h1
  rcases List.mem_cons.1 h1 with h1 | h1
  ·injection h1 with h1 _
   subst h1
   exact absurd (lin_refl ho _) e
  exact h1
theorem srt_ext (ho : Lin cmp) : ∀ {l m : List (κ × ν)}, Srt cmp l → Srt cmp m → (∀ k, lookL cmp k l = lookL cmp k m) → l = m
 | [], [], _, _, _ => rfl
 | [], (a, b) :: m, _, _, h => by
  have := h a
  rw [lookL, lookL, if_pos (lin_refl ho a)] at this
  cases this
 | (a, b) :: l, [], _, _, h => by
  have := h a
  rw [lookL, lookL, if_pos (lin_refl ho a)] at this
  cases this
 | (a, b) :: l, (c, d) :: m, hl, hm, h => by
  have h1 : cmp a c = 0 := by
   have h2 := h a
   have h3 := h c
   rw [lookL, if_pos (lin_refl ho a)] at h2
   rw [show lookL cmp c ((c, d) :: m) = some d by rw [lookL, if_pos (lin_refl ho c)]] at h3
   have h4 : ¬ cmp a c < 0 := fun h4 => by rw [lookL_below ho hm h4] at h2; cases h2
   have h5 : ¬ cmp c a < 0 := fun h5 => by rw [lookL_below ho hl h5] at h3; cases h3
   rw [ho.anti] at h5
   omega
  have := (ho.eq _ _).1 h1
  subst this
  have h2 := h a
  rw [lookL, lookL, if_pos h1, if_pos h1] at h2
  injection h2 with h2
  subst h2
  rw [srt_ext ho (srt_tail hl).1 (srt_tail hm).1 fun k => ?_]
  have h3 := h k
  rw [lookL, lookL] at h3
  by_cases e : cmp k a = 0
  ·have := (ho.eq _ _).1 e
   subst this
   have ha : ∀ {r : List (κ × ν)}, Srt cmp ((k, b) :: r) → lookL cmp k r = none := fun hr => lookL_none _ fun x hx => by
    have := (srt_tail hr).2 x hx
    simp only at this
    omega
   rw [ha hl, ha hm]
  rw [if_neg e, if_neg e] at h3
  exact h3
theorem ins_perm (ho : Lin cmp) {k : κ} : ∀ {l : List (κ × ν)}, Srt cmp l → (lookL cmp k l = none ∧ ∀ v, (insL cmp k v l).Perm ((k, v) :: l)) ∨ ∃ u r, lookL cmp k l = some u ∧ l.Perm ((k, u) :: r) ∧ ∀ v, (insL cmp k v l).Perm ((k, v) :: r)
 | [], _ => .inl ⟨rfl, fun v => List.Perm.refl _⟩
 | (a, b) :: l, h => by
  by_cases h1 : cmp k a < 0
  ·refine .inl ⟨lookL_below ho h h1, fun v => ?_⟩
   rw [insL, if_pos h1]
  by_cases h2 : 0 < cmp k a
  ·rcases ins_perm ho (k := k) (srt_tail h).1 with ⟨h3, h4⟩ | ⟨u, r, h3, h4, h5⟩
   ·refine .inl ⟨by rw [lookL, if_neg (by omega)]; exact h3, fun v => ?_⟩
    rw [insL, if_neg h1, if_pos h2]
    exact ((h4 v).cons _).trans (List.Perm.swap ..)
   refine .inr ⟨u, (a, b) :: r, by rw [lookL, if_neg (by omega)]; exact h3, (h4.cons _).trans (List.Perm.swap ..), fun v => ?_⟩
   rw [insL, if_neg h1, if_pos h2]
   exact ((h5 v).cons _).trans (List.Perm.swap ..)
  have := (ho.eq k a).1 (by omega)
  subst this
  refine .inr ⟨b, l, by rw [lookL, if_pos (by omega)], List.Perm.refl _, fun v => ?_⟩
  rw [insL, if_neg h1, if_neg h2]
def mapV (f : ν → μ) (l : List (κ × ν)) : List (κ × μ) := l.map fun x => (x.1, f x.2)
theorem mapV_ins (f : ν → μ) (k : κ) (v : ν) : ∀ l : List (κ × ν), mapV f (insL cmp k v l) = insL cmp k (f v) (mapV f l)
 | [] => rfl
 | (a, b) :: l => by
  have ih := mapV_ins f k v l
  unfold mapV at ih ⊢
  simp only [insL, List.map_cons]
  split
  ·simp
  split
  ·simp [ih]
  simp
theorem mapV_look (f : ν → μ) (k : κ) : ∀ l : List (κ × ν), lookL cmp k (mapV f l) = (lookL cmp k l).map f
 | [] => rfl
 | (a, b) :: l => by
  have ih := mapV_look f k l
  unfold mapV at ih ⊢
  simp only [lookL, List.map_cons]
  split
  ·rfl
  exact ih
theorem mapV_srt (f : ν → μ) {l : List (κ × ν)} (h : Srt cmp l) : Srt cmp (mapV f l) := by
 unfold Srt mapV at *
 rw [List.pairwise_map]
 exact h
theorem ins_len {k : κ} {v : ν} : ∀ l : List (κ × ν), (insL cmp k v l).length ≤ l.length + 1
 | [] => Nat.le_refl _
 | (a, b) :: l => by
  have ih := ins_len (k := k) (v := v) l
  rw [insL]
  split
  ·simp
  split
  ·simp only [List.length_cons]; omega
  simp
end
def grp (k : List UInt8) (l : List Pn) : List Pn := l.filter fun p => decide (p.key = k)
theorem grp_app (k : List UInt8) (l m : List Pn) : grp k (l ++ m) = grp k l ++ grp k m := List.filter_append ..
theorem grp_one (k : List UInt8) (p : Pn) : grp k [p] = if p.key = k then [p] else [] := by
 unfold grp
 by_cases h : p.key = k <;> simp [h]
theorem grp_cons (k : List UInt8) (p : Pn) (l : List Pn) : grp k (p :: l) = if p.key = k then p :: grp k l else grp k l := by
 unfold grp
 by_cases h : p.key = k <;> simp [h]
theorem grp_le (k : List UInt8) (l : List Pn) : (grp k l).length ≤ l.length := List.length_filter_le ..
def addK (M : List (List UInt8 × List Pn)) (p : Pn) : List (List UInt8 × List Pn) := insL cmp1 p.key ((lookL cmp1 p.key M).getD [] ++ [p]) M
def keysM (l : List Pn) : List (List UInt8 × List Pn) := l.foldl addK []
def KeysOf (M : List (List UInt8 × List Pn)) (l : List Pn) : Prop := Srt cmp1 M ∧ ∀ k, lookL cmp1 k M = if grp k l = [] then none else some (grp k l)
theorem keysOf_nil : KeysOf [] [] := ⟨srt_nil, fun k => rfl⟩
theorem keysOf_get {M : List (List UInt8 × List Pn)} {l : List Pn} (h : KeysOf M l) (k : List UInt8) : (lookL cmp1 k M).getD [] = grp k l := by
 rw [h.2]
 split
 ·rename_i e; rw [e]; rfl
 rfl
theorem keysOf_add {M : List (List UInt8 × List Pn)} {l : List Pn} (h : KeysOf M l) (p : Pn) : KeysOf (addK M p) (l ++ [p]) := by
 unfold addK
 rw [keysOf_get h]
 refine ⟨insL_srt lin1 _ h.1, fun k => ?_⟩
 rw [lookL_ins lin1 _ _ _ _ h.1, grp_app, grp_one]
 by_cases e : cmp1 k p.key = 0
 ·have := (lin1.eq _ _).1 e
  rw [if_pos e, if_pos this.symm, this, if_neg (by simp)]
 have : ¬ p.key = k := fun h => e ((lin1.eq _ _).2 h.symm)
 rw [if_neg e, if_neg this, List.append_nil]
 exact h.2 k
theorem keysOf_fold : ∀ (l : List Pn) (M : List (List UInt8 × List Pn)) (m : List Pn), KeysOf M m → KeysOf (l.foldl addK M) (m ++ l)
 | [], M, m, h => by rw [List.append_nil]; exact h
 | p :: l, M, m, h => by
  have := keysOf_fold l (addK M p) (m ++ [p]) (keysOf_add h p)
  rw [List.append_assoc] at this
  exact this
theorem keysM_of (l : List Pn) : KeysOf (keysM l) l := keysOf_fold l [] [] keysOf_nil
theorem keysM_snoc (l : List Pn) (p : Pn) : keysM (l ++ [p]) = addK (keysM l) p := by simp [keysM, List.foldl_append]
theorem keysOf_uniq {M M' : List (List UInt8 × List Pn)} {l : List Pn} (h : KeysOf M l) (h' : KeysOf M' l) : M = M' := srt_ext lin1 h.1 h'.1 fun k => (h.2 k).trans (h'.2 k).symm
theorem keysOf_mem {M : List (List UInt8 × List Pn)} {l : List Pn} (h : KeysOf M l) {k : List UInt8} {g : List Pn} (hm : (k, g) ∈ M) : g = grp k l ∧ g ≠ [] := by
 have h1 := (lookL_mem lin1 h.1).2 hm
 rw [h.2] at h1
 split at h1
 ·cases h1
 rename_i e
 injection h1 with h1
 exact ⟨h1.symm, h1 ▸ e⟩
theorem keysM_len (l : List Pn) : (keysM l).length ≤ l.length := by
 have : ∀ (l : List Pn) (M : List (List UInt8 × List Pn)), (l.foldl addK M).length ≤ M.length + l.length := by
  intro l
  induction l with
  | nil => intro M; simp
  | cons p l ih =>
   intro M
   have h1 := ih (addK M p)
   have h2 : (addK M p).length ≤ M.length + 1 := ins_len M
   simp only [List.foldl_cons, List.length_cons]
   omega
 have h := this l []
 simp only [List.length_nil, Nat.zero_add] at h
 exact h
def rkeysM (l : List Pn) : List (List UInt8 × Unit) := l.foldl (fun M p => insL cmp1 p.key () M) []
theorem rkeys_fold : ∀ (l : List Pn) (M : List (List UInt8 × Unit)), Srt cmp1 M → Srt cmp1 (l.foldl (fun M p => insL cmp1 p.key () M) M) ∧ ∀ k, lookL cmp1 k (l.foldl (fun M p => insL cmp1 p.key () M) M) = if grp k l = [] then lookL cmp1 k M else some ()
 | [], M, h => ⟨h, fun k => rfl⟩
 | p :: l, M, h => by
  obtain ⟨h1, h2⟩ := rkeys_fold l (insL cmp1 p.key () M) (insL_srt lin1 _ h)
  refine ⟨h1, fun k => ?_⟩
  rw [List.foldl_cons, h2, lookL_ins lin1 _ _ _ _ h, grp_cons]
  by_cases e : cmp1 k p.key = 0
  ·have := (lin1.eq _ _).1 e
   rw [if_pos e, if_pos this.symm, if_neg (List.cons_ne_nil _ _)]
   split <;> rfl
  have : ¬ p.key = k := fun h => e ((lin1.eq _ _).2 h.symm)
  rw [if_neg e, if_neg this]
def rkeyL (l : List Pn) : List (List UInt8) := (rkeysM l).map (·.1)
def withG (l : List Pn) (ks : List (List UInt8)) : List (List UInt8 × List Pn) := ks.map fun k => (k, grp k l)
theorem lookG (l : List Pn) (k : List UInt8) : ∀ R : List (List UInt8 × Unit), lookL cmp1 k (withG l (R.map (·.1))) = (lookL cmp1 k R).map fun _ => grp k l
 | [] => rfl
 | (a, b) :: R => by
  have ih := lookG l k R
  unfold withG at ih ⊢
  simp only [List.map_cons, lookL]
  split
  ·rename_i e
   have := (lin1.eq _ _).1 e
   subst this
   rfl
  exact ih
theorem rkeys_alike (l : List Pn) : withG l (rkeyL l) = keysM l := by
 obtain ⟨h1, h2⟩ := rkeys_fold l [] srt_nil
 refine keysOf_uniq (l := l) ⟨?_, fun k => ?_⟩ (keysM_of l)
 ·unfold Srt withG rkeyL
  rw [List.pairwise_map, List.pairwise_map]
  exact h1
 unfold rkeyL
 rw [lookG]
 unfold rkeysM
 rw [h2]
 split
 ·rfl
 rfl
def Beg (a b : List Pn) : Prop := ∀ k, grp k a <+: grp k b
def begK (m : List UInt8 → List Pn) : List Pn → Bool
 | [] => true
 | p :: a => match m p.key with
  | [] => false
  | q :: r => bif decide (q = p) then begK (fun k => if k = p.key then r else m k) a else false
theorem begK_iff : ∀ (a : List Pn) (m : List UInt8 → List Pn), begK m a = true ↔ ∀ k, grp k a <+: m k
 | [], m => by simp [begK, grp]
 | p :: a, m => by
  rw [begK]
  split
  ·rename_i e
   refine ⟨fun h => (by cases h), fun h => ?_⟩
   have := h p.key
   rw [e, grp_cons, if_pos rfl] at this
   simp at this
  rename_i q r e
  by_cases hq : q = p
  ·subst hq
   rw [decide_eq_true rfl, cond_true, begK_iff a]
   refine (fun (hx : ∀ k, ((grp k a <+: if k = q.key then r else m k) ↔ (grp k (q :: a) <+: m k))) => ⟨fun h k => (hx k).1 (h k), fun h k => (hx k).2 (h k)⟩) fun k => ?_
   rw [grp_cons]
   by_cases hk : k = q.key
   ·subst hk
    rw [if_pos rfl, if_pos rfl, e, List.prefix_cons_inj]
   rw [if_neg hk, if_neg fun h => hk h.symm]
  rw [decide_eq_false hq, cond_false]
  refine ⟨fun h => (by cases h), fun h => ?_⟩
  have := h p.key
  rw [e, grp_cons, if_pos rfl, List.cons_prefix_cons] at this
  exact absurd this.1.symm hq
def begB (a b : List Pn) : Bool := begK (fun k => grp k b) a
theorem begB_iff {a b : List Pn} : begB a b = true ↔ Beg a b := begK_iff a _
theorem rbeg {a b : List Pn} : ((keysM a).all fun x => decide (x.2.length ≤ (grp x.1 b).length ∧ x.2 = (grp x.1 b).take x.2.length)) = begB a b := by
 rw [Bool.eq_iff_iff, begB_iff, List.all_eq_true]
 constructor
 ·intro h k
  by_cases e : grp k a = []
  ·rw [e]; exact List.nil_prefix
  have hm : (k, grp k a) ∈ keysM a := (lookL_mem lin1 (keysM_of a).1).1 (by rw [(keysM_of a).2, if_neg e])
  have := of_decide_eq_true (h _ hm)
  rw [List.prefix_iff_eq_take]
  exact this.2
 rintro h ⟨k, g⟩ hx
 obtain ⟨rfl, _⟩ := keysOf_mem (keysM_of a) hx
 exact decide_eq_true ⟨(h k).length_le, List.prefix_iff_eq_take.1 (h k)⟩
theorem beg_len : ∀ (a b : List Pn), Beg a b → a.length ≤ b.length ∧ (a.length = b.length → ∀ k, grp k a = grp k b)
 | [], b, _ => ⟨Nat.zero_le _, fun h k => by rw [List.eq_nil_of_length_eq_zero h.symm]⟩
 | p :: a, b, h => by
  have h1 := h p.key
  rw [grp_cons, if_pos rfl] at h1
  obtain ⟨t, ht⟩ := h1
  have h2 : grp p.key b = p :: (grp p.key a ++ t) := ht.symm
  obtain ⟨b1, b2, rfl, h3, h4, h5⟩ := List.filter_eq_cons_iff.1 h2
  have h3' : grp p.key b1 = [] := List.filter_eq_nil_iff.2 h3
  have hg : ∀ k, grp k (b1 ++ p :: b2) = if p.key = k then p :: grp k (b1 ++ b2) else grp k (b1 ++ b2) := by
   intro k
   rw [grp_app, grp_app, grp_cons]
   split
   ·rename_i e
    subst e
    rw [h3']
    rfl
   rfl
  have hb : Beg a (b1 ++ b2) := fun k => by
   have h6 := h k
   rw [hg, grp_cons] at h6
   split at h6
   ·rwa [List.prefix_cons_inj] at h6
   exact h6
  obtain ⟨h7, h8⟩ := beg_len a (b1 ++ b2) hb
  simp only [List.length_append, List.length_cons] at h7 h8 ⊢
  refine ⟨by omega, fun he k => ?_⟩
  rw [hg, grp_cons, h8 (by omega)]
theorem alike_iff (a b : List Pn) : (decide (a.length = b.length) && begB a b) = (begB a b && begB b a) := by
 rw [Bool.eq_iff_iff, Bool.and_eq_true, Bool.and_eq_true, decide_eq_true_eq, begB_iff, begB_iff]
 constructor
 ·rintro ⟨h1, h2⟩
  refine ⟨h2, fun k => ?_⟩
  rw [(beg_len a b h2).2 h1 k]
  exact List.prefix_refl _
 rintro ⟨h1, h2⟩
 have := (beg_len a b h1).1
 have := (beg_len b a h2).1
 exact ⟨by omega, h1⟩
def atOf (p : Pn) : AtK := ⟨p.key, p.st, p.en⟩
instance : DecidableEq AtK := fun p q => decidable_of_iff (p.key = q.key ∧ p.st = q.st ∧ p.en = q.en) (by cases p; cases q; simp)
def lastM (l : List Pn) : List (AtK × Pn) := l.foldl (fun M p => insL cmp2 (atOf p) p M) []
def ats (k : AtK) (l : List Pn) : List Pn := l.filter fun p => decide (cmp2 k (atOf p) = 0)
theorem ats_cons (k : AtK) (p : Pn) (l : List Pn) : ats k (p :: l) = if cmp2 k (atOf p) = 0 then p :: ats k l else ats k l := by
 unfold ats
 by_cases h : cmp2 k (atOf p) = 0 <;> simp [h]
theorem last_fold : ∀ (l : List Pn) (M : List (AtK × Pn)), Srt cmp2 M → Srt cmp2 (l.foldl (fun M p => insL cmp2 (atOf p) p M) M) ∧ ∀ k, lookL cmp2 k (l.foldl (fun M p => insL cmp2 (atOf p) p M) M) = (ats k l).getLast?.or (lookL cmp2 k M)
 | [], M, h => ⟨h, fun k => rfl⟩
 | p :: l, M, h => by
  obtain ⟨h1, h2⟩ := last_fold l (insL cmp2 (atOf p) p M) (insL_srt lin2 _ h)
  refine ⟨h1, fun k => ?_⟩
  rw [List.foldl_cons, h2, lookL_ins lin2 _ _ _ _ h, ats_cons]
  by_cases e : cmp2 k (atOf p) = 0
  ·rw [if_pos e, if_pos e]
   cases ats k l <;> simp [List.getLast?_cons]
  rw [if_neg e, if_neg e]
theorem lastM_srt (l : List Pn) : Srt cmp2 (lastM l) := (last_fold l [] srt_nil).1
theorem lastM_look (l : List Pn) (k : AtK) : lookL cmp2 k (lastM l) = (ats k l).getLast? := by
 have := (last_fold l [] srt_nil).2 k
 rw [show lastM l = l.foldl (fun M p => insL cmp2 (atOf p) p M) [] from rfl, this]
 simp [lookL]
theorem lastM_snoc (l : List Pn) (p : Pn) : lastM (l ++ [p]) = insL cmp2 (atOf p) p (lastM l) := by simp [lastM, List.foldl_append]
theorem lastM_len (l : List Pn) : (lastM l).length ≤ l.length := by
 have : ∀ (l : List Pn) (M : List (AtK × Pn)), (l.foldl (fun M p => insL cmp2 (atOf p) p M) M).length ≤ M.length + l.length := by
  intro l
  induction l with
  | nil => intro M; simp
  | cons p l ih =>
   intro M
   have h1 := ih (insL cmp2 (atOf p) p M)
   have h2 : (insL cmp2 (atOf p) p M).length ≤ M.length + 1 := ins_len M
   simp only [List.foldl_cons, List.length_cons]
   omega
 have h := this l []
 simp only [List.length_nil, Nat.zero_add] at h
 exact h
def rlastM : List Pn → List (AtK × Pn) → List (AtK × Pn)
 | [], M => M
 | p :: l, M => bif l.any fun q => decide (atOf q = atOf p) then rlastM l M else rlastM l (insL cmp2 (atOf p) p M)
theorem rlast_fold : ∀ (l : List Pn) (M : List (AtK × Pn)), Srt cmp2 M → Srt cmp2 (rlastM l M) ∧ ∀ k, lookL cmp2 k (rlastM l M) = (ats k l).getLast?.or (lookL cmp2 k M)
 | [], M, h => ⟨h, fun k => rfl⟩
 | p :: l, M, h => by
  rw [rlastM]
  cases ha : l.any fun q => decide (atOf q = atOf p) with
  | true =>
   rw [cond_true]
   obtain ⟨h1, h2⟩ := rlast_fold l M h
   refine ⟨h1, fun k => ?_⟩
   rw [h2, ats_cons]
   by_cases e : cmp2 k (atOf p) = 0
   ·rw [if_pos e]
    obtain ⟨q, hq, hq2⟩ := List.any_eq_true.1 ha
    have hq2 := of_decide_eq_true hq2
    have hm : q ∈ ats k l := List.mem_filter.2 ⟨hq, decide_eq_true (by rw [hq2]; exact e)⟩
    cases hL : ats k l with
    | nil => rw [hL] at hm; cases hm
    | cons a r => simp [List.getLast?_cons]
   rw [if_neg e]
  | false =>
   rw [cond_false]
   obtain ⟨h1, h2⟩ := rlast_fold l (insL cmp2 (atOf p) p M) (insL_srt lin2 _ h)
   refine ⟨h1, fun k => ?_⟩
   rw [h2, lookL_ins lin2 _ _ _ _ h, ats_cons]
   by_cases e : cmp2 k (atOf p) = 0
   ·rw [if_pos e, if_pos e]
    cases ats k l <;> simp [List.getLast?_cons]
   rw [if_neg e, if_neg e]
theorem rlast_alike (l : List Pn) : rlastM l [] = lastM l := by
 obtain ⟨h1, h2⟩ := rlast_fold l [] srt_nil
 refine srt_ext lin2 h1 (lastM_srt l) fun k => ?_
 rw [h2, lastM_look]
 simp [lookL]
end Go.Proofs.YtkjnbafdmjakgaaGreatDoor
end
