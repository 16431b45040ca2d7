/- Joined texts: SS, KN, LL, SE, BK, U. -/
import Derived.Test.YthfpekhpeiebjaaGreatDoorPAM
import Derived.Test.YthfpekhpeiebjaaGreatDoorPAD
import Derived.Test.YthfpekhpeiebjaaGreatDoorPAA
import Derived.Lib.SmallJoins
import Derived.WideKeyArgs
import Derived.Deep.Slices
set_option linter.unusedSimpArgs false
set_option linter.unusedVariables false
section
namespace Go.Proofs.YthfpekhpeiebjaaGreatDoor
open Go.RowKit Go.Sx
noncomputable def B11 : Code := (Tryz.f11.body).getD .skip
theorem cf_beq (ga sa ka sza sla ofa gpa lta eaa gb sb kb szb slb ofb gpb ltb eab : Int) (da db : Bool) : (ga == gb && (sa == sb && (ka == kb && (sza == szb && (sla == slb && (ofa == ofb && (gpa == gpb && (lta == ltb && (eaa == eab && (da == db && true)))))))))) = decide (((Cf.mk ga sa ka sza sla ofa gpa lta eaa da) : Cf) = (Cf.mk gb sb kb szb slb ofb gpb ltb eab db)) := by
 rw [Bool.eq_iff_iff]
 simp [and_assoc]
theorem cf_ne {ga sa ka sza sla ofa gpa lta eaa gb sb kb szb slb ofb gpb ltb eab : Int} {da db : Bool} (h : (!(ga == gb && (sa == sb && (ka == kb && (sza == szb && (sla == slb && (ofa == ofb && (gpa == gpb && (lta == ltb && (eaa == eab && (da == db && true))))))))))) = true) : ((Cf.mk ga sa ka sza sla ofa gpa lta eaa da) : Cf) ≠ (Cf.mk gb sb kb szb slb ofb gpb ltb eab db) := fun e => by
 rw [cf_beq, decide_eq_true e] at h
 cases h
theorem cf_eq {ga sa ka sza sla ofa gpa lta eaa gb sb kb szb slb ofb gpb ltb eab : Int} {da db : Bool} (h : (!(ga == gb && (sa == sb && (ka == kb && (sza == szb && (sla == slb && (ofa == ofb && (gpa == gpb && (lta == ltb && (eaa == eab && (da == db && true))))))))))) = false) : ((Cf.mk ga sa ka sza sla ofa gpa lta eaa da) : Cf) = (Cf.mk gb sb kb szb slb ofb gpb ltb eab db) := by
 rw [cf_beq] at h
 exact of_decide_eq_true (by simpa only [Bool.not_eq_false'] using h)
theorem st_beq (kda ika tia va srca wka wksa bita maska kdb ikb tib vb srcb wkb wksb bitb maskb : Int) (keya keyb : List UInt8) : (kda == kdb && ((ika == ikb && ((mkB keya).toList == (mkB keyb).toList && (tia == tib && (va == vb && (srca == srcb && true))))) && (wka == wkb && (wksa == wksb && (bita == bitb && (maska == maskb && true)))))) = decide (((St.mk kda ika keya tia va srca wka wksa bita maska) : St) = (St.mk kdb ikb keyb tib vb srcb wkb wksb bitb maskb)) := by
 rw [Bool.eq_iff_iff, str_beq]
 simp [and_assoc]
theorem st_ne {kda ika tia va srca wka wksa bita maska kdb ikb tib vb srcb wkb wksb bitb maskb : Int} {keya keyb : List UInt8} (h : (!(kda == kdb && ((ika == ikb && ((mkB keya).toList == (mkB keyb).toList && (tia == tib && (va == vb && (srca == srcb && true))))) && (wka == wkb && (wksa == wksb && (bita == bitb && (maska == maskb && true))))))) = true) : ((St.mk kda ika keya tia va srca wka wksa bita maska) : St) ≠ (St.mk kdb ikb keyb tib vb srcb wkb wksb bitb maskb) := fun e => by
 rw [st_beq, decide_eq_true e] at h
 cases h
theorem st_eq {kda ika tia va srca wka wksa bita maska kdb ikb tib vb srcb wkb wksb bitb maskb : Int} {keya keyb : List UInt8} (h : (!(kda == kdb && ((ika == ikb && ((mkB keya).toList == (mkB keyb).toList && (tia == tib && (va == vb && (srca == srcb && true))))) && (wka == wkb && (wksa == wksb && (bita == bitb && (maska == maskb && true))))))) = false) : ((St.mk kda ika keya tia va srca wka wksa bita maska) : St) = (St.mk kdb ikb keyb tib vb srcb wkb wksb bitb maskb) := by
 rw [st_beq] at h
 exact of_decide_eq_true (by simpa only [Bool.not_eq_false'] using h)
def frS (i : Nat) : Fr := [(2, .lp 0 0), (3, .lp 1 0), (5, .io .i64 (i : Int))]
def locS (c : Cf) (wk : Int) (A : Option Addr) (n cap : Nat) (c2 : Cf) (wk2 : Int) (B : Option Addr) (m cap2 : Nat) (_ : Nat) : Sx.Loc := match c, c2 with
 | (Cf.mk ga sa ka sza sla ofa gpa lta eaa da), (Cf.mk gb sb kb szb slb ofb gpb ltb eab db) => [([.io .i64 ga, .io .i64 sa, .io .i64 ka, .io .i64 sza, .io .i64 sla, .io .i64 ofa, .io .i64 gpa, .io .i64 lta, .io .i64 eaa, .bo da, .io .i64 wk, .sl A n cap], 28), ([.io .i64 gb, .io .i64 sb, .io .i64 kb, .io .i64 szb, .io .i64 slb, .io .i64 ofb, .io .i64 gpb, .io .i64 ltb, .io .i64 eab, .bo db, .io .i64 wk2, .sl B m cap2], 28)]
set_option maxHeartbeats 8000000 in
set_option maxRecDepth 100000 in
theorem same_go (ga sa ka sza sla ofa gpa lta eaa : Int) (da : Bool) (wka : Int) (A : Option Addr) (n ca : Nat) (xs : List St) (gb sb kb szb slb ofb gpb ltb eab : Int) (db : Bool) (wkb : Int) (B : Option Addr) (m cb : Nat) (ys : List St) (w : World) (hS : SlS w A n xs) (hT : SlS w B m ys) (hn : n ≤ 1048576) (hm2 : m ≤ 1048576) :
  Calls Tryz.prog 11 #[.agg #[.int .i64 ga, .int .i64 sa, .int .i64 ka, .int .i64 sza, .int .i64 sla, .int .i64 ofa, .int .i64 gpa, .int .i64 lta, .int .i64 eaa, .bool da, .int .i64 wka, .slice A n ca], .agg #[.int .i64 gb, .int .i64 sb, .int .i64 kb, .int .i64 szb, .int .i64 slb, .int .i64 ofb, .int .i64 gpb, .int .i64 ltb, .int .i64 eab, .bool db, .int .i64 wkb, .slice B m cb]] w fun e w' => e = .returned (.bool (decide (((Cf.mk ga sa ka sza sla ofa gpa lta eaa da) : Cf) = (Cf.mk gb sb kb szb slb ofb gpb ltb eab db) ∧ wka = wkb ∧ xs = ys))) ∧ Below w.heap.size w w' := by
 refine enter (fn := Tryz.f11) (c := B11) [.agg [.io .i64 ga, .io .i64 sa, .io .i64 ka, .io .i64 sza, .io .i64 sla, .io .i64 ofa, .io .i64 gpa, .io .i64 lta, .io .i64 eaa, .bo da, .io .i64 wka, .sl A n ca], .agg [.io .i64 gb, .io .i64 sb, .io .i64 kb, .io .i64 szb, .io .i64 slb, .io .i64 ofb, .io .i64 gpb, .io .i64 ltb, .io .i64 eab, .bo db, .io .i64 wkb, .sl B m cb]] Tryz.func11 rfl rfl ?_
 refine At.to (noF_stable) (noF_fewer) 0 300 [2, 3, 11] 2 ⟨pops B11 [1, 0, 0] 6, [.seq (sub B11 [1, 0, 1]), .seq (sub B11 [1, 1])], [(2, .lp 0 0), (3, .lp 1 0), (11, .bo !(ga == gb && (sa == sb && (ka == kb && (sza == szb && (sla == slb && (ofa == ofb && (gpa == gpb && (lta == ltb && (eaa == eab && (da == db && true)))))))))))], [([.io .i64 ga, .io .i64 sa, .io .i64 ka, .io .i64 sza, .io .i64 sla, .io .i64 ofa, .io .i64 gpa, .io .i64 lta, .io .i64 eaa, .bo da, .io .i64 wka, .sl A n ca], 28), ([.io .i64 gb, .io .i64 sb, .io .i64 kb, .io .i64 szb, .io .i64 slb, .io .i64 ofb, .io .i64 gpb, .io .i64 ltb, .io .i64 eab, .bo db, .io .i64 wkb, .sl B m cb], 28)]⟩ (by kernel_rfl) (by kernel_rfl) ?_
 rcases Bool.eq_false_or_eq_true (!(ga == gb && (sa == sb && (ka == kb && (sza == szb && (sla == slb && (ofa == ofb && (gpa == gpb && (lta == ltb && (eaa == eab && (da == db && true))))))))))) with b0 | b0
 ·refine At.res 11 (!(ga == gb && (sa == sb && (ka == kb && (sza == szb && (sla == slb && (ofa == ofb && (gpa == gpb && (lta == ltb && (eaa == eab && (da == db && true))))))))))) true (by kernel_rfl) b0 ?_
  refine At.to (noF_stable) (noF_fewer) 0 300 [4] 0 ⟨.exit .ret, [], [(4, .v (.bool false))], []⟩ (by kernel_rfl) (by kernel_rfl) ?_
  refine At.ret (by kernel_rfl) (.v (.bool false)) (by kernel_rfl) ?_
  have hne : (Cf.mk ga sa ka sza sla ofa gpa lta eaa da) ≠ (Cf.mk gb sb kb szb slb ofb gpb ltb eab db) := cf_ne b0
  rw [show decide ((Cf.mk ga sa ka sza sla ofa gpa lta eaa da) = (Cf.mk gb sb kb szb slb ofb gpb ltb eab db) ∧ wka = wkb ∧ xs = ys) = false from decide_eq_false fun ⟨e1, e2, e3⟩ => hne e1]
  intro ρ w9 hm' hf
  exact ⟨rfl, hm'.below⟩
 ·refine At.res 11 (!(ga == gb && (sa == sb && (ka == kb && (sza == szb && (sla == slb && (ofa == ofb && (gpa == gpb && (lta == ltb && (eaa == eab && (da == db && true))))))))))) false (by kernel_rfl) b0 ?_
  refine At.to (noF_stable) (noF_fewer) 0 300 [2, 3, 18] 2 ⟨pops B11 [1, 0, 0] 13, [.seq (sub B11 [1, 0, 1]), .seq (sub B11 [1, 1])], [(2, .lp 0 0), (3, .lp 1 0), (18, .bo (wka != wkb))], [([.io .i64 ga, .io .i64 sa, .io .i64 ka, .io .i64 sza, .io .i64 sla, .io .i64 ofa, .io .i64 gpa, .io .i64 lta, .io .i64 eaa, .bo da, .io .i64 wka, .sl A n ca], 28), ([.io .i64 gb, .io .i64 sb, .io .i64 kb, .io .i64 szb, .io .i64 slb, .io .i64 ofb, .io .i64 gpb, .io .i64 ltb, .io .i64 eab, .bo db, .io .i64 wkb, .sl B m cb], 28)]⟩ (by kernel_rfl) (by kernel_rfl) ?_
  rcases Bool.eq_false_or_eq_true (wka != wkb) with b1 | b1
  ·refine At.res 18 (wka != wkb) true (by kernel_rfl) b1 ?_
   refine At.to (noF_stable) (noF_fewer) 0 300 [4] 0 ⟨.exit .ret, [], [(4, .v (.bool false))], []⟩ (by kernel_rfl) (by kernel_rfl) ?_
   refine At.ret (by kernel_rfl) (.v (.bool false)) (by kernel_rfl) ?_
   have hne : wka ≠ wkb := by simpa using b1
   rw [show decide ((Cf.mk ga sa ka sza sla ofa gpa lta eaa da) = (Cf.mk gb sb kb szb slb ofb gpb ltb eab db) ∧ wka = wkb ∧ xs = ys) = false from decide_eq_false fun ⟨e1, e2, e3⟩ => hne e2]
   intro ρ w9 hm' hf
   exact ⟨rfl, hm'.below⟩
  ·refine At.res 18 (wka != wkb) false (by kernel_rfl) b1 ?_
   refine At.to (noF_stable) (noF_fewer) 0 300 [2, 3, 26] 2 ⟨.code (sub B11 [1, 0, 1]), [.seq (sub B11 [1, 1])], [(2, .lp 0 0), (3, .lp 1 0), (26, .bo ((↑n : Int) != (↑m : Int)))], [([.io .i64 ga, .io .i64 sa, .io .i64 ka, .io .i64 sza, .io .i64 sla, .io .i64 ofa, .io .i64 gpa, .io .i64 lta, .io .i64 eaa, .bo da, .io .i64 wka, .sl A n ca], 28), ([.io .i64 gb, .io .i64 sb, .io .i64 kb, .io .i64 szb, .io .i64 slb, .io .i64 ofb, .io .i64 gpb, .io .i64 ltb, .io .i64 eab, .bo db, .io .i64 wkb, .sl B m cb], 28)]⟩ (by kernel_rfl) (by kernel_rfl) ?_
   rcases Bool.eq_false_or_eq_true ((↑n : Int) != (↑m : Int)) with b2 | b2
   ·refine At.res 26 ((↑n : Int) != (↑m : Int)) true (by kernel_rfl) b2 ?_
    refine At.to (noF_stable) (noF_fewer) 0 300 [4] 0 ⟨.exit .ret, [], [(4, .v (.bool false))], []⟩ (by kernel_rfl) (by kernel_rfl) ?_
    refine At.ret (by kernel_rfl) (.v (.bool false)) (by kernel_rfl) ?_
    have hne : n ≠ m := by simp at b2; omega
    rw [show decide ((Cf.mk ga sa ka sza sla ofa gpa lta eaa da) = (Cf.mk gb sb kb szb slb ofb gpb ltb eab db) ∧ wka = wkb ∧ xs = ys) = false from decide_eq_false fun ⟨e1, e2, e3⟩ => hne (by rw [hS.1, hT.1, e3])]
    intro ρ w9 hm' hf
    exact ⟨rfl, hm'.below⟩
   ·refine At.res 26 ((↑n : Int) != (↑m : Int)) false (by kernel_rfl) b2 ?_
    refine At.to (noF_stable) (noF_fewer) 0 300 [2, 3, 5] 2 ⟨.code (sub B11 [1, 1, 0, 1, 4]), [.block 0, .seq (sub B11 [1, 1, 1])], [(2, .lp 0 0), (3, .lp 1 0), (5, .v (.int .i64 0))], [([.io .i64 ga, .io .i64 sa, .io .i64 ka, .io .i64 sza, .io .i64 sla, .io .i64 ofa, .io .i64 gpa, .io .i64 lta, .io .i64 eaa, .bo da, .io .i64 wka, .sl A n ca], 28), ([.io .i64 gb, .io .i64 sb, .io .i64 kb, .io .i64 szb, .io .i64 slb, .io .i64 ofb, .io .i64 gpb, .io .i64 ltb, .io .i64 eab, .bo db, .io .i64 wkb, .sl B m cb], 28)]⟩ (by kernel_rfl) (by kernel_rfl) ?_
    have he1 : (Cf.mk ga sa ka sza sla ofa gpa lta eaa da) = (Cf.mk gb sb kb szb slb ofb gpb ltb eab db) := cf_eq b0
    have he2 : wka = wkb := by simpa using b1
    have hnm : n = m := by simp at b2; omega
    clear b0 b1 b2
    refine At.canonT [5] _ rfl ?_
    refine At.loop (σ := Nat) (sub B11 [1, 1, 0, 1, 4, 4]) frS (locS (Cf.mk ga sa ka sza sla ofa gpa lta eaa da) wka A n ca (Cf.mk gb sb kb szb slb ofb gpb ltb eab db) wkb B m cb) (fun i _ _ => True ∧ (i ≤ n ∧ ∀ k, k < i → xs[k]? = ys[k]?)) (fun i => n - i) 0 (by kernel_rfl) (by unfold subFr; kernel_rfl) (by kernel_rfl) (fun _ _ _ _ h => ⟨trivial, Nat.zero_le _, fun k hk => absurd hk (Nat.not_lt_zero k)⟩) ?_
    intro i
    refine At.pure fun ⟨h1, h2⟩ => ?_
    refine At.to (noF_stable) (noF_fewer) 0 300 [2, 3, 5, 31] 2 ⟨.code (sub B11 [1, 1, 0, 1, 4, 4, 0, 1]), [.seq (sub B11 [1, 1, 0, 1, 4, 4, 1]), .next (Sx.Next w.heap.size w Tryz.f11.ntmps frS (locS (Cf.mk ga sa ka sza sla ofa gpa lta eaa da) wka A n ca (Cf.mk gb sb kb szb slb ofb gpb ltb eab db) wkb B m cb) (fun i x x_1 => True ∧ i ≤ n ∧ ∀ (k : Nat), k < i → xs[k]? = ys[k]?) (fun i => n - i) i), .block 0, .seq (sub B11 [1, 1, 1])], [(2, .lp 0 0), (3, .lp 1 0), (5, .io .i64 (↑i : Int)), (31, .bo (decide ((↑i : Int) < (↑n : Int))))], [([.io .i64 ga, .io .i64 sa, .io .i64 ka, .io .i64 sza, .io .i64 sla, .io .i64 ofa, .io .i64 gpa, .io .i64 lta, .io .i64 eaa, .bo da, .io .i64 wka, .sl A n ca], 28), ([.io .i64 gb, .io .i64 sb, .io .i64 kb, .io .i64 szb, .io .i64 slb, .io .i64 ofb, .io .i64 gpb, .io .i64 ltb, .io .i64 eab, .bo db, .io .i64 wkb, .sl B m cb], 28)]⟩ (by kernel_rfl) (by kernel_rfl) ?_
    rcases Bool.eq_false_or_eq_true (decide ((↑i : Int) < (↑n : Int))) with b0 | b0
    ·refine At.res 31 (decide ((↑i : Int) < (↑n : Int))) true (by kernel_rfl) b0 ?_
     refine At.to (noF_stable) (noF_fewer) 0 300 [2, 3, 5, 35, 36] 2 ⟨pqops B11 [1, 1, 0, 1, 4, 4, 1, 0, 4, 0] 3, [.seq (sub B11 [1, 1, 0, 1, 4, 4, 1, 0, 4, 1]), .block 1, .seq (sub B11 [1, 1, 0, 1, 4, 4, 1, 1]), .next (Sx.Next w.heap.size w Tryz.f11.ntmps frS (locS (Cf.mk ga sa ka sza sla ofa gpa lta eaa da) wka A n ca (Cf.mk gb sb kb szb slb ofb gpb ltb eab db) wkb B m cb) (fun i x x_1 => True ∧ i ≤ n ∧ ∀ (k : Nat), k < i → xs[k]? = ys[k]?) (fun i => n - i) i), .block 0, .seq (sub B11 [1, 1, 1])], [(2, .lp 0 0), (3, .lp 1 0), (5, .io .i64 (↑i : Int)), (35, .sl A n ca), (36, .io .i64 (↑i : Int))], [([.io .i64 ga, .io .i64 sa, .io .i64 ka, .io .i64 sza, .io .i64 sla, .io .i64 ofa, .io .i64 gpa, .io .i64 lta, .io .i64 eaa, .bo da, .io .i64 wka, .sl A n ca], 28), ([.io .i64 gb, .io .i64 sb, .io .i64 kb, .io .i64 szb, .io .i64 slb, .io .i64 ofb, .io .i64 gpb, .io .i64 ltb, .io .i64 eab, .bo db, .io .i64 wkb, .sl B m cb], 28)]⟩ (by kernel_rfl) (by kernel_rfl) ?_
     have hi : i < n := by have := of_decide_eq_true b0; omega
     clear b0
     obtain ⟨x, hx⟩ : ∃ x, xs[i]? = some x := ⟨_, List.getElem?_eq_getElem (by rw [← hS.1]; exact hi)⟩
     obtain ⟨y, hy⟩ : ∃ y, ys[i]? = some y := ⟨_, List.getElem?_eq_getElem (by rw [← hT.1]; omega)⟩
     obtain ⟨a, rfl, hcell⟩ := hS.get hx
     obtain ⟨b, rfl, hcel2⟩ := hT.get hy
     obtain ⟨kda, ika, keya, tia, va, srca, wkc, wksa, bita, maska⟩ := x
     obtain ⟨kdb, ikb, keyb, tib, vb, srcb, wkd, wksb, bitb, maskb⟩ := y
     refine At.idx a n 10 (i : Int) (by kernel_rfl) (by omega) (by omega) noF_stable ?_
     refine At.lda (a.add ((i : Int).toNat * 10)) 10 [.io .i64 kda, .io .i64 ika, .so (mkB keya), .io .i64 tia, .io .i64 va, .io .i64 srca, .io .i64 wkc, .io .i64 wksa, .io .i64 bita, .io .u32 maska] (by kernel_rfl) rfl noF_stable (fun ρ w1 hm' hf j v2 hj => cell_below (hcell j v2 hj) hm'.below) ?_
     refine At.to (noF_stable) (noF_fewer) 0 300 [2, 3, 5, 38, 40, 41] 2 ⟨pqops B11 [1, 1, 0, 1, 4, 4, 1, 0, 4, 0] 8, [.seq (sub B11 [1, 1, 0, 1, 4, 4, 1, 0, 4, 1]), .block 1, .seq (sub B11 [1, 1, 0, 1, 4, 4, 1, 1]), .next (Sx.Next w.heap.size w Tryz.f11.ntmps frS (locS (Cf.mk ga sa ka sza sla ofa gpa lta eaa da) wka (some a) n ca (Cf.mk gb sb kb szb slb ofb gpb ltb eab db) wkb (some b) m cb) (fun i x x_1 => True ∧ i ≤ n ∧ ∀ (k : Nat), k < i → xs[k]? = ys[k]?) (fun i => n - i) i), .block 0, .seq (sub B11 [1, 1, 1])], [(2, .lp 0 0), (3, .lp 1 0), (5, .io .i64 (↑i : Int)), (38, .agg [.io .i64 kda, .io .i64 ika, .so (mkB keya), .io .i64 tia, .io .i64 va, .io .i64 srca, .io .i64 wkc, .io .i64 wksa, .io .i64 bita, .io IntKind.u32 maska]), (40, .sl (some b) m cb), (41, .io .i64 (↑i : Int))], [([.io .i64 ga, .io .i64 sa, .io .i64 ka, .io .i64 sza, .io .i64 sla, .io .i64 ofa, .io .i64 gpa, .io .i64 lta, .io .i64 eaa, .bo da, .io .i64 wka, .sl (some a) n ca], 28), ([.io .i64 gb, .io .i64 sb, .io .i64 kb, .io .i64 szb, .io .i64 slb, .io .i64 ofb, .io .i64 gpb, .io .i64 ltb, .io .i64 eab, .bo db, .io .i64 wkb, .sl (some b) m cb], 28)]⟩ (by kernel_rfl) (by kernel_rfl) ?_
     refine At.idx b m 10 (i : Int) (by kernel_rfl) (by omega) (by omega) noF_stable ?_
     refine At.lda (b.add ((i : Int).toNat * 10)) 10 [.io .i64 kdb, .io .i64 ikb, .so (mkB keyb), .io .i64 tib, .io .i64 vb, .io .i64 srcb, .io .i64 wkd, .io .i64 wksb, .io .i64 bitb, .io .u32 maskb] (by kernel_rfl) rfl noF_stable (fun ρ w1 hm' hf j v2 hj => cell_below (hcel2 j v2 hj) hm'.below) ?_
     refine At.to (noF_stable) (noF_fewer) 0 300 [2, 3, 5, 44] 2 ⟨.code (sub B11 [1, 1, 0, 1, 4, 4, 1, 0, 4, 1]), [.block 1, .seq (sub B11 [1, 1, 0, 1, 4, 4, 1, 1]), .next (Sx.Next w.heap.size w Tryz.f11.ntmps frS (locS (Cf.mk ga sa ka sza sla ofa gpa lta eaa da) wka (some a) n ca (Cf.mk gb sb kb szb slb ofb gpb ltb eab db) wkb (some b) m cb) (fun i x x_1 => True ∧ i ≤ n ∧ ∀ (k : Nat), k < i → xs[k]? = ys[k]?) (fun i => n - i) i), .block 0, .seq (sub B11 [1, 1, 1])], [(2, .lp 0 0), (3, .lp 1 0), (5, .io .i64 (↑i : Int)), (44, .bo !(kda == kdb && (ika == ikb && ((mkB keya).toList == (mkB keyb).toList && (tia == tib && (va == vb && (srca == srcb && true)))) && (wkc == wkd && (wksa == wksb && (bita == bitb && (maska == maskb && true)))))))], [([.io .i64 ga, .io .i64 sa, .io .i64 ka, .io .i64 sza, .io .i64 sla, .io .i64 ofa, .io .i64 gpa, .io .i64 lta, .io .i64 eaa, .bo da, .io .i64 wka, .sl (some a) n ca], 28), ([.io .i64 gb, .io .i64 sb, .io .i64 kb, .io .i64 szb, .io .i64 slb, .io .i64 ofb, .io .i64 gpb, .io .i64 ltb, .io .i64 eab, .bo db, .io .i64 wkb, .sl (some b) m cb], 28)]⟩ (by kernel_rfl) (by kernel_rfl) ?_
     rcases Bool.eq_false_or_eq_true (!(kda == kdb && (ika == ikb && ((mkB keya).toList == (mkB keyb).toList && (tia == tib && (va == vb && (srca == srcb && true)))) && (wkc == wkd && (wksa == wksb && (bita == bitb && (maska == maskb && true))))))) with b0 | b0
     ·refine At.res 44 (!(kda == kdb && (ika == ikb && ((mkB keya).toList == (mkB keyb).toList && (tia == tib && (va == vb && (srca == srcb && true)))) && (wkc == wkd && (wksa == wksb && (bita == bitb && (maska == maskb && true))))))) true (by kernel_rfl) b0 ?_
      refine At.to (noF_stable) (noF_fewer) 0 300 [4] 0 ⟨.exit .ret, [], [(4, .v (.bool false))], []⟩ (by kernel_rfl) (by kernel_rfl) ?_
      refine At.ret (by kernel_rfl) (.v (.bool false)) (by kernel_rfl) ?_
      have hne : ((St.mk kda ika keya tia va srca wkc wksa bita maska) : St) ≠ (St.mk kdb ikb keyb tib vb srcb wkd wksb bitb maskb) := st_ne b0
      rw [show decide ((Cf.mk ga sa ka sza sla ofa gpa lta eaa da) = (Cf.mk gb sb kb szb slb ofb gpb ltb eab db) ∧ wka = wkb ∧ xs = ys) = false from decide_eq_false fun ⟨e1, e2, e3⟩ => hne (by rw [e3, hy] at hx; exact (Option.some.inj hx).symm)]
      intro ρ w9 hm' hf
      exact ⟨rfl, hm'.below⟩
     ·refine At.res 44 (!(kda == kdb && (ika == ikb && ((mkB keya).toList == (mkB keyb).toList && (tia == tib && (va == vb && (srca == srcb && true)))) && (wkc == wkd && (wksa == wksb && (bita == bitb && (maska == maskb && true))))))) false (by kernel_rfl) b0 ?_
      refine At.to (noF_stable) (noF_fewer) 0 300 [2, 3, 5] 2 ⟨.exit .normal, [.next (Sx.Next w.heap.size w Tryz.f11.ntmps frS (locS (Cf.mk ga sa ka sza sla ofa gpa lta eaa da) wka (some a) n ca (Cf.mk gb sb kb szb slb ofb gpb ltb eab db) wkb (some b) m cb) (fun i x x_1 => True ∧ i ≤ n ∧ ∀ (k : Nat), k < i → xs[k]? = ys[k]?) (fun i => n - i) i), .block 0, .seq (sub B11 [1, 1, 1])], [(2, .lp 0 0), (3, .lp 1 0), (5, .io .i64 (IntKind.i64.wrap ((↑i : Int) + 1)))], [([.io .i64 ga, .io .i64 sa, .io .i64 ka, .io .i64 sza, .io .i64 sla, .io .i64 ofa, .io .i64 gpa, .io .i64 lta, .io .i64 eaa, .bo da, .io .i64 wka, .sl (some a) n ca], 28), ([.io .i64 gb, .io .i64 sb, .io .i64 kb, .io .i64 szb, .io .i64 slb, .io .i64 ofb, .io .i64 gpb, .io .i64 ltb, .io .i64 eab, .bo db, .io .i64 wkb, .sl (some b) m cb], 28)]⟩ (by kernel_rfl) (by kernel_rfl) ?_
      have heq : ((St.mk kda ika keya tia va srca wkc wksa bita maska) : St) = (St.mk kdb ikb keyb tib vb srcb wkd wksb bitb maskb) := st_eq b0
      have hw3 : IntKind.i64.wrap ((i : Int) + 1) = ((i + 1 : Nat) : Int) := by
       rw [wrap63 (by omega) (by omega)]
       omega
      rw [hw3]
      refine At.next (σ := Nat) (i + 1) rfl rfl (by unfold subFr; kernel_rfl) (by kernel_rfl) ?_ ?_
      ·intro ρ a' w' hi' hf
       refine ⟨trivial, by omega, fun k hk => ?_⟩
       by_cases hki : k = i
       ·subst hki
        rw [hx, hy, heq]
       ·exact h2 k (by omega)
      ·show n - (i + 1) < n - i
       omega
    ·refine At.res 31 (decide ((↑i : Int) < (↑n : Int))) false (by kernel_rfl) b0 ?_
     refine At.to (noF_stable) (noF_fewer) 0 300 [4] 0 ⟨.exit .ret, [], [(4, .v (.bool true))], []⟩ (by kernel_rfl) (by kernel_rfl) ?_
     refine At.ret (by kernel_rfl) (.v (.bool true)) (by kernel_rfl) ?_
     have hi : ¬ (i : Int) < (n : Int) := of_decide_eq_false b0
     rw [show decide ((Cf.mk ga sa ka sza sla ofa gpa lta eaa da) = (Cf.mk gb sb kb szb slb ofb gpb ltb eab db) ∧ wka = wkb ∧ xs = ys) = true from decide_eq_true ⟨he1, he2, List.ext_getElem? fun k => if hk : k < i then h2 k hk else by rw [List.getElem?_eq_none (by rw [← hS.1]; omega), List.getElem?_eq_none (by rw [← hT.1]; omega)]⟩]
     intro ρ w9 hm' hf
     exact ⟨rfl, hm'.below⟩
end Go.Proofs.YthfpekhpeiebjaaGreatDoor
end
section
namespace Go.Proofs.YthfpekhpeiebjaaGreatDoor
open Go.RowKit Go.Sx
def kc : Cf := ⟨4, 2, 1, 10, 0, 0, 0, 0, 0, false⟩
def kx : List St := [pk 1, ev [97] 5 (-1)]
def kt : List UInt8 := [106, 111, 98, 32, 103, 114, 111, 117, 112, 115, 32, 52, 32, 115, 111, 117, 114, 99, 101, 115, 32, 50, 32, 107, 105, 110, 100, 32, 116, 117, 109, 98, 108, 105, 110, 103, 32, 115, 105, 122, 101, 32, 49, 48, 32, 115, 108, 105, 100, 101, 32, 48, 32, 111, 102, 102, 115, 101, 116, 32, 48, 32, 103, 97, 112, 32, 48, 32, 108, 97, 116, 101, 32, 48, 32, 101, 97, 114, 108, 121, 32, 48, 32, 100, 105, 115, 99, 97, 114, 100, 32, 110, 111, 10, 119, 111, 114, 107, 101, 114, 115, 32, 50, 10, 112, 105, 99, 107, 32, 49, 10, 101, 118, 101, 110, 116, 32, 34, 97, 34, 32, 53, 32, 45, 49, 10]
theorem kchk : (chkP kc 2 kx).2 = 0 := by decide +kernel
theorem kok : ∀ x ∈ kx, x.ok := by
 intro x hx
 simp only [kx, List.mem_cons, List.not_mem_nil, or_false] at hx
 rcases hx with rfl | rfl <;> simp [St.ok, pk, ev, in64]
def kF (a b c d e f g : List UInt8) : List UInt8 := [106, 111, 98, 32] ++ Lib.join (weaveL wordsW [a, b, kindW 1, d, e, e, e, e, e, saysW false]) [32] ++ [10, 119, 111, 114, 107, 101, 114, 115, 32] ++ b ++ [10] ++ (([112, 105, 99, 107, 32] ++ c ++ [10]) ++ (([101, 118, 101, 110, 116, 32] ++ quoteB [97] ++ [32] ++ f ++ [32] ++ g ++ [10]) ++ []))
theorem dec1 {u : Nat} (h : u < 10) : Lib.decDigits u = [UInt8.ofNat (48 + u)] := by
 rw [Lib.decDigits, dif_pos h]
theorem ito1 (u : Nat) (h : u < 10) : Lib.itoa (u : Int) = [UInt8.ofNat (48 + u)] := by
 unfold Lib.itoa
 rw [if_neg (by omega), Int.toNat_natCast, dec1 h]
theorem it10 : Lib.itoa 10 = [49, 48] := by
 show Lib.decDigits 10 = _
 rw [Lib.decDigits, dif_neg (by decide), dec1 (by decide)]
 rfl
theorem itm1 : Lib.itoa (-1) = [45, 49] := by
 show 45 :: Lib.decDigits 1 = _
 rw [dec1 (by decide)]
 rfl
theorem ktext : scriptB kc 2 kx = kt := by
 have h : scriptB kc 2 kx = kF (Lib.itoa (4 : Nat)) (Lib.itoa (2 : Nat)) (Lib.itoa (1 : Nat)) (Lib.itoa 10) (Lib.itoa (0 : Nat)) (Lib.itoa (5 : Nat)) (Lib.itoa (-1)) := rfl
 rw [h, ito1 4 (by decide), ito1 2 (by decide), ito1 1 (by decide), ito1 0 (by decide), ito1 5 (by decide), it10, itm1]
 decide +kernel
theorem kparse : parseS kt = ⟨4, kc, 2, kx, none⟩ := by
 rw [← ktext]
 exact parse_script kchk kok
theorem ent_sls {w0 w : World} {A : Option Addr} {n c n2 : Nat} {B : Option Addr} {xs : List St} {ρ : List Nat} (h : EntV w0 A n c (B, stW xs) ρ w) (hn : n2 = xs.length) : SlS w B n2 xs := by
 obtain ⟨b, hb, _, _, _, _, hs⟩ := h
 simp only at hb
 subst hb
 exact ⟨hn, by simp, fun a ha => by injection ha with ha; subst ha; exact hs⟩
noncomputable def B8 : Code := (Tryz.f8.body).getD .skip
set_option maxHeartbeats 8000000 in
set_option maxRecDepth 100000 in
theorem known_true (w : World) (hw : Wd w) : Calls Tryz.prog 8 #[] w fun e w' => e = .returned (.bool true) ∧ Below w.heap.size w w' := by
 refine enterF (N := w.heap.size) (F := RowE w (fun _ => False) [] w.heap.size 41 10 none 0 0 [] []) (fn := Tryz.f8) (c := B8) [] Tryz.func8 rfl rfl (Nat.le_refl _) ⟨⟨⟨⟨World.ownsRow_nil _ _ _ _, by simp [Value.ownBlock]⟩, Nat.le_refl _⟩, FrameR.start _ [] (by simp), by simp [Value.ownBlock]⟩, by simp⟩ ?_
 refine At.toJ (RowE.stable) RowE.fewer 20 300 [9, 13] 1 ⟨pops B8 [1, 0] 5, [.seq (sub B8 [1, 1])], [(9, .agg [.v (.int .i64 4), .v (.int .i64 2), .v (.int .i64 1), .v (.int .i64 10), .v (.int .i64 0), .v (.int .i64 0), .v (.int .i64 0), .v (.int .i64 0), .v (.int .i64 0), .v (.bool false)]), (13, .ls 0 0 2 2)], [([.v (.int .i64 2), .v (.int .i64 0), .v (.string (ByteArray.mk #[])), .v (.int .i64 0), .v (.int .i64 0), .v (.int .i64 0), .v (.int .i64 1), .v (.int .i64 0), .v (.int .i64 0), .v (.int IntKind.u32 0), .v (.int .i64 1), .v (.int .i64 1), .v (.string (ByteArray.mk #[97])), .v (.int .i64 5), .v (.int .i64 (-1)), .v (.int .i64 0), .v (.int .i64 0), .v (.int .i64 0), .v (.int .i64 0), .v (.int IntKind.u32 0)], 41)]⟩ (by kernel_rfl) (by kernel_rfl) ?_
 refine At.mkrowE (e2 := 41) (size2 := 10) 15 [.agg [.v (.int .i64 4), .v (.int .i64 2), .v (.int .i64 1), .v (.int .i64 10), .v (.int .i64 0), .v (.int .i64 0), .v (.int .i64 0), .v (.int .i64 0), .v (.int .i64 0), .v (.bool false)], .v (.int .i64 2), .ls 0 0 2 2] (fun A' n' c' => .tup [.agg [.v (.int .i64 4), .v (.int .i64 2), .v (.int .i64 1), .v (.int .i64 10), .v (.int .i64 0), .v (.int .i64 0), .v (.int .i64 0), .v (.int .i64 0), .v (.int .i64 0), .v (.bool false), .v (.int .i64 2), .sl A' n' c'], .v (.int .i64 0)]) (stW kx) (by kernel_rfl) (by kernel_rfl) (by kernel_rfl) (by kernel_rfl) (by kernel_rfl) (by simp [stW, St.w, kx, pk]) (fun ρ w1 hm' hf => ?_) ?_
 ·have hS : SlS w1 (some ⟨nth ρ 0, 0, none⟩) 2 kx := ⟨rfl, by simp, fun a ha j u hj => by
   injection ha with ha
   subst ha
   rw [add_ok, cell_of_loc hm' (i := 0) rfl, Nat.zero_add, ← List.getElem?_map]
   exact hj⟩
  refine (put_go 4 2 1 10 0 0 0 0 0 false 2 (some ⟨nth ρ 0, 0, none⟩) 2 2 kx w1 hS (by decide)).mono fun e w2 h => ?_
  unfold putE at h
  rw [if_pos (show (chkP ⟨4, 2, 1, 10, 0, 0, 0, 0, 0, false⟩ 2 kx).2 = 0 from kchk)] at h
  obtain ⟨A', c', h1, h2⟩ := h
  exact ⟨A', 2, c', h1, h2⟩
 intro A1 n1 c1
 refine At.pure fun ⟨hn1, hc1⟩ => ?_
 obtain rfl : n1 = 2 := by
  have h20 : (stW kx).length = 20 := rfl
  omega
 clear hn1 hc1
 refine At.toJ (RowE.stable) RowE.fewer 20 300 [1, 2, 18] 2 ⟨pops B8 [1, 1, 0] 1, [.seq (sub B8 [1, 1, 1])], [(1, .lp 1 0), (2, .v (.int .i64 0)), (18, .agg [.v (.int .i64 4), .v (.int .i64 2), .v (.int .i64 1), .v (.int .i64 10), .v (.int .i64 0), .v (.int .i64 0), .v (.int .i64 0), .v (.int .i64 0), .v (.int .i64 0), .v (.bool false), .v (.int .i64 2), .sl A1 2 c1])], [([.v (.int .i64 2), .v (.int .i64 0), .v (.string (ByteArray.mk #[])), .v (.int .i64 0), .v (.int .i64 0), .v (.int .i64 0), .v (.int .i64 1), .v (.int .i64 0), .v (.int .i64 0), .v (.int IntKind.u32 0), .v (.int .i64 1), .v (.int .i64 1), .v (.string (ByteArray.mk #[97])), .v (.int .i64 5), .v (.int .i64 (-1)), .v (.int .i64 0), .v (.int .i64 0), .v (.int .i64 0), .v (.int .i64 0), .v (.int IntKind.u32 0)], 41), ([.v (.int .i64 4), .v (.int .i64 2), .v (.int .i64 1), .v (.int .i64 10), .v (.int .i64 0), .v (.int .i64 0), .v (.int .i64 0), .v (.int .i64 0), .v (.int .i64 0), .v (.bool false), .v (.int .i64 2), .sl A1 2 c1], 28)]⟩ (by kernel_rfl) (by kernel_rfl) ?_
 refine At.call RowE.stable 12 [.agg [.v (.int .i64 4), .v (.int .i64 2), .v (.int .i64 1), .v (.int .i64 10), .v (.int .i64 0), .v (.int .i64 0), .v (.int .i64 0), .v (.int .i64 0), .v (.int .i64 0), .v (.bool false), .v (.int .i64 2), .sl A1 2 c1]] (.tup [.so (mkB kt), .v (.int .i64 0)]) (by kernel_rfl) (by kernel_rfl) (by kernel_rfl) (fun _ _ w1 hi hf => (text_go 4 2 1 10 0 0 0 0 0 false 2 A1 2 c1 kx w1 (hw.below hi.mem.below) (ent_sls (hf.2 _ (by simp)) rfl) (by decide) kok).mono fun e w2 h => ⟨h.1.trans (by rw [show textP ⟨4, 2, 1, 10, 0, 0, 0, 0, 0, false⟩ 2 kx = (scriptB kc 2 kx, 0) from if_pos kchk, ktext]; rfl), h.2⟩) ?_
 refine At.toJ (RowE.stable) RowE.fewer 20 300 [1, 2, 3, 4, 23] 2 ⟨pops B8 [1, 1, 1, 0] 1, [.seq (sub B8 [1, 1, 1, 1])], [(1, .lp 1 0), (2, .v (.int .i64 0)), (3, .so (mkB kt)), (4, .v (.int .i64 0)), (23, .so (mkB kt))], [([.v (.int .i64 2), .v (.int .i64 0), .v (.string (ByteArray.mk #[])), .v (.int .i64 0), .v (.int .i64 0), .v (.int .i64 0), .v (.int .i64 1), .v (.int .i64 0), .v (.int .i64 0), .v (.int IntKind.u32 0), .v (.int .i64 1), .v (.int .i64 1), .v (.string (ByteArray.mk #[97])), .v (.int .i64 5), .v (.int .i64 (-1)), .v (.int .i64 0), .v (.int .i64 0), .v (.int .i64 0), .v (.int .i64 0), .v (.int IntKind.u32 0)], 41), ([.v (.int .i64 4), .v (.int .i64 2), .v (.int .i64 1), .v (.int .i64 10), .v (.int .i64 0), .v (.int .i64 0), .v (.int .i64 0), .v (.int .i64 0), .v (.int .i64 0), .v (.bool false), .v (.int .i64 2), .sl A1 2 c1], 28)]⟩ (by kernel_rfl) (by kernel_rfl) ?_
 refine At.mkrowE (e2 := 41) (size2 := 10) 9 [.so (mkB kt)] (fun A' n' c' => .tup [.agg [.v (.int .i64 4), .v (.int .i64 2), .v (.int .i64 1), .v (.int .i64 10), .v (.int .i64 0), .v (.int .i64 0), .v (.int .i64 0), .v (.int .i64 0), .v (.int .i64 0), .v (.bool false), .v (.int .i64 2), .sl A' n' c'], .v (.int .i64 4), .v (.int .i64 0)]) (stW kx) (by kernel_rfl) (by kernel_rfl) (by kernel_rfl) (by kernel_rfl) (by kernel_rfl) (by simp [stW, St.w, kx, pk]) (fun ρ w1 hm' hf => ?_) ?_
 ·refine (parse_kit kt (by decide +kernel) w1 (hw.below hm'.below)).mono fun e w2 h => ?_
  rw [kparse] at h
  unfold parseE at h
  rw [if_pos (by decide)] at h
  obtain ⟨A', c', h1, h2⟩ := h
  exact ⟨A', 2, c', h1, h2⟩
 intro A2 n2 c2
 refine At.pure fun ⟨hn2, hc2⟩ => ?_
 obtain rfl : n2 = 2 := by
  have h20 : (stW kx).length = 20 := rfl
  omega
 clear hn2 hc2
 refine At.toJ (RowE.stable) RowE.fewer 20 300 [3, 42, 43, 44] 0 ⟨pops B8 [1, 1, 1, 1, 0] 17, [.seq (sub B8 [1, 1, 1, 1, 1])], [(3, .so (mkB kt)), (42, .v (.bool true)), (43, .agg [.v (.int .i64 4), .v (.int .i64 2), .v (.int .i64 1), .v (.int .i64 10), .v (.int .i64 0), .v (.int .i64 0), .v (.int .i64 0), .v (.int .i64 0), .v (.int .i64 0), .v (.bool false), .v (.int .i64 2), .sl A1 2 c1]), (44, .agg [.v (.int .i64 4), .v (.int .i64 2), .v (.int .i64 1), .v (.int .i64 10), .v (.int .i64 0), .v (.int .i64 0), .v (.int .i64 0), .v (.int .i64 0), .v (.int .i64 0), .v (.bool false), .v (.int .i64 2), .sl A2 2 c2])], []⟩ (by kernel_rfl) (by kernel_rfl) ?_
 refine At.call RowE.stable 11 [.agg [.v (.int .i64 4), .v (.int .i64 2), .v (.int .i64 1), .v (.int .i64 10), .v (.int .i64 0), .v (.int .i64 0), .v (.int .i64 0), .v (.int .i64 0), .v (.int .i64 0), .v (.bool false), .v (.int .i64 2), .sl A1 2 c1], .agg [.v (.int .i64 4), .v (.int .i64 2), .v (.int .i64 1), .v (.int .i64 10), .v (.int .i64 0), .v (.int .i64 0), .v (.int .i64 0), .v (.int .i64 0), .v (.int .i64 0), .v (.bool false), .v (.int .i64 2), .sl A2 2 c2]] (.v (.bool true)) (by kernel_rfl) (by kernel_rfl) (by kernel_rfl) (fun _ _ w1 hi hf => (same_go 4 2 1 10 0 0 0 0 0 false 2 A1 2 c1 kx 4 2 1 10 0 0 0 0 0 false 2 A2 2 c2 kx w1 (ent_sls (hf.2 (A1, stW kx) (by simp)) rfl) (ent_sls (hf.2 (A2, stW kx) (by simp)) rfl) (by decide) (by decide)).mono fun e w2 h => ⟨h.1.trans (by rw [decide_eq_true ⟨rfl, rfl, rfl⟩]; rfl), h.2⟩) ?_
 refine At.toJ (RowE.stable) RowE.fewer 20 300 [3, 52] 0 ⟨pops B8 [1, 1, 1, 1, 0] 25, [.seq (sub B8 [1, 1, 1, 1, 1])], [(3, .so (mkB kt)), (52, .bo true)], []⟩ (by kernel_rfl) (by kernel_rfl) ?_
 refine At.res 52 (true) true (by kernel_rfl) (by first | assumption | (simp only [*]; done) | (simp [*]; done)) ?_
 refine At.toJ (RowE.stable) RowE.fewer 20 300 [52, 53, 56] 0 ⟨pops B8 [1, 1, 1, 1, 0] 29, [.seq (sub B8 [1, 1, 1, 1, 1])], [(52, .v (.bool true)), (53, .so (mkB kt)), (56, .io .i64 104)], []⟩ (by kernel_rfl) (by kernel_rfl) ?_
 refine sslW kt 104 [112, 105, 99, 107, 32, 49, 10, 101, 118, 101, 110, 116, 32, 34, 97, 34, 32, 53, 32, 45, 49, 10] (by decide +kernel) (by kernel_rfl) (by decide) RowE.stable ?_
 refine At.toJ (RowE.stable) RowE.fewer 20 300 [0] 0 ⟨.exit .ret, [], [(0, .bo true)], []⟩ (by kernel_rfl) (by kernel_rfl) ?_
 refine At.ret (by kernel_rfl) (.bo true) (by kernel_rfl) ?_
 intro ρ w9 hm' hf
 exact ⟨rfl, hm'.below⟩
end Go.Proofs.YthfpekhpeiebjaaGreatDoor
end
section
namespace Go.Proofs.YthfpekhpeiebjaaGreatDoor
open Go.RowKit Go.Sx
noncomputable def B14 : Code := (Tryz.f14.body).getD .skip
/-- Where the lines of a text end. -/
def endsOf : List UInt8 → Nat → List Nat
 | [], _ => []
 | c :: r, i => if c = 10 then (i + 1) :: endsOf r (i + 1) else endsOf r (i + 1)
def ints (l : List Nat) : List Value := l.map fun (i : Nat) => Value.int .i64 (i : Int)
theorem ints_app (l : List Nat) (i : Nat) : ints (l ++ [i]) = ints l ++ [Value.int .i64 (i : Int)] := by simp [ints]
structure LSt where
 A : Option Addr
 n : Nat
 c : Nat
 acc : List Nat
 i : Nat
def frE (t : List UInt8) : LSt → Fr
 | ⟨A, n, c, _, i⟩ => [(0, .so (mkB t)), (3, .sl A n c), (4, .io .i64 (i : Int))]
def locE (_ : LSt) : Sx.Loc := []
def GE (w0 : World) (t : List UInt8) (R : List Nat) (x : LSt) (ρ : List Nat) (w : World) : Prop :=
 RowF w0 (fun _ => False) [] w0.heap.size 3 1 x.A x.n x.c (ints x.acc) ρ w ∧ (x.acc ++ endsOf (t.drop x.i) x.i = R ∧ x.i ≤ t.length ∧ x.n = x.acc.length ∧ x.acc.length ≤ x.i)
set_option maxHeartbeats 8000000 in
set_option maxRecDepth 100000 in
theorem ends_any (t : List UInt8) (ht : t.length ≤ 1048576) (w : World) :
  Calls Tryz.prog 14 #[.string (mkB t)] w fun e w' => ∃ A' c', e = .returned (.slice A' (endsOf t 0).length c') ∧ RowF w (fun _ => False) [] w.heap.size 3 1 A' (endsOf t 0).length c' (ints (endsOf t 0)) [] w' := by
 refine enterF (N := w.heap.size) (F := RowF w (fun _ => False) [] w.heap.size 3 1 none 0 0 []) (fn := Tryz.f14) (c := B14) [.so (mkB t)] Tryz.func14 rfl rfl (Nat.le_refl _) ⟨⟨⟨World.ownsRow_nil _ _ _ _, by simp [Value.ownBlock]⟩, Nat.le_refl _⟩, FrameR.start _ [] (by simp), by simp [Value.ownBlock]⟩ ?_
 refine At.toJ (RowF.stable) RowF.fewer 0 300 [0, 3, 4] 0 ⟨.code (sub B14 [1, 1, 0, 1, 4]), [.block 0, .seq (sub B14 [1, 1, 1])], [(0, .so (mkB t)), (3, .v (.slice none 0 0)), (4, .v (.int .i64 0))], []⟩ (by kernel_rfl) (by kernel_rfl) ?_
 generalize hR : endsOf t 0 = R
 refine At.canonT [4] _ rfl ?_
 refine At.slFr _ rfl ?_
 refine At.loop (σ := LSt) (sub B14 [1, 1, 0, 1, 4, 4]) (frE t) locE (GE w t R) (fun x => t.length - x.i) ⟨none, 0, 0, [], 0⟩ (by kernel_rfl) (by unfold subFr; kernel_rfl) (by kernel_rfl) (fun _ _ _ _ h => ⟨h, hR, Nat.zero_le _, rfl, Nat.le_refl _⟩) ?_
 clear hR
 rintro ⟨A, n, c, acc, i⟩
 refine At.pure fun ⟨h1, h2, h3, h4⟩ => ?_
 simp only at h1 h2 h3 h4
 refine At.toJ (RowF.stable) RowF.fewer 0 300 [0, 3, 4, 8] 0 ⟨.code (sub B14 [1, 1, 0, 1, 4, 4, 0, 1]), [.seq (sub B14 [1, 1, 0, 1, 4, 4, 1]), .next (Sx.Next w.heap.size w Tryz.f14.ntmps (frE t) locE (GE w t R) (fun x => t.length - x.i) (LSt.mk A n c acc i)), .block 0, .seq (sub B14 [1, 1, 1])], [(0, .so (mkB t)), (3, .sl A n c), (4, .io .i64 (↑i : Int)), (8, .bo (decide ((↑i : Int) < (↑(mkB t).size : Int))))], []⟩ (by kernel_rfl) (by kernel_rfl) ?_
 rcases Bool.eq_false_or_eq_true (decide ((↑i : Int) < (↑(mkB t).size : Int))) with b0 | b0
 ·refine At.res 8 (decide ((↑i : Int) < (↑(mkB t).size : Int))) true (by kernel_rfl) b0 ?_
  refine At.toJ (RowF.stable) RowF.fewer 0 300 [0, 3, 4, 11, 12] 0 ⟨pops B14 [1, 1, 0, 1, 4, 4, 1, 0, 4, 0] 2, [.seq (sub B14 [1, 1, 0, 1, 4, 4, 1, 0, 4, 1]), .block 1, .seq (sub B14 [1, 1, 0, 1, 4, 4, 1, 1]), .next (Sx.Next w.heap.size w Tryz.f14.ntmps (frE t) locE (GE w t R) (fun x => t.length - x.i) (LSt.mk A n c acc i)), .block 0, .seq (sub B14 [1, 1, 1])], [(0, .so (mkB t)), (3, .sl A n c), (4, .io .i64 (↑i : Int)), (11, .so (mkB t)), (12, .io .i64 (↑i : Int))], []⟩ (by kernel_rfl) (by kernel_rfl) ?_
  have hi : i < t.length := by have := of_decide_eq_true b0; rw [mkB_size] at this; omega
  clear b0
  obtain ⟨y, hz⟩ : ∃ y, t[i]? = some y := ⟨_, List.getElem?_eq_getElem hi⟩
  have hy := y.toNat_lt
  rw [drop_at hz] at h1
  refine At.six (mkB t) (i : Int) y (by kernel_rfl) (by omega) (by rw [Int.toNat_natCast]; exact hz) RowF.stable ?_
  refine At.toJ (RowF.stable) RowF.fewer 0 300 [0, 3, 4, 14] 0 ⟨.code (sub B14 [1, 1, 0, 1, 4, 4, 1, 0, 4, 1]), [.block 1, .seq (sub B14 [1, 1, 0, 1, 4, 4, 1, 1]), .next (Sx.Next w.heap.size w Tryz.f14.ntmps (frE t) locE (GE w t R) (fun x => t.length - x.i) (LSt.mk A n c acc i)), .block 0, .seq (sub B14 [1, 1, 1])], [(0, .so (mkB t)), (3, .sl A n c), (4, .io .i64 (↑i : Int)), (14, .bo ((↑y.toNat : Int) == 10))], []⟩ (by kernel_rfl) (by kernel_rfl) ?_
  rcases Bool.eq_false_or_eq_true ((↑y.toNat : Int) == 10) with b0 | b0
  ·refine At.res 14 ((↑y.toNat : Int) == 10) true (by kernel_rfl) b0 ?_
   refine At.toJ (RowF.stable) RowF.fewer 0 300 [0, 4, 15, 18] 1 ⟨pops B14 [1, 1, 0, 1, 4, 4, 1, 0, 4, 1, 2] 4, [.block 1, .seq (sub B14 [1, 1, 0, 1, 4, 4, 1, 1]), .next (Sx.Next w.heap.size w Tryz.f14.ntmps (frE t) locE (GE w t R) (fun x => t.length - x.i) (LSt.mk A n c acc i)), .block 0, .seq (sub B14 [1, 1, 1])], [(0, .so (mkB t)), (4, .io .i64 (↑i : Int)), (15, .sl A n c), (18, .ls 0 0 1 1)], [([.io .i64 (IntKind.i64.wrap ((↑i : Int) + 1))], 3)]⟩ (by kernel_rfl) (by kernel_rfl) ?_
   refine At.app (47) (3) (1) (8) (A) (n) (c) (1) ([.io .i64 (IntKind.i64.wrap ((↑i : Int) + 1))]) _ _ _ _ ([.int .i64 (IntKind.i64.wrap ((↑i : Int) + 1))]) (by kernel_rfl) (fun ρ => by kernel_rfl) (by first | omega | (simp only [Go.maxLen]; omega)) (by first | omega | (simp only [Go.maxLen]; omega)) (by first | omega | (simp only [Go.maxLen]; omega)) fun A1 c1 => ?_
   refine At.toJ (RowF.stable) RowF.fewer 0 300 [0, 3, 4] 0 ⟨.exit .normal, [.next (Sx.Next w.heap.size w Tryz.f14.ntmps (frE t) locE (GE w t R) (fun x => t.length - x.i) (LSt.mk A n c acc i)), .block 0, .seq (sub B14 [1, 1, 1])], [(0, .so (mkB t)), (3, .sl A1 (n + 1) c1), (4, .io .i64 (IntKind.i64.wrap ((↑i : Int) + 1)))], []⟩ (by kernel_rfl) (by kernel_rfl) ?_
   have e10 : y = 10 := UInt8.toNat_inj.1 (by simp at b0; show y.toNat = 10; omega)
   simp only [endsOf, if_pos e10] at h1
   have hw3 : IntKind.i64.wrap ((i : Int) + 1) = ((i + 1 : Nat) : Int) := by
    rw [wrap63 (by omega) (by omega)]
    omega
   rw [hw3]
   refine At.next (σ := LSt) ⟨A1, n + 1, c1, acc ++ [i + 1], i + 1⟩ rfl rfl (by unfold subFr; kernel_rfl) (by kernel_rfl) ?_ ?_
   ·intro ρ a' w' hi' hf
    exact ⟨by rw [ints_app]; exact hf, by rw [← h1, List.append_assoc]; rfl, (show i + 1 ≤ t.length by omega), by simp only [List.length_append, List.length_singleton]; omega, by simp only [List.length_append, List.length_singleton]; omega⟩
   ·show t.length - (i + 1) < t.length - i
    omega
  ·refine At.res 14 ((↑y.toNat : Int) == 10) false (by kernel_rfl) b0 ?_
   refine At.toJ (RowF.stable) RowF.fewer 0 300 [0, 3, 4] 0 ⟨.exit .normal, [.next (Sx.Next w.heap.size w Tryz.f14.ntmps (frE t) locE (GE w t R) (fun x => t.length - x.i) (LSt.mk A n c acc i)), .block 0, .seq (sub B14 [1, 1, 1])], [(0, .so (mkB t)), (3, .sl A n c), (4, .io .i64 (IntKind.i64.wrap ((↑i : Int) + 1)))], []⟩ (by kernel_rfl) (by kernel_rfl) ?_
   have n10 : y ≠ 10 := fun e => by subst e; exact absurd b0 (by decide)
   simp only [endsOf, if_neg n10] at h1
   have hw3 : IntKind.i64.wrap ((i : Int) + 1) = ((i + 1 : Nat) : Int) := by
    rw [wrap63 (by omega) (by omega)]
    omega
   rw [hw3]
   refine At.next (σ := LSt) ⟨A, n, c, acc, i + 1⟩ rfl rfl (by unfold subFr; kernel_rfl) (by kernel_rfl) ?_ ?_
   ·intro ρ a' w' hi' hf
    exact ⟨hf, h1, (show i + 1 ≤ t.length by omega), h3, (show acc.length ≤ i + 1 by omega)⟩
   ·show t.length - (i + 1) < t.length - i
    omega
 ·refine At.res 8 (decide ((↑i : Int) < (↑(mkB t).size : Int))) false (by kernel_rfl) b0 ?_
  refine At.toJ (RowF.stable) RowF.fewer 0 300 [2] 0 ⟨.exit .ret, [], [(2, .sl A n c)], []⟩ (by kernel_rfl) (by kernel_rfl) ?_
  refine At.ret (by kernel_rfl) (.sl A n c) (by kernel_rfl) ?_
  have hi : ¬ (i : Int) < ((mkB t).size : Int) := of_decide_eq_false b0
  rw [mkB_size] at hi
  rw [List.drop_eq_nil_of_le (by omega)] at h1
  simp only [endsOf, List.append_nil] at h1
  subst h1
  intro ρ w9 hm' hf
  rw [← h3]
  exact ⟨A, c, rfl, RowF.fewer _ _ 0 (Nat.zero_le _) hf⟩
end Go.Proofs.YthfpekhpeiebjaaGreatDoor
end
section
/- Plain: a script's text cut off behind a line, and within one. -/
namespace Go.Proofs.YthfpekhpeiebjaaGreatDoor
open Go.RowKit Go.Sx Go.Lib
/-- The lines of a script. -/
def lns (c : Cf) (wk : Int) (xs : List St) : List (List UInt8) := (jobT ++ c.text) :: (worT ++ Lib.itoa wk) :: xs.map lineS
def glue (L : List (List UInt8)) : List UInt8 := L.flatMap fun l => l ++ [10]
theorem glue_cons (l : List UInt8) (L : List (List UInt8)) : glue (l :: L) = l ++ 10 :: glue L := by simp [glue]
theorem glue_app (L M : List (List UInt8)) : glue (L ++ M) = glue L ++ glue M := by simp [glue]
theorem script_glue (c : Cf) (wk : Int) (xs : List St) : scriptB c wk xs = glue (lns c wk xs) := by
 simp [scriptB, glue, lns, jobT, worT, List.flatMap_map]
theorem ends_line : ∀ (l r : List UInt8) (i : Nat), (∀ b ∈ l, b ≠ 10) → endsOf (l ++ 10 :: r) i = (i + l.length + 1) :: endsOf r (i + l.length + 1)
 | [], r, i, _ => rfl
 | c :: l, r, i, h => by
  have hc : c ≠ 10 := h c (by simp)
  have ih := ends_line l r (i + 1) (fun b hb => h b (by simp [hb]))
  rw [List.cons_append, endsOf, if_neg hc, ih, List.length_cons, show i + 1 + l.length + 1 = i + (l.length + 1) + 1 from by omega]
theorem ends_glue : ∀ (L : List (List UInt8)) (i : Nat), (∀ l ∈ L, ∀ b ∈ l, b ≠ 10) → (endsOf (glue L) i).length = L.length ∧ ∀ k, k < L.length → (endsOf (glue L) i)[k]? = some (i + (glue (L.take (k + 1))).length)
 | [], i, _ => ⟨rfl, fun k hk => absurd hk (Nat.not_lt_zero k)⟩
 | l :: L, i, h => by
  obtain ⟨h1, h2⟩ := ends_glue L (i + l.length + 1) (fun m hm => h m (by simp [hm]))
  rw [glue_cons, ends_line l _ i (h l (by simp))]
  refine ⟨by simp [h1], fun k hk => ?_⟩
  cases k with
  | zero =>
   simp [glue]
   omega
  | succ k =>
   rw [List.getElem?_cons_succ, h2 k (by simpa using hk), List.take_succ_cons, glue_cons]
   simp only [List.length_append, List.length_cons]
   congr 1
   omega
theorem take_glue (L : List (List UInt8)) (k : Nat) : (glue L).take (glue (L.take k)).length = glue (L.take k) := by
 conv => lhs; arg 2; rw [← List.take_append_drop k L]
 rw [glue_app, List.take_left]
theorem take_glue1 (L : List (List UInt8)) (k : Nat) (l : List UInt8) (hl : L[k]? = some l) : (glue L).take ((glue (L.take (k + 1))).length - 1) = glue (L.take k) ++ l := by
 have e : glue (L.take (k + 1)) = (glue (L.take k) ++ l) ++ [10] := by
  rw [List.take_add_one, hl, glue_app]
  simp [glue]
 have h := take_glue L (k + 1)
 rw [e] at h ⊢
 rw [List.length_append, List.length_singleton, Nat.add_sub_cancel]
 have h2 := congrArg (List.take (glue (L.take k) ++ l).length) h
 rw [List.take_take, Nat.min_eq_left (by simp), List.take_left] at h2
 exact h2
theorem lns_no10 {c : Cf} {wk : Int} {xs : List St} (hwr : c.wr = 0) : ∀ l ∈ lns c wk xs, ∀ b ∈ l, b ≠ 10 := by
 have ht : ∀ b ∈ c.text, b ≠ 10 := by
  obtain ⟨g, s, k, sz, sl, of, gp, lt, ea, d⟩ := c
  exact textW_no10 hwr d
 have app : ∀ {l r : List UInt8}, (∀ b ∈ l, b ≠ 10) → (∀ b ∈ r, b ≠ 10) → ∀ b ∈ l ++ r, b ≠ 10 := fun h1 h2 b hb => (List.mem_append.1 hb).elim (h1 b) (h2 b)
 intro l hl
 simp only [lns, List.mem_cons, List.mem_map] at hl
 rcases hl with rfl | rfl | ⟨x, _, rfl⟩
 ·exact app (by decide) ht
 ·exact app (by decide) (itoa_no wk 10 (by decide))
 ·exact lineS_no10 x
theorem lns_len (c : Cf) (wk : Int) (xs : List St) : (lns c wk xs).length = xs.length + 2 := by simp [lns]
theorem lineS_ne (x : St) : lineS x ≠ [] := by
 obtain ⟨kd, ik, key, ti, v, src, wk, wks, bit, mask⟩ := x
 unfold lineS
 dsimp only
 split
 ·split
  ·simp
  ·split <;> simp
 ·split
  ·simp
  ·split
   ·simp
   ·split <;> simp
theorem lns_ne (c : Cf) (wk : Int) (xs : List St) : ∀ l ∈ lns c wk xs, l ≠ [] := by
 intro l hl
 simp only [lns, List.mem_cons, List.mem_map] at hl
 rcases hl with rfl | rfl | ⟨x, _, rfl⟩
 ·simp [jobT]
 ·simp [worT]
 ·exact lineS_ne x
theorem cutsP_last {l : List UInt8} (h : ∀ b ∈ l, b ≠ 10) (hne : l ≠ []) : cutsP l = [(l, false)] := by
 cases l with
 | nil => exact absurd rfl hne
 | cons y l => rw [cutsP_cons (cutN_none _ h), cutsP_nil]
theorem run_job {c : Cf} (hwr : c.wr = 0) (rest : List UInt8) : runL (cutsP ((jobT ++ c.text) ++ 10 :: rest)) 0 cf0 0 [] = runL (cutsP rest) 1 c 0 [] := by
 have ht := lns_no10 (c := c) (wk := 0) (xs := []) hwr (jobT ++ c.text) (by simp [lns])
 rw [cutsP_line ht, runL_cons, step0_ok (pref_app _ _) (by rw [trim_app]; exact (cfgP_iff _ _).2 ⟨hwr, rfl⟩)]
/-- Cut off behind a line. -/
theorem parse_pre {c : Cf} {wk : Int} {xs : List St} (h : (chkP c wk xs).2 = 0) (ho : ∀ x ∈ xs, x.ok) (k : Nat) (hk : k < xs.length + 2) :
  parseS (glue ((lns c wk xs).take (k + 1))) = if k = 0 then ⟨1, c, 0, [], none⟩ else ⟨k + 1, c, wk, xs.take (k - 1), none⟩ := by
 obtain ⟨hwr, h1, h2, hm⟩ := chk_ok h
 match k, hk with
 | 0, _ =>
  rw [if_pos rfl]
  unfold parseS lns
  rw [List.take_succ_cons, List.take_zero, glue_cons, run_job hwr]
  rfl
 | k + 1, hk =>
  rw [if_neg (by omega)]
  have e : glue ((lns c wk xs).take (k + 1 + 1)) = scriptB c wk (xs.take k) := by
   rw [script_glue]
   unfold lns
   rw [List.take_succ_cons, List.take_succ_cons, List.map_take]
  rw [e]
  unfold parseS scriptB
  rw [run_head hwr h1 h2]
  have := run_lines (c := c) (wk := wk) (xs.take k) [] 0 [] (fun x hx => ⟨hm x (List.mem_of_mem_take hx), ho x (List.mem_of_mem_take hx)⟩)
  rw [List.append_nil] at this
  rw [this, cutsP_nil, List.nil_append, List.length_take, Nat.min_eq_left (by omega)]
  simp only [runL, Nat.add_sub_cancel, Nat.zero_add]
  congr 1
  omega
/-- Cut off within a line. -/
theorem parse_cut {c : Cf} {wk : Int} {xs : List St} (h : (chkP c wk xs).2 = 0) (ho : ∀ x ∈ xs, x.ok) (k : Nat) (l : List UInt8) (hl : (lns c wk xs)[k]? = some l) :
  (parseS (glue ((lns c wk xs).take k) ++ l)).n = k ∧ (parseS (glue ((lns c wk xs).take k) ++ l)).ok = false := by
 obtain ⟨hwr, h1, h2, hm⟩ := chk_ok h
 have hmem := List.mem_of_getElem? hl
 have hc := cutsP_last (lns_no10 hwr l hmem) (lns_ne c wk xs l hmem)
 match k, hl with
 | 0, hl =>
  unfold parseS
  rw [List.take_zero, show glue [] = [] from rfl, List.nil_append, hc]
  exact ⟨rfl, rfl⟩
 | 1, hl =>
  unfold parseS
  rw [show glue ((lns c wk xs).take 1) ++ l = (jobT ++ c.text) ++ 10 :: l from by simp [lns, glue], run_job hwr, hc]
  exact ⟨rfl, rfl⟩
 | k + 2, hl =>
  have hk : k < xs.length := by
   have := (List.getElem?_eq_some_iff.1 hl).1
   rw [lns_len] at this
   omega
  have e : glue ((lns c wk xs).take (k + 2)) ++ l = [106, 111, 98, 32] ++ c.text ++ [10, 119, 111, 114, 107, 101, 114, 115, 32] ++ Lib.itoa wk ++ [10] ++ (((xs.take k).flatMap fun x => lineS x ++ [10]) ++ l) := by
   simp [lns, glue, jobT, worT, ← List.map_take, List.flatMap_map]
  rw [e]
  unfold parseS
  rw [run_head hwr h1 h2, run_lines (c := c) (wk := wk) (xs.take k) [] 0 l (fun x hx => ⟨hm x (List.mem_of_mem_take hx), ho x (List.mem_of_mem_take hx)⟩), hc, List.length_take, Nat.min_eq_left (by omega)]
  simp only [runL]
  refine ⟨?_, ?_⟩
  ·simp [stepR]
   omega
  ·simp [stepR, FO.ok]
end Go.Proofs.YthfpekhpeiebjaaGreatDoor
end
section
namespace Go.Proofs.YthfpekhpeiebjaaGreatDoor
open Go.RowKit Go.Sx
/-- A finished row, empty or not. -/
def SrcF (A : Option Addr) (ys : List Value) (ρ : List Nat) (w : World) : Prop := (A = none → ys = []) ∧ ∀ a, A = some a → Src w a ys ∧ a.block < w.heap.size ∧ a.block ∉ ρ
theorem SrcF.stable {A : Option Addr} {ys : List Value} : Stable (SrcF A ys) := fun ρ w ρ' w' hg hk ⟨h1, h2⟩ => ⟨h1, fun a ha => by
 obtain ⟨h3, h4, h5⟩ := h2 a ha
 refine ⟨fun j u hj => ?_, Nat.lt_of_lt_of_le h4 hk.size, fun hm => ?_⟩
 ·have := h3 j u hj
  have hb : (a.add j).block = a.block := by unfold Addr.add; split <;> rfl
  simp only [World.cell?, hb] at this ⊢
  rw [hk.block _ h4 h5]
  exact this
 ·rcases hg.of_mem hm with h | h
  ·exact h5 h
  ·omega⟩
theorem SrcF.fewer {A : Option Addr} {ys : List Value} : FewerK 0 (SrcF A ys) := fun ρ w k _ ⟨h1, h2⟩ => ⟨h1, fun a ha => ⟨(h2 a ha).1, (h2 a ha).2.1, fun hm => (h2 a ha).2.2 (List.mem_of_mem_take hm)⟩⟩
theorem SrcF.some {A : Option Addr} {ys : List Value} {ρ : List Nat} {w : World} (h : SrcF A ys ρ w) (hy : ys ≠ []) : ∃ a, A = some a := by
 cases A with
 | none => exact absurd (h.1 rfl) hy
 | some a => exact ⟨a, rfl⟩
def FB (A : Option Addr) (ys : List Value) (B : Option Addr) (zs : List Value) (ρ : List Nat) (w : World) : Prop := SrcF A ys ρ w ∧ SrcF B zs ρ w
theorem FB.stable {A B : Option Addr} {ys zs : List Value} : Stable (FB A ys B zs) := SrcF.stable.and SrcF.stable
theorem FB.fewer {A B : Option Addr} {ys zs : List Value} : FewerK 0 (FB A ys B zs) := fun ρ w k hk ⟨h1, h2⟩ => ⟨SrcF.fewer ρ w k hk h1, SrcF.fewer ρ w k hk h2⟩
theorem srcF_row {w w' : World} {e size : Nat} {A : Option Addr} {n c : Nat} {ys : List Value} (h : RowF w (fun _ => False) [] w.heap.size e size A n c ys [] w') {ρ : List Nat} (hρ : ∀ b ∈ ρ, b < w.heap.size) : SrcF A ys ρ w' := by
 have hrow := h.1.1
 have hlen := hrow.len
 refine ⟨fun ha => ?_, fun a ha => ?_⟩
 ·subst ha
  rcases hrow.1.2 with ⟨h2, h3⟩ | ⟨g, cap, cur, hv, _⟩
  ·injection h2 with _ h4 _
   exact List.eq_nil_of_length_eq_zero (by rw [hlen, h4, Nat.zero_mul])
  ·cases hv
 ·subst ha
  rcases hrow.1.2 with ⟨h2, h3⟩ | ⟨g, cap, cur, hv, _⟩
  ·cases h2
  ·injection hv with hA _ _
   injection hA with hA
   subst hA
   have hg := hrow.1.lt g rfl
   refine ⟨fun j u hj => ?_, hg.2, fun hm => ?_⟩
   ·have hj' := (List.getElem?_eq_some_iff.1 hj).1
    obtain ⟨g', hg', hc⟩ := hrow.cell (j := j) (by omega)
    injection hg' with hg'
    injection hg' with hg' _ _
    subst hg'
    rw [add_ok, Nat.zero_add, hc, hj]
   ·have := hρ g hm
    have := hg.1
    omega
theorem srcF_sls {A : Option Addr} {xs : List St} {ρ : List Nat} {w : World} {n : Nat} (h : SrcF A (stW xs) ρ w) (hn : n = xs.length) : SlS w A n xs := by
 refine ⟨hn, fun ha => ?_, fun a ha => (h.2 a ha).1⟩
 have := congrArg List.length (h.1 ha)
 rw [stW_len] at this
 exact List.eq_nil_of_length_eq_zero (by simp at this; omega)
theorem badI_lt {c : Cf} : ∀ (xs : List St) (i j : Nat), badI c xs i = some j → i ≤ j ∧ j < i + xs.length
 | [], i, j, h => by simp [badI] at h
 | x :: xs, i, j, h => by
  simp only [badI] at h
  split at h
  ·have := badI_lt xs (i + 1) j h
   simp only [List.length_cons]
   omega
  ·injection h with h
   simp only [List.length_cons]
   omega
theorem chk_bound (c : Cf) (wk : Int) (xs : List St) : 0 ≤ (chkP c wk xs).1 ∧ (chkP c wk xs).1 ≤ 1 + (xs.length : Int) ∧ ((chkP c wk xs).2 = 0 ∨ (chkP c wk xs).2 = 2) := by
 unfold chkP
 split
 ·exact ⟨by simp, by simp; omega, .inr rfl⟩
 ·split
  ·exact ⟨by simp, by simp; omega, .inr rfl⟩
  ·cases h : badI c xs 0 with
   | none => exact ⟨by simp [chkE], by simp [chkE]; omega, .inl rfl⟩
   | some i =>
    have := badI_lt xs 0 i h
    exact ⟨by simp [chkE]; omega, by simp [chkE]; omega, .inr rfl⟩
theorem cut_j (cut : Int) (L : Nat) (h1 : 1 ≤ L) (h2 : L ≤ 1300) : ∃ k : Nat, k < L ∧ (IntKind.i64.wrap (cut.tmod (L : Int) + (L : Int))).tmod (L : Int) = (k : Int) := by
 have hL : (0 : Int) < L := by omega
 have h3 : -(L : Int) < cut.tmod L ∧ cut.tmod L < L := ⟨by have := Int.lt_tmod_of_pos cut hL; omega, Int.tmod_lt_of_pos cut hL⟩
 have e2 : IntKind.i64.wrap (cut.tmod (L : Int) + (L : Int)) = cut.tmod (L : Int) + (L : Int) := wrap_id ⟨by omega, by omega⟩
 rw [e2]
 have h4 : 0 ≤ (cut.tmod (L : Int) + (L : Int)).tmod (L : Int) := Int.tmod_nonneg _ (by omega)
 have h5 := Int.tmod_lt_of_pos (cut.tmod (L : Int) + (L : Int)) hL
 exact ⟨((cut.tmod (L : Int) + (L : Int)).tmod (L : Int)).toNat, by omega, by omega⟩
theorem back_facts {c : Cf} {wk : Int} {xs : List St} (h : (chkP c wk xs).2 = 0) (ho : ∀ x ∈ xs, x.ok) (hn : xs.length ≤ 300) :
  (scriptB c wk xs).length ≤ 1048576 ∧ parseS (scriptB c wk xs) = ⟨xs.length + 2, c, wk, xs, none⟩ ∧ (endsOf (scriptB c wk xs) 0).length = xs.length + 2 ∧
   ∀ j, j < xs.length + 2 → ∃ e, (endsOf (scriptB c wk xs) 0)[j]? = some e ∧ 1 ≤ e ∧ e ≤ (scriptB c wk xs).length ∧
    parseS ((scriptB c wk xs).take e) = (if j = 0 then ⟨1, c, 0, [], none⟩ else ⟨j + 1, c, wk, xs.take (j - 1), none⟩) ∧ (parseS ((scriptB c wk xs).take (e - 1))).n = j ∧ (parseS ((scriptB c wk xs).take (e - 1))).ok = false := by
 obtain ⟨hwr, h1, h2, hm⟩ := chk_ok h
 have hg : c.g ≤ 32768 ∧ c.text.length ≤ 1000 := by
  obtain ⟨g, s, k, sz, sl, of, gp, lt, ea, d⟩ := c
  exact ⟨(valid_of hwr).1.2, textW_short hwr d⟩
 have hi := itoa_short (n := wk) ⟨by omega, by omega⟩
 have hl := script_len (c := c) (wk := wk) (xs := xs) hg.2 hi (fun x hx => lineS_short (mayB_key (hm x hx)) (ho x hx))
 have hno := lns_no10 (c := c) (wk := wk) (xs := xs) hwr
 obtain ⟨e1, e2⟩ := ends_glue (lns c wk xs) 0 hno
 refine ⟨by omega, parse_script h ho, by rw [script_glue, e1, lns_len], fun j hj => ?_⟩
 have hj' : j < (lns c wk xs).length := by rw [lns_len]; exact hj
 obtain ⟨l, hlj⟩ : ∃ l, (lns c wk xs)[j]? = some l := ⟨_, List.getElem?_eq_getElem hj'⟩
 have h3 := e2 j hj'
 rw [Nat.zero_add] at h3
 refine ⟨_, by rw [script_glue]; exact h3, ?_, ?_, ?_, ?_, ?_⟩
 ·rw [List.take_add_one, hlj, glue_app]
  simp [glue]
  omega
 ·rw [script_glue]
  have := congrArg List.length (take_glue (lns c wk xs) (j + 1))
  rw [List.length_take] at this
  omega
 ·rw [script_glue, take_glue]
  exact parse_pre h ho j hj
 ·rw [script_glue, take_glue1 _ j l hlj]
  exact (parse_cut h ho j l hlj).1
 ·rw [script_glue, take_glue1 _ j l hlj]
  exact (parse_cut h ho j l hlj).2
noncomputable def B4 : Code := (Tryz.f4.body).getD .skip
set_option maxHeartbeats 20000000 in
set_option maxRecDepth 100000 in
theorem back_true (g s k sz sl of gp lt ea : Int) (d : Bool) (wk cut : Int) (A : Option Addr) (n cap : Nat) (xs : List St) (w : World) (hw : Wd w) (hS : SlS w A n xs) (hok : ∀ x ∈ xs, x.ok) :
  Calls Tryz.prog 4 #[.agg #[.int .i64 g, .int .i64 s, .int .i64 k, .int .i64 sz, .int .i64 sl, .int .i64 of, .int .i64 gp, .int .i64 lt, .int .i64 ea, .bool d, .int .i64 wk, .slice A n cap], .int .i64 cut] w fun e w' => e = .returned (.bool true) ∧ Below w.heap.size w w' := by
 have hlx := hS.1
 refine enter (fn := Tryz.f4) (c := B4) [.agg [.io .i64 g, .io .i64 s, .io .i64 k, .io .i64 sz, .io .i64 sl, .io .i64 of, .io .i64 gp, .io .i64 lt, .io .i64 ea, .bo d, .io .i64 wk, .sl A n cap], .io .i64 cut] Tryz.func4 rfl rfl ?_
 refine At.to (noF_stable) (noF_fewer) 0 300 [1, 2, 23] 1 ⟨.code (sub B4 [1, 0, 1]), [.seq (sub B4 [1, 1])], [(1, .io .i64 cut), (2, .lp 0 0), (23, .bo (decide ((↑n : Int) > 200)))], [([.io .i64 g, .io .i64 s, .io .i64 k, .io .i64 sz, .io .i64 sl, .io .i64 of, .io .i64 gp, .io .i64 lt, .io .i64 ea, .bo d, .io .i64 wk, .sl A n cap], 28)]⟩ (by kernel_rfl) (by kernel_rfl) ?_
 rcases Bool.eq_false_or_eq_true (decide ((↑n : Int) > 200)) with b0 | b0
 ·refine At.res 23 (decide ((↑n : Int) > 200)) true (by kernel_rfl) b0 ?_
  refine At.to (noF_stable) (noF_fewer) 0 300 [] 0 ⟨pops B4 [1, 0, 1, 2, 0] 0, [.seq (sub B4 [1, 0, 1, 2, 1]), .seq (sub B4 [1, 1])], [], []⟩ (by kernel_rfl) (by kernel_rfl) ?_
  refine At.call noF_stable 8 [] (.v (.bool true)) (by kernel_rfl) (by kernel_rfl) (by kernel_rfl) (fun _ _ w1 hi _ => known_true w1 (hw.below hi.mem.below)) ?_
  refine At.to (noF_stable) (noF_fewer) 0 300 [4] 0 ⟨.exit .ret, [], [(4, .v (.bool true))], []⟩ (by kernel_rfl) (by kernel_rfl) ?_
  refine At.ret (by kernel_rfl) (.v (.bool true)) (by kernel_rfl) ?_
  intro ρ w9 hm' hf
  exact ⟨rfl, hm'.below⟩
 ·refine At.res 23 (decide ((↑n : Int) > 200)) false (by kernel_rfl) b0 ?_
  refine At.to (noF_stable) (noF_fewer) 0 300 [1, 2, 26] 1 ⟨pops B4 [1, 1, 0] 1, [.seq (sub B4 [1, 1, 1])], [(1, .io .i64 cut), (2, .lp 0 0), (26, .agg [.io .i64 g, .io .i64 s, .io .i64 k, .io .i64 sz, .io .i64 sl, .io .i64 of, .io .i64 gp, .io .i64 lt, .io .i64 ea, .bo d, .io .i64 wk, .sl A n cap])], [([.io .i64 g, .io .i64 s, .io .i64 k, .io .i64 sz, .io .i64 sl, .io .i64 of, .io .i64 gp, .io .i64 lt, .io .i64 ea, .bo d, .io .i64 wk, .sl A n cap], 28)]⟩ (by kernel_rfl) (by kernel_rfl) ?_
  have hn200 : n ≤ 200 := by have := of_decide_eq_false b0; omega
  clear b0
  have hwn : IntKind.i64.wrap ((n : Int) + 2) = (n : Int) + 2 := wrap63 (by omega) (by omega)
  have hw1n : IntKind.i64.wrap (1 + (n : Int)) = 1 + (n : Int) := wrap63 (by omega) (by omega)
  by_cases hc : (chkP (Cf.mk g s k sz sl of gp lt ea d) wk xs).2 = 0
  ·refine At.call noF_stable 12 [.agg [.io .i64 g, .io .i64 s, .io .i64 k, .io .i64 sz, .io .i64 sl, .io .i64 of, .io .i64 gp, .io .i64 lt, .io .i64 ea, .bo d, .io .i64 wk, .sl A n cap]] (.tup [.so (mkB (scriptB (Cf.mk g s k sz sl of gp lt ea d) wk xs)), .v (.int .i64 0)]) (by kernel_rfl) (by kernel_rfl) (by kernel_rfl) (fun _ _ w1 hi _ => (text_go g s k sz sl of gp lt ea d wk A n cap xs w1 (hw.below hi.mem.below) (hS.below hi.mem.below) (by omega) hok).mono fun e w2 h => ⟨h.1.trans (by rw [show textP ⟨g, s, k, sz, sl, of, gp, lt, ea, d⟩ wk xs = (scriptB (Cf.mk g s k sz sl of gp lt ea d) wk xs, 0) from if_pos hc]; rfl), h.2⟩) ?_
   obtain ⟨htl, hparse, hE1, hE2⟩ := back_facts hc hok (by omega)
   generalize ht : scriptB (Cf.mk g s k sz sl of gp lt ea d) wk xs = t at htl hparse hE1 hE2
   refine At.to (noF_stable) (noF_fewer) 0 300 [1, 2, 5, 60] 1 ⟨pops B4 [1, 1, 1, 1, 0] 1, [.seq (sub B4 [1, 1, 1, 1, 1])], [(1, .io .i64 cut), (2, .lp 0 0), (5, .so (mkB t)), (60, .so (mkB t))], [([.io .i64 g, .io .i64 s, .io .i64 k, .io .i64 sz, .io .i64 sl, .io .i64 of, .io .i64 gp, .io .i64 lt, .io .i64 ea, .bo d, .io .i64 wk, .sl A n cap], 28)]⟩ (by kernel_rfl) (by kernel_rfl) ?_
   refine At.callx noF_stable (X := Option Addr × Nat) 9 [.so (mkB t)] (fun x => .tup [.agg [.io .i64 g, .io .i64 s, .io .i64 k, .io .i64 sz, .io .i64 sl, .io .i64 of, .io .i64 gp, .io .i64 lt, .io .i64 ea, .bo d, .io .i64 wk, .sl x.1 xs.length x.2], .io .i64 ((xs.length + 2 : Nat) : Int), .v (.int .i64 0)]) (fun x => SrcF x.1 (stW xs)) (fun x => SrcF.stable) (by kernel_rfl) (by kernel_rfl) (by kernel_rfl) (by kernel_rfl) (fun ρ a w1 hi hf => ?_) fun x => ?_
   ·refine (parse_kit t htl w1 (hw.below hi.mem.below)).mono fun e w2 h => ?_
    rw [hparse] at h
    unfold parseE at h
    rw [if_pos (by simp [FO.ok])] at h
    obtain ⟨A', c', h1, h2⟩ := h
    exact ⟨(A', c'), h1, h2.2.1.1.below (Nat.le_refl _) (fun _ _ hh => hh), srcF_row h2 (fun b hb => (hi.mem.ge b hb).2)⟩
   obtain ⟨A1, c1⟩ := x
   refine At.mono (F' := SrcF A1 (stW xs)) (fun ρ w1 h => h.2) ?_
   refine At.toJ (SrcF.stable) SrcF.fewer 0 300 [1, 2, 5, 9, 10, 11, 65] 2 ⟨pops B4 [1, 1, 1, 1, 1, 0] 1, [.seq (sub B4 [1, 1, 1, 1, 1, 1])], [(1, .io .i64 cut), (2, .lp 0 0), (5, .so (mkB t)), (9, .lp 1 0), (10, .io .i64 (↑(xs.length + 2) : Int)), (11, .v (.int .i64 0)), (65, .so (mkB t))], [([.io .i64 g, .io .i64 s, .io .i64 k, .io .i64 sz, .io .i64 sl, .io .i64 of, .io .i64 gp, .io .i64 lt, .io .i64 ea, .bo d, .io .i64 wk, .sl A n cap], 28), ([.io .i64 g, .io .i64 s, .io .i64 k, .io .i64 sz, .io .i64 sl, .io .i64 of, .io .i64 gp, .io .i64 lt, .io .i64 ea, .bo d, .io .i64 wk, .sl A1 xs.length c1], 28)]⟩ (by kernel_rfl) (by kernel_rfl) ?_
   refine At.callx SrcF.stable (X := Option Addr × Nat) 14 [.so (mkB t)] (fun x => .sl x.1 (xs.length + 2) x.2) (fun x => SrcF x.1 (ints (endsOf t 0))) (fun x => SrcF.stable) (by kernel_rfl) (by kernel_rfl) (by kernel_rfl) (by kernel_rfl) (fun ρ a w1 hi hf => ?_) fun x => ?_
   ·refine (ends_any t htl w1).mono fun e w2 h => ?_
    rw [hE1] at h
    obtain ⟨A', c', h1, h2⟩ := h
    exact ⟨(A', c'), h1, h2.2.1.1.below (Nat.le_refl _) (fun _ _ hh => hh), srcF_row h2 (fun b hb => (hi.mem.ge b hb).2)⟩
   obtain ⟨A2, c2⟩ := x
   refine At.mono (F' := FB A1 (stW xs) A2 (ints (endsOf t 0))) (fun ρ w1 h => h) ?_
   refine At.learn (p := ∃ a, A2 = some a) (fun ρ w1 hf => hf.2.some (by intro e; have := congrArg List.length e; simp [ints, hE1] at this)) ?_
   rintro ⟨a2, rfl⟩
   refine At.toJ (FB.stable) FB.fewer 0 300 [1, 2, 5, 9, 10, 12, 77] 2 ⟨pops B4 [1, 1, 1, 1, 1, 1, 0, 0] 11, [.seq (sub B4 [1, 1, 1, 1, 1, 1, 0, 1]), .seq (sub B4 [1, 1, 1, 1, 1, 1, 1])], [(1, .io .i64 cut), (2, .lp 0 0), (5, .so (mkB t)), (9, .lp 1 0), (10, .io .i64 (↑(xs.length + 2) : Int)), (12, .sl (some a2) (xs.length + 2) c2), (77, .bo ((↑(xs.length + 2) : Int) != IntKind.i64.wrap ((↑n : Int) + 2)))], [([.io .i64 g, .io .i64 s, .io .i64 k, .io .i64 sz, .io .i64 sl, .io .i64 of, .io .i64 gp, .io .i64 lt, .io .i64 ea, .bo d, .io .i64 wk, .sl A n cap], 28), ([.io .i64 g, .io .i64 s, .io .i64 k, .io .i64 sz, .io .i64 sl, .io .i64 of, .io .i64 gp, .io .i64 lt, .io .i64 ea, .bo d, .io .i64 wk, .sl A1 xs.length c1], 28)]⟩ (by kernel_rfl) (by kernel_rfl) ?_
   rcases Bool.eq_false_or_eq_true ((↑(xs.length + 2) : Int) != IntKind.i64.wrap ((↑n : Int) + 2)) with b0 | b0
   ·refine At.res 77 ((↑(xs.length + 2) : Int) != IntKind.i64.wrap ((↑n : Int) + 2)) true (by kernel_rfl) b0 ?_
    refine At.toJ (FB.stable) FB.fewer 0 300 [4] 0 ⟨.exit .ret, [], [(4, .v (.bool false))], []⟩ (by kernel_rfl) (by kernel_rfl) ?_
    refine At.ret (by kernel_rfl) (.v (.bool false)) (by kernel_rfl) ?_
    exfalso
    have hl := hS.1
    simp only [hwn, bne_iff_ne, ne_eq, beq_iff_eq, bne_eq_false_iff_eq, beq_eq_false_iff_ne, decide_eq_true_eq, decide_eq_false_iff_not, not_true_eq_false, Bool.not_eq_true', Bool.not_eq_false'] at *
    omega
   ·refine At.res 77 ((↑(xs.length + 2) : Int) != IntKind.i64.wrap ((↑n : Int) + 2)) false (by kernel_rfl) b0 ?_
    refine At.toJ (FB.stable) FB.fewer 0 300 [1, 2, 5, 9, 10, 12, 83] 2 ⟨pops B4 [1, 1, 1, 1, 1, 1, 0, 0] 17, [.seq (sub B4 [1, 1, 1, 1, 1, 1, 0, 1]), .seq (sub B4 [1, 1, 1, 1, 1, 1, 1])], [(1, .io .i64 cut), (2, .lp 0 0), (5, .so (mkB t)), (9, .lp 1 0), (10, .io .i64 (↑(xs.length + 2) : Int)), (12, .sl (some a2) (xs.length + 2) c2), (83, .bo ((↑(xs.length + 2) : Int) != (↑(xs.length + 2) : Int)))], [([.io .i64 g, .io .i64 s, .io .i64 k, .io .i64 sz, .io .i64 sl, .io .i64 of, .io .i64 gp, .io .i64 lt, .io .i64 ea, .bo d, .io .i64 wk, .sl A n cap], 28), ([.io .i64 g, .io .i64 s, .io .i64 k, .io .i64 sz, .io .i64 sl, .io .i64 of, .io .i64 gp, .io .i64 lt, .io .i64 ea, .bo d, .io .i64 wk, .sl A1 xs.length c1], 28)]⟩ (by kernel_rfl) (by kernel_rfl) ?_
    refine At.res 83 ((↑(xs.length + 2) : Int) != (↑(xs.length + 2) : Int)) false (by kernel_rfl) (by first | assumption | (simp only [*]; done) | (simp [*]; done)) ?_
    refine At.toJ (FB.stable) FB.fewer 0 300 [1, 5, 10, 12, 83, 84, 85] 0 ⟨pops B4 [1, 1, 1, 1, 1, 1, 0, 0] 19, [.seq (sub B4 [1, 1, 1, 1, 1, 1, 0, 1]), .seq (sub B4 [1, 1, 1, 1, 1, 1, 1])], [(1, .io .i64 cut), (5, .so (mkB t)), (10, .io .i64 (↑(xs.length + 2) : Int)), (12, .sl (some a2) (xs.length + 2) c2), (83, .v (.bool false)), (84, .agg [.io .i64 g, .io .i64 s, .io .i64 k, .io .i64 sz, .io .i64 sl, .io .i64 of, .io .i64 gp, .io .i64 lt, .io .i64 ea, .bo d, .io .i64 wk, .sl A1 xs.length c1]), (85, .agg [.io .i64 g, .io .i64 s, .io .i64 k, .io .i64 sz, .io .i64 sl, .io .i64 of, .io .i64 gp, .io .i64 lt, .io .i64 ea, .bo d, .io .i64 wk, .sl A n cap])], []⟩ (by kernel_rfl) (by kernel_rfl) ?_
    refine At.call FB.stable 11 [.agg [.io .i64 g, .io .i64 s, .io .i64 k, .io .i64 sz, .io .i64 sl, .io .i64 of, .io .i64 gp, .io .i64 lt, .io .i64 ea, .bo d, .io .i64 wk, .sl A1 xs.length c1], .agg [.io .i64 g, .io .i64 s, .io .i64 k, .io .i64 sz, .io .i64 sl, .io .i64 of, .io .i64 gp, .io .i64 lt, .io .i64 ea, .bo d, .io .i64 wk, .sl A n cap]] (.v (.bool true)) (by kernel_rfl) (by kernel_rfl) (by kernel_rfl) (fun _ _ w1 hi hf => (same_go g s k sz sl of gp lt ea d wk A1 xs.length c1 xs g s k sz sl of gp lt ea d wk A n cap xs w1 (srcF_sls hf.1 rfl) (hS.below hi.mem.below) (by omega) (by omega)).mono fun e w2 h => ⟨h.1.trans (by rw [decide_eq_true ⟨rfl, rfl, rfl⟩]; rfl), h.2⟩) ?_
    refine At.toJ (FB.stable) FB.fewer 0 300 [5, 10, 12, 89, 90] 0 ⟨pops B4 [1, 1, 1, 1, 1, 1, 1, 0] 2, [.seq (sub B4 [1, 1, 1, 1, 1, 1, 1, 1])], [(5, .so (mkB t)), (10, .io .i64 (↑(xs.length + 2) : Int)), (12, .sl (some a2) (xs.length + 2) c2), (89, .io .i64 cut), (90, .io .i64 (↑(xs.length + 2) : Int))], []⟩ (by kernel_rfl) (by kernel_rfl) ?_
    refine At.rem .i64 cut ((xs.length + 2 : Nat) : Int) (by kernel_rfl) (by omega) FB.stable ?_
    refine At.toJ (FB.stable) FB.fewer 0 300 [5, 12, 93, 94] 0 ⟨pops B4 [1, 1, 1, 1, 1, 1, 1, 0] 6, [.seq (sub B4 [1, 1, 1, 1, 1, 1, 1, 1])], [(5, .so (mkB t)), (12, .sl (some a2) (xs.length + 2) c2), (93, .io .i64 (IntKind.i64.wrap (cut.tmod (↑(xs.length + 2) : Int) + (↑(xs.length + 2) : Int)))), (94, .io .i64 (↑(xs.length + 2) : Int))], []⟩ (by kernel_rfl) (by kernel_rfl) ?_
    refine At.rem .i64 (IntKind.i64.wrap (cut.tmod ((xs.length + 2 : Nat) : Int) + ((xs.length + 2 : Nat) : Int))) ((xs.length + 2 : Nat) : Int) (by kernel_rfl) (by omega) FB.stable ?_
    obtain ⟨j, hj, hjj⟩ := cut_j cut (xs.length + 2) (by omega) (by omega)
    rw [hjj]
    obtain ⟨e, he, he1, he2, hp1, hp2, hp3⟩ := hE2 j hj
    have hee : (ints (endsOf t 0))[j]? = some (.int .i64 (e : Int)) := by simp [ints, he]
    refine At.toJ (FB.stable) FB.fewer 0 300 [5, 12, 13, 97, 98, 99] 0 ⟨pops B4 [1, 1, 1, 1, 1, 1, 1, 1, 0] 3, [.seq (sub B4 [1, 1, 1, 1, 1, 1, 1, 1, 1])], [(5, .so (mkB t)), (12, .sl (some a2) (xs.length + 2) c2), (13, .io .i64 (↑j : Int)), (97, .so (mkB t)), (98, .sl (some a2) (xs.length + 2) c2), (99, .io .i64 (↑j : Int))], []⟩ (by kernel_rfl) (by kernel_rfl) ?_
    refine At.idx a2 (xs.length + 2) 1 (j : Int) (by kernel_rfl) (by omega) (by omega) FB.stable ?_
    refine At.ldx (a2.add ((j : Int).toNat * 1)) (.io .i64 (e : Int)) (by kernel_rfl) FB.stable (fun ρ w1 hm' hf => by rw [Int.toNat_natCast, Nat.mul_one]; exact (hf.2.2 a2 rfl).1 j _ hee) ?_
    refine At.toJ (FB.stable) FB.fewer 0 300 [5, 12, 13, 97, 101] 0 ⟨pops B4 [1, 1, 1, 1, 1, 1, 1, 1, 0] 5, [.seq (sub B4 [1, 1, 1, 1, 1, 1, 1, 1, 1])], [(5, .so (mkB t)), (12, .sl (some a2) (xs.length + 2) c2), (13, .io .i64 (↑j : Int)), (97, .so (mkB t)), (101, .io .i64 (↑e : Int))], []⟩ (by kernel_rfl) (by kernel_rfl) ?_
    refine sslT t e (by kernel_rfl) he2 FB.stable ?_
    refine At.toJ (FB.stable) FB.fewer 0 300 [5, 12, 13, 102] 0 ⟨pops B4 [1, 1, 1, 1, 1, 1, 1, 1, 0] 6, [.seq (sub B4 [1, 1, 1, 1, 1, 1, 1, 1, 1])], [(5, .so (mkB t)), (12, .sl (some a2) (xs.length + 2) c2), (13, .io .i64 (↑j : Int)), (102, .so (mkB (List.take e t)))], []⟩ (by kernel_rfl) (by kernel_rfl) ?_
    have hbe : (t.take e).length ≤ 1048576 := by rw [List.length_take]; omega
    by_cases hj0 : j = 0
    ·rw [if_pos hj0] at hp1
     refine At.call FB.stable 9 [.so (mkB (t.take e))] (.tup [.agg [.v (.int .i64 0), .v (.int .i64 0), .v (.int .i64 0), .v (.int .i64 0), .v (.int .i64 0), .v (.int .i64 0), .v (.int .i64 0), .v (.int .i64 0), .v (.int .i64 0), .v (.bool false), .v (.int .i64 0), .v (.slice none 0 0)], .v (.int .i64 1), .v (.int .i64 370)]) (by kernel_rfl) (by kernel_rfl) (by kernel_rfl) (fun _ _ w1 hi _ => (parse_kit (t.take e) hbe w1 (hw.below hi.mem.below)).mono fun e' w2 h => by
      rw [hp1] at h
      unfold parseE at h
      rw [if_neg (by simp [FO.ok])] at h
      exact h) ?_
     refine At.toJ (FB.stable) FB.fewer 0 300 [5, 12, 13, 14, 15, 16, 109] 1 ⟨pops B4 [1, 1, 1, 1, 1, 1, 1, 1, 1, 0, 0] 3, [.seq (sub B4 [1, 1, 1, 1, 1, 1, 1, 1, 1, 0, 1]), .seq (sub B4 [1, 1, 1, 1, 1, 1, 1, 1, 1, 1])], [(5, .so (mkB t)), (12, .sl (some a2) (xs.length + 2) c2), (13, .io .i64 (↑j : Int)), (14, .lp 0 0), (15, .v (.int .i64 1)), (16, .v (.int .i64 370)), (109, .bo ((↑j : Int) == 0))], [([.v (.int .i64 0), .v (.int .i64 0), .v (.int .i64 0), .v (.int .i64 0), .v (.int .i64 0), .v (.int .i64 0), .v (.int .i64 0), .v (.int .i64 0), .v (.int .i64 0), .v (.bool false), .v (.int .i64 0), .v (.slice none 0 0)], 28)]⟩ (by kernel_rfl) (by kernel_rfl) ?_
     refine At.res 109 ((↑j : Int) == 0) true (by kernel_rfl) (by first | assumption | (simp only [*]; done) | (simp [*]; done)) ?_
     refine At.toJ (FB.stable) FB.fewer 0 300 [5, 12, 13, 14, 15, 16, 117, 120] 1 ⟨pops B4 [1, 1, 1, 1, 1, 1, 1, 1, 1, 0, 0] 14, [.seq (sub B4 [1, 1, 1, 1, 1, 1, 1, 1, 1, 0, 1]), .seq (sub B4 [1, 1, 1, 1, 1, 1, 1, 1, 1, 1])], [(5, .so (mkB t)), (12, .sl (some a2) (xs.length + 2) c2), (13, .io .i64 (↑j : Int)), (14, .lp 0 0), (15, .v (.int .i64 1)), (16, .v (.int .i64 370)), (117, .v (.bool false)), (120, .bo (decide ((↑j : Int) > 0)))], [([.v (.int .i64 0), .v (.int .i64 0), .v (.int .i64 0), .v (.int .i64 0), .v (.int .i64 0), .v (.int .i64 0), .v (.int .i64 0), .v (.int .i64 0), .v (.int .i64 0), .v (.bool false), .v (.int .i64 0), .v (.slice none 0 0)], 28)]⟩ (by kernel_rfl) (by kernel_rfl) ?_
     refine At.res 120 (decide ((↑j : Int) > 0)) false (by kernel_rfl) (by first | assumption | (simp only [*]; done) | (simp [*]; done)) ?_
     refine At.toJ (FB.stable) FB.fewer 0 300 [13, 140, 141, 142] 0 ⟨pops B4 [1, 1, 1, 1, 1, 1, 1, 1, 1, 1, 0] 3, [.seq (sub B4 [1, 1, 1, 1, 1, 1, 1, 1, 1, 1, 1])], [(13, .io .i64 (↑j : Int)), (140, .so (mkB t)), (141, .sl (some a2) (xs.length + 2) c2), (142, .io .i64 (↑j : Int))], []⟩ (by kernel_rfl) (by kernel_rfl) ?_
     refine At.idx a2 (xs.length + 2) 1 (j : Int) (by kernel_rfl) (by omega) (by omega) FB.stable ?_
     refine At.ldx (a2.add ((j : Int).toNat * 1)) (.io .i64 (e : Int)) (by kernel_rfl) FB.stable (fun ρ w1 hm' hf => by rw [Int.toNat_natCast, Nat.mul_one]; exact (hf.2.2 a2 rfl).1 j _ hee) ?_
     refine At.toJ (FB.stable) FB.fewer 0 300 [13, 140, 145] 0 ⟨pops B4 [1, 1, 1, 1, 1, 1, 1, 1, 1, 1, 0] 6, [.seq (sub B4 [1, 1, 1, 1, 1, 1, 1, 1, 1, 1, 1])], [(13, .io .i64 (↑j : Int)), (140, .so (mkB t)), (145, .io .i64 (IntKind.i64.wrap ((↑e : Int) - 1)))], []⟩ (by kernel_rfl) (by kernel_rfl) ?_
     have hwe : IntKind.i64.wrap ((e : Int) - 1) = ((e - 1 : Nat) : Int) := by rw [wrap63 (by omega) (by omega)]; omega
     rw [hwe]
     refine sslT t (e - 1) (by kernel_rfl) (by omega) FB.stable ?_
     refine At.toJ (FB.stable) FB.fewer 0 300 [13, 146] 0 ⟨pops B4 [1, 1, 1, 1, 1, 1, 1, 1, 1, 1, 0] 7, [.seq (sub B4 [1, 1, 1, 1, 1, 1, 1, 1, 1, 1, 1])], [(13, .io .i64 (↑j : Int)), (146, .so (mkB (List.take (e - 1) t)))], []⟩ (by kernel_rfl) (by kernel_rfl) ?_
     refine At.call FB.stable 9 [.so (mkB (t.take (e - 1)))] (.tup [.agg [.v (.int .i64 0), .v (.int .i64 0), .v (.int .i64 0), .v (.int .i64 0), .v (.int .i64 0), .v (.int .i64 0), .v (.int .i64 0), .v (.int .i64 0), .v (.int .i64 0), .v (.bool false), .v (.int .i64 0), .v (.slice none 0 0)], .io .i64 (j : Int), .v (.int .i64 370)]) (by kernel_rfl) (by kernel_rfl) (by kernel_rfl) (fun _ _ w1 hi _ => (parse_kit (t.take (e - 1)) (by rw [List.length_take]; omega) w1 (hw.below hi.mem.below)).mono fun e' w2 h => by
      unfold parseE at h
      rw [if_neg (by rw [hp3]; decide), hp2] at h
      exact h) ?_
     refine At.toJ (FB.stable) FB.fewer 0 300 [17, 158] 1 ⟨pops B4 [1, 1, 1, 1, 1, 1, 1, 1, 1, 1, 1, 0] 8, [.seq (sub B4 [1, 0, 1, 2, 1])], [(17, .lp 0 0), (158, .bo ((↑j : Int) == (↑j : Int)))], [([.v (.int .i64 0), .v (.int .i64 0), .v (.int .i64 0), .v (.int .i64 0), .v (.int .i64 0), .v (.int .i64 0), .v (.int .i64 0), .v (.int .i64 0), .v (.int .i64 0), .v (.bool false), .v (.int .i64 0), .v (.slice none 0 0)], 28)]⟩ (by kernel_rfl) (by kernel_rfl) ?_
     refine At.res 158 ((↑j : Int) == (↑j : Int)) true (by kernel_rfl) (by first | assumption | (simp only [*]; done) | (simp [*]; done)) ?_
     refine At.toJ (FB.stable) FB.fewer 0 300 [170] 0 ⟨pops B4 [1, 1, 1, 1, 1, 1, 1, 1, 1, 1, 1, 0] 20, [.seq (sub B4 [1, 0, 1, 2, 1])], [(170, .v (.bool true))], []⟩ (by kernel_rfl) (by kernel_rfl) ?_
     refine At.call FB.stable 8 [] (.v (.bool true)) (by kernel_rfl) (by kernel_rfl) (by kernel_rfl) (fun _ _ w1 hi _ => known_true w1 (hw.below hi.mem.below)) ?_
     refine At.toJ (FB.stable) FB.fewer 0 300 [4] 0 ⟨.exit .ret, [], [(4, .v (.bool true))], []⟩ (by kernel_rfl) (by kernel_rfl) ?_
     refine At.ret (by kernel_rfl) (.v (.bool true)) (by kernel_rfl) ?_
     intro ρ w9 hm' hf
     exact ⟨rfl, hm'.below⟩
    ·rw [if_neg hj0] at hp1
     refine At.callx FB.stable (X := Option Addr × Nat) 9 [.so (mkB (t.take e))] (fun x => .tup [.agg [.io .i64 g, .io .i64 s, .io .i64 k, .io .i64 sz, .io .i64 sl, .io .i64 of, .io .i64 gp, .io .i64 lt, .io .i64 ea, .bo d, .io .i64 wk, .sl x.1 (j - 1) x.2], .io .i64 ((j + 1 : Nat) : Int), .v (.int .i64 0)]) (fun _ _ _ => True) (fun _ => fun _ _ _ _ _ _ h => h) (by kernel_rfl) (by kernel_rfl) (by kernel_rfl) (by kernel_rfl) (fun ρ a w1 hi hf => ?_) fun x => ?_
     ·refine (parse_kit (t.take e) hbe w1 (hw.below hi.mem.below)).mono fun e' w2 h => ?_
      rw [hp1] at h
      unfold parseE at h
      rw [if_pos (by simp [FO.ok]; omega)] at h
      obtain ⟨A', c', h1, h2⟩ := h
      have hlen : (xs.take (j - 1)).length = j - 1 := by rw [List.length_take]; omega
      simp only [hlen] at h1
      exact ⟨(A', c'), h1, h2.2.1.1.below (Nat.le_refl _) (fun _ _ hh => hh), trivial⟩
     obtain ⟨A3, c3⟩ := x
     refine At.mono (F' := FB A1 (stW xs) (some a2) (ints (endsOf t 0))) (fun ρ w1 h => h.1) ?_
     have hwj : IntKind.i64.wrap ((j : Int) + 1) = (j : Int) + 1 := wrap63 (by omega) (by omega)
     have hwj1 : IntKind.i64.wrap ((j : Int) - 1) = (j : Int) - 1 := wrap63 (by omega) (by omega)
     have hjm : ((j - 1 : Nat) : Int) = (j : Int) - 1 := by omega
     refine At.toJ (FB.stable) FB.fewer 0 300 [5, 12, 13, 14, 15, 16, 109] 1 ⟨pops B4 [1, 1, 1, 1, 1, 1, 1, 1, 1, 0, 0] 3, [.seq (sub B4 [1, 1, 1, 1, 1, 1, 1, 1, 1, 0, 1]), .seq (sub B4 [1, 1, 1, 1, 1, 1, 1, 1, 1, 1])], [(5, .so (mkB t)), (12, .sl (some a2) (xs.length + 2) c2), (13, .io .i64 (↑j : Int)), (14, .lp 0 0), (15, .io .i64 (↑(j + 1) : Int)), (16, .v (.int .i64 0)), (109, .bo ((↑j : Int) == 0))], [([.io .i64 g, .io .i64 s, .io .i64 k, .io .i64 sz, .io .i64 sl, .io .i64 of, .io .i64 gp, .io .i64 lt, .io .i64 ea, .bo d, .io .i64 wk, .sl A3 (j - 1) c3], 28)]⟩ (by kernel_rfl) (by kernel_rfl) ?_
     refine At.res 109 ((↑j : Int) == 0) false (by kernel_rfl) (by first | assumption | (simp only [*]; done) | (simp [*]; done)) ?_
     refine At.toJ (FB.stable) FB.fewer 0 300 [5, 12, 13, 14, 15, 16, 117, 120] 1 ⟨pops B4 [1, 1, 1, 1, 1, 1, 1, 1, 1, 0, 0] 14, [.seq (sub B4 [1, 1, 1, 1, 1, 1, 1, 1, 1, 0, 1]), .seq (sub B4 [1, 1, 1, 1, 1, 1, 1, 1, 1, 1])], [(5, .so (mkB t)), (12, .sl (some a2) (xs.length + 2) c2), (13, .io .i64 (↑j : Int)), (14, .lp 0 0), (15, .io .i64 (↑(j + 1) : Int)), (16, .v (.int .i64 0)), (117, .v (.bool false)), (120, .bo (decide ((↑j : Int) > 0)))], [([.io .i64 g, .io .i64 s, .io .i64 k, .io .i64 sz, .io .i64 sl, .io .i64 of, .io .i64 gp, .io .i64 lt, .io .i64 ea, .bo d, .io .i64 wk, .sl A3 (j - 1) c3], 28)]⟩ (by kernel_rfl) (by kernel_rfl) ?_
     rcases Bool.eq_false_or_eq_true (decide ((↑j : Int) > 0)) with b0 | b0
     ·refine At.res 120 (decide ((↑j : Int) > 0)) true (by kernel_rfl) b0 ?_
      refine At.toJ (FB.stable) FB.fewer 0 300 [5, 12, 13, 14, 117, 120, 129] 1 ⟨pops B4 [1, 1, 1, 1, 1, 1, 1, 1, 1, 0, 0] 23, [.seq (sub B4 [1, 1, 1, 1, 1, 1, 1, 1, 1, 0, 1]), .seq (sub B4 [1, 1, 1, 1, 1, 1, 1, 1, 1, 1])], [(5, .so (mkB t)), (12, .sl (some a2) (xs.length + 2) c2), (13, .io .i64 (↑j : Int)), (14, .lp 0 0), (117, .v (.bool false)), (120, .v (.bool true)), (129, .bo ((↑(j + 1) : Int) != IntKind.i64.wrap ((↑j : Int) + 1)))], [([.io .i64 g, .io .i64 s, .io .i64 k, .io .i64 sz, .io .i64 sl, .io .i64 of, .io .i64 gp, .io .i64 lt, .io .i64 ea, .bo d, .io .i64 wk, .sl A3 (j - 1) c3], 28)]⟩ (by kernel_rfl) (by kernel_rfl) ?_
      refine At.res 129 ((↑(j + 1) : Int) != IntKind.i64.wrap ((↑j : Int) + 1)) false (by kernel_rfl) (by first | assumption | (simp only [*]; done) | (simp [*]; done)) ?_
      refine At.toJ (FB.stable) FB.fewer 0 300 [5, 12, 13, 138] 0 ⟨.code (sub B4 [1, 1, 1, 1, 1, 1, 1, 1, 1, 0, 1]), [.seq (sub B4 [1, 1, 1, 1, 1, 1, 1, 1, 1, 1])], [(5, .so (mkB t)), (12, .sl (some a2) (xs.length + 2) c2), (13, .io .i64 (↑j : Int)), (138, .bo ((↑(j - 1) : Int) != IntKind.i64.wrap ((↑j : Int) - 1)))], []⟩ (by kernel_rfl) (by kernel_rfl) ?_
      refine At.res 138 ((↑(j - 1) : Int) != IntKind.i64.wrap ((↑j : Int) - 1)) false (by kernel_rfl) (by first | assumption | (simp only [*]; done) | (simp [*]; done)) ?_
      refine At.toJ (FB.stable) FB.fewer 0 300 [13, 140, 141, 142] 0 ⟨pops B4 [1, 1, 1, 1, 1, 1, 1, 1, 1, 1, 0] 3, [.seq (sub B4 [1, 1, 1, 1, 1, 1, 1, 1, 1, 1, 1])], [(13, .io .i64 (↑j : Int)), (140, .so (mkB t)), (141, .sl (some a2) (xs.length + 2) c2), (142, .io .i64 (↑j : Int))], []⟩ (by kernel_rfl) (by kernel_rfl) ?_
      refine At.idx a2 (xs.length + 2) 1 (j : Int) (by kernel_rfl) (by omega) (by omega) FB.stable ?_
      refine At.ldx (a2.add ((j : Int).toNat * 1)) (.io .i64 (e : Int)) (by kernel_rfl) FB.stable (fun ρ w1 hm' hf => by rw [Int.toNat_natCast, Nat.mul_one]; exact (hf.2.2 a2 rfl).1 j _ hee) ?_
      refine At.toJ (FB.stable) FB.fewer 0 300 [13, 140, 145] 0 ⟨pops B4 [1, 1, 1, 1, 1, 1, 1, 1, 1, 1, 0] 6, [.seq (sub B4 [1, 1, 1, 1, 1, 1, 1, 1, 1, 1, 1])], [(13, .io .i64 (↑j : Int)), (140, .so (mkB t)), (145, .io .i64 (IntKind.i64.wrap ((↑e : Int) - 1)))], []⟩ (by kernel_rfl) (by kernel_rfl) ?_
      have hwe : IntKind.i64.wrap ((e : Int) - 1) = ((e - 1 : Nat) : Int) := by rw [wrap63 (by omega) (by omega)]; omega
      rw [hwe]
      refine sslT t (e - 1) (by kernel_rfl) (by omega) FB.stable ?_
      refine At.toJ (FB.stable) FB.fewer 0 300 [13, 146] 0 ⟨pops B4 [1, 1, 1, 1, 1, 1, 1, 1, 1, 1, 0] 7, [.seq (sub B4 [1, 1, 1, 1, 1, 1, 1, 1, 1, 1, 1])], [(13, .io .i64 (↑j : Int)), (146, .so (mkB (List.take (e - 1) t)))], []⟩ (by kernel_rfl) (by kernel_rfl) ?_
      refine At.call FB.stable 9 [.so (mkB (t.take (e - 1)))] (.tup [.agg [.v (.int .i64 0), .v (.int .i64 0), .v (.int .i64 0), .v (.int .i64 0), .v (.int .i64 0), .v (.int .i64 0), .v (.int .i64 0), .v (.int .i64 0), .v (.int .i64 0), .v (.bool false), .v (.int .i64 0), .v (.slice none 0 0)], .io .i64 (j : Int), .v (.int .i64 370)]) (by kernel_rfl) (by kernel_rfl) (by kernel_rfl) (fun _ _ w1 hi _ => (parse_kit (t.take (e - 1)) (by rw [List.length_take]; omega) w1 (hw.below hi.mem.below)).mono fun e' w2 h => by
       unfold parseE at h
       rw [if_neg (by rw [hp3]; decide), hp2] at h
       exact h) ?_
      refine At.toJ (FB.stable) FB.fewer 0 300 [17, 158] 1 ⟨pops B4 [1, 1, 1, 1, 1, 1, 1, 1, 1, 1, 1, 0] 8, [.seq (sub B4 [1, 0, 1, 2, 1])], [(17, .lp 0 0), (158, .bo ((↑j : Int) == (↑j : Int)))], [([.v (.int .i64 0), .v (.int .i64 0), .v (.int .i64 0), .v (.int .i64 0), .v (.int .i64 0), .v (.int .i64 0), .v (.int .i64 0), .v (.int .i64 0), .v (.int .i64 0), .v (.bool false), .v (.int .i64 0), .v (.slice none 0 0)], 28)]⟩ (by kernel_rfl) (by kernel_rfl) ?_
      refine At.res 158 ((↑j : Int) == (↑j : Int)) true (by kernel_rfl) (by first | assumption | (simp only [*]; done) | (simp [*]; done)) ?_
      refine At.toJ (FB.stable) FB.fewer 0 300 [170] 0 ⟨pops B4 [1, 1, 1, 1, 1, 1, 1, 1, 1, 1, 1, 0] 20, [.seq (sub B4 [1, 0, 1, 2, 1])], [(170, .v (.bool true))], []⟩ (by kernel_rfl) (by kernel_rfl) ?_
      refine At.call FB.stable 8 [] (.v (.bool true)) (by kernel_rfl) (by kernel_rfl) (by kernel_rfl) (fun _ _ w1 hi _ => known_true w1 (hw.below hi.mem.below)) ?_
      refine At.toJ (FB.stable) FB.fewer 0 300 [4] 0 ⟨.exit .ret, [], [(4, .v (.bool true))], []⟩ (by kernel_rfl) (by kernel_rfl) ?_
      refine At.ret (by kernel_rfl) (.v (.bool true)) (by kernel_rfl) ?_
      intro ρ w9 hm' hf
      exact ⟨rfl, hm'.below⟩
     ·refine At.res 120 (decide ((↑j : Int) > 0)) false (by kernel_rfl) b0 ?_
      refine At.toJ (FB.stable) FB.fewer 0 300 [13, 140, 141, 142] 0 ⟨pops B4 [1, 1, 1, 1, 1, 1, 1, 1, 1, 1, 0] 3, [.seq (sub B4 [1, 1, 1, 1, 1, 1, 1, 1, 1, 1, 1])], [(13, .io .i64 (↑j : Int)), (140, .so (mkB t)), (141, .sl (some a2) (xs.length + 2) c2), (142, .io .i64 (↑j : Int))], []⟩ (by kernel_rfl) (by kernel_rfl) ?_
      refine At.idx a2 (xs.length + 2) 1 (j : Int) (by kernel_rfl) (by omega) (by omega) FB.stable ?_
      refine At.ldx (a2.add ((j : Int).toNat * 1)) (.io .i64 (e : Int)) (by kernel_rfl) FB.stable (fun ρ w1 hm' hf => by rw [Int.toNat_natCast, Nat.mul_one]; exact (hf.2.2 a2 rfl).1 j _ hee) ?_
      refine At.toJ (FB.stable) FB.fewer 0 300 [13, 140, 145] 0 ⟨pops B4 [1, 1, 1, 1, 1, 1, 1, 1, 1, 1, 0] 6, [.seq (sub B4 [1, 1, 1, 1, 1, 1, 1, 1, 1, 1, 1])], [(13, .io .i64 (↑j : Int)), (140, .so (mkB t)), (145, .io .i64 (IntKind.i64.wrap ((↑e : Int) - 1)))], []⟩ (by kernel_rfl) (by kernel_rfl) ?_
      have hwe : IntKind.i64.wrap ((e : Int) - 1) = ((e - 1 : Nat) : Int) := by rw [wrap63 (by omega) (by omega)]; omega
      rw [hwe]
      refine sslT t (e - 1) (by kernel_rfl) (by omega) FB.stable ?_
      refine At.toJ (FB.stable) FB.fewer 0 300 [13, 146] 0 ⟨pops B4 [1, 1, 1, 1, 1, 1, 1, 1, 1, 1, 0] 7, [.seq (sub B4 [1, 1, 1, 1, 1, 1, 1, 1, 1, 1, 1])], [(13, .io .i64 (↑j : Int)), (146, .so (mkB (List.take (e - 1) t)))], []⟩ (by kernel_rfl) (by kernel_rfl) ?_
      refine At.call FB.stable 9 [.so (mkB (t.take (e - 1)))] (.tup [.agg [.v (.int .i64 0), .v (.int .i64 0), .v (.int .i64 0), .v (.int .i64 0), .v (.int .i64 0), .v (.int .i64 0), .v (.int .i64 0), .v (.int .i64 0), .v (.int .i64 0), .v (.bool false), .v (.int .i64 0), .v (.slice none 0 0)], .io .i64 (j : Int), .v (.int .i64 370)]) (by kernel_rfl) (by kernel_rfl) (by kernel_rfl) (fun _ _ w1 hi _ => (parse_kit (t.take (e - 1)) (by rw [List.length_take]; omega) w1 (hw.below hi.mem.below)).mono fun e' w2 h => by
       unfold parseE at h
       rw [if_neg (by rw [hp3]; decide), hp2] at h
       exact h) ?_
      refine At.toJ (FB.stable) FB.fewer 0 300 [17, 158] 1 ⟨pops B4 [1, 1, 1, 1, 1, 1, 1, 1, 1, 1, 1, 0] 8, [.seq (sub B4 [1, 0, 1, 2, 1])], [(17, .lp 0 0), (158, .bo ((↑j : Int) == (↑j : Int)))], [([.v (.int .i64 0), .v (.int .i64 0), .v (.int .i64 0), .v (.int .i64 0), .v (.int .i64 0), .v (.int .i64 0), .v (.int .i64 0), .v (.int .i64 0), .v (.int .i64 0), .v (.bool false), .v (.int .i64 0), .v (.slice none 0 0)], 28)]⟩ (by kernel_rfl) (by kernel_rfl) ?_
      refine At.res 158 ((↑j : Int) == (↑j : Int)) true (by kernel_rfl) (by first | assumption | (simp only [*]; done) | (simp [*]; done)) ?_
      refine At.toJ (FB.stable) FB.fewer 0 300 [170] 0 ⟨pops B4 [1, 1, 1, 1, 1, 1, 1, 1, 1, 1, 1, 0] 20, [.seq (sub B4 [1, 0, 1, 2, 1])], [(170, .v (.bool true))], []⟩ (by kernel_rfl) (by kernel_rfl) ?_
      refine At.call FB.stable 8 [] (.v (.bool true)) (by kernel_rfl) (by kernel_rfl) (by kernel_rfl) (fun _ _ w1 hi _ => known_true w1 (hw.below hi.mem.below)) ?_
      refine At.toJ (FB.stable) FB.fewer 0 300 [4] 0 ⟨.exit .ret, [], [(4, .v (.bool true))], []⟩ (by kernel_rfl) (by kernel_rfl) ?_
      refine At.ret (by kernel_rfl) (.v (.bool true)) (by kernel_rfl) ?_
      intro ρ w9 hm' hf
      exact ⟨rfl, hm'.below⟩
  ·refine At.call noF_stable 12 [.agg [.io .i64 g, .io .i64 s, .io .i64 k, .io .i64 sz, .io .i64 sl, .io .i64 of, .io .i64 gp, .io .i64 lt, .io .i64 ea, .bo d, .io .i64 wk, .sl A n cap]] (.tup [.v (.string ⟨#[]⟩), .io .i64 (chkP (Cf.mk g s k sz sl of gp lt ea d) wk xs).2]) (by kernel_rfl) (by kernel_rfl) (by kernel_rfl) (fun _ _ w1 hi _ => (text_go g s k sz sl of gp lt ea d wk A n cap xs w1 (hw.below hi.mem.below) (hS.below hi.mem.below) (by omega) hok).mono fun e w2 h => ⟨h.1.trans (by rw [show textP ⟨g, s, k, sz, sl, of, gp, lt, ea, d⟩ wk xs = ([], (chkP (Cf.mk g s k sz sl of gp lt ea d) wk xs).2) from if_neg hc]; rfl), h.2⟩) ?_
   have hb := chk_bound (Cf.mk g s k sz sl of gp lt ea d) wk xs
   generalize hcq : chkP (Cf.mk g s k sz sl of gp lt ea d) wk xs = q at hc hb
   obtain ⟨q1, q2⟩ := q
   simp only at hc hb
   refine At.to (noF_stable) (noF_fewer) 0 300 [1, 2, 5, 6, 31] 1 ⟨.code (sub B4 [1, 1, 1, 0, 1]), [.seq (sub B4 [1, 1, 1, 1])], [(1, .io .i64 cut), (2, .lp 0 0), (5, .v (.string (ByteArray.mk #[]))), (6, .io .i64 q2), (31, .bo ((q1, q2).snd != 0))], [([.io .i64 g, .io .i64 s, .io .i64 k, .io .i64 sz, .io .i64 sl, .io .i64 of, .io .i64 gp, .io .i64 lt, .io .i64 ea, .bo d, .io .i64 wk, .sl A n cap], 28)]⟩ (by kernel_rfl) (by kernel_rfl) ?_
   refine At.res 31 ((q1, q2).snd != 0) true (by kernel_rfl) (by first | assumption | (simp only [*]; done) | (simp [*]; done)) ?_
   refine At.to (noF_stable) (noF_fewer) 0 300 [2, 5, 6, 33] 1 ⟨pops B4 [1, 1, 1, 0, 1, 2, 0] 1, [.seq (sub B4 [1, 1, 1, 0, 1, 2, 1]), .seq (sub B4 [1, 1, 1, 1])], [(2, .lp 0 0), (5, .v (.string (ByteArray.mk #[]))), (6, .io .i64 q2), (33, .agg [.io .i64 g, .io .i64 s, .io .i64 k, .io .i64 sz, .io .i64 sl, .io .i64 of, .io .i64 gp, .io .i64 lt, .io .i64 ea, .bo d, .io .i64 wk, .sl A n cap])], [([.io .i64 g, .io .i64 s, .io .i64 k, .io .i64 sz, .io .i64 sl, .io .i64 of, .io .i64 gp, .io .i64 lt, .io .i64 ea, .bo d, .io .i64 wk, .sl A n cap], 28)]⟩ (by kernel_rfl) (by kernel_rfl) ?_
   refine At.call noF_stable 13 [.agg [.io .i64 g, .io .i64 s, .io .i64 k, .io .i64 sz, .io .i64 sl, .io .i64 of, .io .i64 gp, .io .i64 lt, .io .i64 ea, .bo d, .io .i64 wk, .sl A n cap]] (.tup [.io .i64 q1, .io .i64 q2]) (by kernel_rfl) (by kernel_rfl) (by kernel_rfl) (fun _ _ w1 hi _ => (check_go g s k sz sl of gp lt ea d wk A n cap xs w1 (hS.below hi.mem.below) (by omega)).mono fun e w2 h => ⟨h.1.trans (by rw [show chkP ⟨g, s, k, sz, sl, of, gp, lt, ea, d⟩ wk xs = (q1, q2) from hcq]; rfl), h.2⟩) ?_
   refine At.to (noF_stable) (noF_fewer) 0 300 [2, 7, 44] 1 ⟨pops B4 [1, 1, 1, 0, 1, 2, 1, 0] 8, [.seq (sub B4 [1, 0, 1, 2, 1]), .seq (sub B4 [1, 1, 1, 1])], [(2, .lp 0 0), (7, .io .i64 q1), (44, .bo (q2 == q2))], [([.io .i64 g, .io .i64 s, .io .i64 k, .io .i64 sz, .io .i64 sl, .io .i64 of, .io .i64 gp, .io .i64 lt, .io .i64 ea, .bo d, .io .i64 wk, .sl A n cap], 28)]⟩ (by kernel_rfl) (by kernel_rfl) ?_
   refine At.res 44 (q2 == q2) true (by kernel_rfl) (by first | assumption | (simp only [*]; done) | (simp [*]; done)) ?_
   refine At.to (noF_stable) (noF_fewer) 0 300 [2, 7, 48] 1 ⟨pops B4 [1, 1, 1, 0, 1, 2, 1, 0] 12, [.seq (sub B4 [1, 0, 1, 2, 1]), .seq (sub B4 [1, 1, 1, 1])], [(2, .lp 0 0), (7, .io .i64 q1), (48, .bo (decide (q1 ≥ 0)))], [([.io .i64 g, .io .i64 s, .io .i64 k, .io .i64 sz, .io .i64 sl, .io .i64 of, .io .i64 gp, .io .i64 lt, .io .i64 ea, .bo d, .io .i64 wk, .sl A n cap], 28)]⟩ (by kernel_rfl) (by kernel_rfl) ?_
   refine At.res 48 (decide (q1 ≥ 0)) true (by kernel_rfl) (by first | assumption | (simp only [*]; done) | (simp [*]; done)) ?_
   refine At.to (noF_stable) (noF_fewer) 0 300 [56] 0 ⟨pops B4 [1, 1, 1, 0, 1, 2, 1, 0] 20, [.seq (sub B4 [1, 0, 1, 2, 1]), .seq (sub B4 [1, 1, 1, 1])], [(56, .bo (decide (q1 ≤ IntKind.i64.wrap (1 + (↑n : Int)))))], []⟩ (by kernel_rfl) (by kernel_rfl) ?_
   rcases Bool.eq_false_or_eq_true (decide (q1 ≤ IntKind.i64.wrap (1 + (↑n : Int)))) with b0 | b0
   ·refine At.res 56 (decide (q1 ≤ IntKind.i64.wrap (1 + (↑n : Int)))) true (by kernel_rfl) b0 ?_
    refine At.to (noF_stable) (noF_fewer) 0 300 [56] 0 ⟨pops B4 [1, 1, 1, 0, 1, 2, 1, 0] 20, [.seq (sub B4 [1, 0, 1, 2, 1]), .seq (sub B4 [1, 1, 1, 1])], [(56, .v (.bool true))], []⟩ (by kernel_rfl) (by kernel_rfl) ?_
    refine At.call noF_stable 8 [] (.v (.bool true)) (by kernel_rfl) (by kernel_rfl) (by kernel_rfl) (fun _ _ w1 hi _ => known_true w1 (hw.below hi.mem.below)) ?_
    refine At.to (noF_stable) (noF_fewer) 0 300 [4] 0 ⟨.exit .ret, [], [(4, .v (.bool true))], []⟩ (by kernel_rfl) (by kernel_rfl) ?_
    refine At.ret (by kernel_rfl) (.v (.bool true)) (by kernel_rfl) ?_
    intro ρ w9 hm' hf
    exact ⟨rfl, hm'.below⟩
   ·refine At.res 56 (decide (q1 ≤ IntKind.i64.wrap (1 + (↑n : Int)))) false (by kernel_rfl) b0 ?_
    refine At.to (noF_stable) (noF_fewer) 0 300 [4] 0 ⟨.exit .ret, [], [(4, .v (.bool false))], []⟩ (by kernel_rfl) (by kernel_rfl) ?_
    refine At.ret (by kernel_rfl) (.v (.bool false)) (by kernel_rfl) ?_
    exfalso
    have hl := hS.1
    simp only [hw1n, bne_iff_ne, ne_eq, beq_iff_eq, bne_eq_false_iff_eq, beq_eq_false_iff_ne, decide_eq_true_eq, decide_eq_false_iff_not, not_true_eq_false, ge_iff_le] at *
    omega
end Go.Proofs.YthfpekhpeiebjaaGreatDoor
end
section
/- A script handed in, taken apart. -/
set_option maxRecDepth 100000
namespace Go.Proofs.YthfpekhpeiebjaaGreatDoor
open Go.Joins Go.ChangeShapes Go.WideShapes Go.RowKit Go.Deep Go.Sx
section
variable {H : Type} {enc : TypeId × Value → H} {w : World} {base : Nat} {spare : Nat → Bool} {held : Bool}
theorem laid_out : laidOutB Tryz.prog = true := by kernel_rfl
theorem kc2 : Tryz.prog.cellsOf 2 = 1 := by kernel_rfl
theorem kc3 : Tryz.prog.cellsOf 3 = 1 := by kernel_rfl
theorem kc4 : Tryz.prog.cellsOf 4 = 1 := by kernel_rfl
theorem kc9 : Tryz.prog.cellsOf 9 = 1 := by kernel_rfl
theorem kc23 : Tryz.prog.cellsOf 23 = 1 := by kernel_rfl
theorem kc25 : Tryz.prog.cellsOf 25 = 10 := by kernel_rfl
theorem kc26 : Tryz.prog.cellsOf 26 = 1 := by kernel_rfl
theorem kc28 : Tryz.prog.cellsOf 28 = 12 := by kernel_rfl
theorem kc35 : Tryz.prog.cellsOf 35 = 1 := by kernel_rfl
theorem kc36 : Tryz.prog.cellsOf 36 = 1 := by kernel_rfl
theorem kc38 : Tryz.prog.cellsOf 38 = 5 := by kernel_rfl
theorem kc39 : Tryz.prog.cellsOf 39 = 1 := by kernel_rfl
theorem kc41 : Tryz.prog.cellsOf 41 = 10 := by kernel_rfl
instance : Inhabited St := ⟨⟨0, 0, [], 0, 0, 0, 0, 0, 0, 0⟩⟩
theorem wf_in {x : Int} (h : (Lit.int .i64 x).wf = true) : in64 x := by
 simp only [Lit.wf, Bool.and_eq_true, decide_eq_true_eq] at h
 exact ⟨h.1, h.2⟩
theorem wf_m {x : Int} (h : (Lit.int .u32 x).wf = true) : 0 ≤ x ∧ x < 4294967296 := by
 simp only [Lit.wf, Bool.and_eq_true, decide_eq_true_eq] at h
 exact ⟨h.1, Int.lt_of_le_of_lt h.2 (by decide)⟩
theorem cfg_of {fuel : Nat} {cs : List Value} {x : DataW H × List MemPlace} (h : DataW.trod enc Tryz.prog w base spare held fuel 25 cs = some x) : ∃ (g s k sz sl of gp lt ea : Int) (b : Bool), cs = [.int .i64 g, .int .i64 s, .int .i64 k, .int .i64 sz, .int .i64 sl, .int .i64 of, .int .i64 gp, .int .i64 lt, .int .i64 ea, .bool b] := by
 obtain ⟨xs, n, _, _, hl, hlen, hg⟩ := DataW.trod_struct Tryz.underlying25 h
 match cs, hl.trans kc25, xs, hlen with
 | [c0, c1, c2, c3, c4, c5, c6, c7, c8, c9], _, [y0, y1, y2, y3, y4, y5, y6, y7, y8, y9], _ =>
  have h0 : DataW.trod enc Tryz.prog w base spare held n 3 [c0] = some y0 := by simpa [kc3] using hg 0 _ rfl
  have h1 : DataW.trod enc Tryz.prog w base spare held n 3 [c1] = some y1 := by simpa [kc3] using hg 1 _ rfl
  have h2 : DataW.trod enc Tryz.prog w base spare held n 23 [c2] = some y2 := by simpa [kc23] using hg 2 _ rfl
  have h3 : DataW.trod enc Tryz.prog w base spare held n 2 [c3] = some y3 := by simpa [kc2] using hg 3 _ rfl
  have h4 : DataW.trod enc Tryz.prog w base spare held n 2 [c4] = some y4 := by simpa [kc2] using hg 4 _ rfl
  have h5 : DataW.trod enc Tryz.prog w base spare held n 2 [c5] = some y5 := by simpa [kc2] using hg 5 _ rfl
  have h6 : DataW.trod enc Tryz.prog w base spare held n 2 [c6] = some y6 := by simpa [kc2] using hg 6 _ rfl
  have h7 : DataW.trod enc Tryz.prog w base spare held n 2 [c7] = some y7 := by simpa [kc2] using hg 7 _ rfl
  have h8 : DataW.trod enc Tryz.prog w base spare held n 3 [c8] = some y8 := by simpa [kc3] using hg 8 _ rfl
  have h9 : DataW.trod enc Tryz.prog w base spare held n 4 [c9] = some y9 := by simpa [kc4] using hg 9 _ rfl
  obtain ⟨g, e0, _⟩ := DataW.trod_int Tryz.underlying3 h0
  obtain ⟨s, e1, _⟩ := DataW.trod_int Tryz.underlying3 h1
  obtain ⟨k, e2, _⟩ := DataW.trod_int Tryz.underlying23 h2
  obtain ⟨sz, e3, _⟩ := DataW.trod_int Tryz.underlying2 h3
  obtain ⟨sl, e4, _⟩ := DataW.trod_int Tryz.underlying2 h4
  obtain ⟨of, e5, _⟩ := DataW.trod_int Tryz.underlying2 h5
  obtain ⟨gp, e6, _⟩ := DataW.trod_int Tryz.underlying2 h6
  obtain ⟨lt, e7, _⟩ := DataW.trod_int Tryz.underlying2 h7
  obtain ⟨ea, e8, _⟩ := DataW.trod_int Tryz.underlying3 h8
  obtain ⟨b, e9, _⟩ := DataW.trod_bool Tryz.underlying4 h9
  simp only [List.cons.injEq, and_true] at e0 e1 e2 e3 e4 e5 e6 e7 e8 e9
  subst e0 e1 e2 e3 e4 e5 e6 e7 e8 e9
  exact ⟨g, s, k, sz, sl, of, gp, lt, ea, b, rfl⟩
theorem step_of {fuel : Nat} {cs : List Value} {x : DataW H × List MemPlace} (h : DataW.trod enc Tryz.prog w base spare held fuel 41 cs = some x) : ∃ y : St, cs = y.w ∧ y.ok := by
 obtain ⟨xs, n, _, _, hl, hlen, hg⟩ := DataW.trod_struct Tryz.underlying41 h
 match cs, hl.trans kc41, xs, hlen with
 | [c0, c1, c2, c3, c4, c5, c6, c7, c8, c9], _, [y0, y1, y2, y3, y4, y5], _ =>
  have h0 : DataW.trod enc Tryz.prog w base spare held n 35 [c0] = some y0 := by simpa [kc35] using hg 0 _ rfl
  have h1 : DataW.trod enc Tryz.prog w base spare held n 38 [c1, c2, c3, c4, c5] = some y1 := by simpa [kc38] using hg 1 _ rfl
  have h2 : DataW.trod enc Tryz.prog w base spare held n 3 [c6] = some y2 := by simpa [kc3] using hg 2 _ rfl
  have h3 : DataW.trod enc Tryz.prog w base spare held n 3 [c7] = some y3 := by simpa [kc3] using hg 3 _ rfl
  have h4 : DataW.trod enc Tryz.prog w base spare held n 3 [c8] = some y4 := by simpa [kc3] using hg 4 _ rfl
  have h5 : DataW.trod enc Tryz.prog w base spare held n 39 [c9] = some y5 := by simpa [kc39] using hg 5 _ rfl
  obtain ⟨xs1, n1, _, _, _, hlen1, hg1⟩ := DataW.trod_struct Tryz.underlying38 h1
  match xs1, hlen1 with
  | [z0, z1, z2, z3, z4], _ =>
   have k0 : DataW.trod enc Tryz.prog w base spare held n1 36 [c1] = some z0 := by simpa [kc36] using hg1 0 _ rfl
   have k1 : DataW.trod enc Tryz.prog w base spare held n1 9 [c2] = some z1 := by simpa [kc9] using hg1 1 _ rfl
   have k2 : DataW.trod enc Tryz.prog w base spare held n1 2 [c3] = some z2 := by simpa [kc2] using hg1 2 _ rfl
   have k3 : DataW.trod enc Tryz.prog w base spare held n1 2 [c4] = some z3 := by simpa [kc2] using hg1 3 _ rfl
   have k4 : DataW.trod enc Tryz.prog w base spare held n1 3 [c5] = some z4 := by simpa [kc3] using hg1 4 _ rfl
   obtain ⟨kd, e0, _, r0⟩ := DataW.trod_int Tryz.underlying35 h0
   obtain ⟨ik, e1, _, r1⟩ := DataW.trod_int Tryz.underlying36 k0
   obtain ⟨key, e2, _⟩ := DataW.trod_string Tryz.underlying9 k1
   obtain ⟨t, e3, _, r3⟩ := DataW.trod_int Tryz.underlying2 k2
   obtain ⟨v, e4, _, r4⟩ := DataW.trod_int Tryz.underlying2 k3
   obtain ⟨src, e5, _, r5⟩ := DataW.trod_int Tryz.underlying3 k4
   obtain ⟨wk, e6, _, r6⟩ := DataW.trod_int Tryz.underlying3 h2
   obtain ⟨wks, e7, _, r7⟩ := DataW.trod_int Tryz.underlying3 h3
   obtain ⟨bit, e8, _, r8⟩ := DataW.trod_int Tryz.underlying3 h4
   obtain ⟨mask, e9, _, r9⟩ := DataW.trod_int Tryz.underlying39 h5
   simp only [List.cons.injEq, and_true] at e0 e1 e2 e3 e4 e5 e6 e7 e8 e9
   subst e0 e1 e2 e3 e4 e5 e6 e7 e8 e9
   exact ⟨⟨kd, ik, key.data.toList, t, v, src, wk, wks, bit, mask⟩, rfl, ⟨wf_in r3, wf_in r4, wf_in r5, wf_in r6, wf_in r7, wf_in r8, wf_m r9⟩⟩
theorem stW_get {ls : List St} {i r : Nat} {x : St} {v : Value} (h : ls[i]? = some x) (hr : x.w[r]? = some v) : (stW ls)[i * 10 + r]? = some v := by
 induction ls generalizing i with
 | nil => cases h
 | cons y ls ih =>
  have hlt := (List.getElem?_eq_some_iff.1 hr).1
  rw [St.w_len] at hlt
  show (y.w ++ stW ls)[i * 10 + r]? = some v
  cases i with
  | zero =>
   cases h
   rw [List.getElem?_append_left (by rw [St.w_len]; omega)]
   simpa using hr
  | succ i =>
   rw [List.getElem?_append_right (by rw [St.w_len]; omega), St.w_len, show (i + 1) * 10 + r - 10 = i * 10 + r by omega]
   exact ih h
theorem stW_src {a : Addr} {ls : List St} (h : ∀ (i : Nat) (x : St), ls[i]? = some x → ∀ (r : Nat) (v : Value), x.w[r]? = some v → w.cell? ((a.add (i * 10)).add r) = some v) : Go.Sx.Src w a (stW ls) := fun j u hj => by
 have hlt := (List.getElem?_eq_some_iff.1 hj).1
 rw [stW_len] at hlt
 have hx : ls[j / 10]? = some ls[j / 10] := List.getElem?_eq_getElem (by omega)
 have hjj : j / 10 * 10 + j % 10 = j := by omega
 have hr : j % 10 < (ls[j / 10]).w.length := by rw [St.w_len]; omega
 have hg := stW_get hx (List.getElem?_eq_getElem hr)
 rw [hjj, hj] at hg
 have := h _ _ hx _ _ (List.getElem?_eq_getElem hr)
 rw [add_add, hjj] at this
 rw [this, hg]
theorem steps_of {fuel : Nat} {cs : List Value} {x : DataW H × List MemPlace} (h : DataW.trod enc Tryz.prog w base spare held fuel 26 cs = some x) :
  ∃ (A : Option Addr) (n c : Nat) (ls : List St), cs = [.slice A n c] ∧ SlS w A n ls ∧ (∀ p ∈ ls, p.ok) := by
 rcases open_slice Tryz.underlying26 h with ⟨hcs, hx⟩ | ⟨a, n, c, m, k, D, Pl, hcs, _, hl, _, hm, hx, hel⟩
 ·exact ⟨none, 0, 0, [], hcs, ⟨rfl, fun _ => rfl, fun a ha => (by cases ha)⟩, fun p hp => (by cases hp)⟩
 ·have hmn : n ≤ m := by rw [hm]; split <;> omega
  obtain ⟨f, hf⟩ := choose_lt (n := n) (p := fun i (y : St) => w.cells? base (a.add (i * 10)) 10 = some y.w ∧ y.ok) (fun i hi => by
   obtain ⟨cs', h1, h2⟩ := hel i (by omega)
   obtain ⟨y, rfl, hy⟩ := step_of h2
   rw [kc41] at h1
   exact ⟨y, h1, hy⟩)
  refine ⟨some a, n, c, (List.range n).map f, hcs, ⟨by simp, fun h => (by cases h), fun a' ha => ?_⟩, fun p hp => ?_⟩
  ·cases ha
   refine stW_src fun i y hy r v hv => ?_
   have hi : i < n := by
    have := (List.getElem?_eq_some_iff.1 hy).1
    simpa using this
   have he : y = f i := by
    rw [List.getElem?_map, List.getElem?_range hi] at hy
    simpa using hy.symm
   subst he
   have hr := (List.getElem?_eq_some_iff.1 hv).1
   rw [St.w_len] at hr
   rw [(World.cells?_some (hf i hi).1).2.2 r hr]
   exact hv
  ·obtain ⟨i, hi, rfl⟩ := List.mem_map.1 hp
   exact (hf i (List.mem_range.1 hi)).2
theorem open_script {r : Reach} {b0 : Nat} {v : Value} {d : DataW H} {p : List MemPlace} (hv : Value.okWide Tryz.prog w r b0 28 v) (h : DataW.Trod enc Tryz.prog w base spare held 28 v d p) :
  ∃ (g s k sz sl of gp lt ea : Int) (b : Bool) (wk : Int) (A : Option Addr) (n c : Nat) (xs : List St),
   v = .agg #[.int .i64 g, .int .i64 s, .int .i64 k, .int .i64 sz, .int .i64 sl, .int .i64 of, .int .i64 gp, .int .i64 lt, .int .i64 ea, .bool b, .int .i64 wk, .slice A n c] ∧ SlS w A n xs ∧ ∀ x ∈ xs, x.ok := by
 obtain ⟨cs, rfl, hsz⟩ := okWide_struct Tryz.underlying28 hv
 obtain ⟨l⟩ := cs
 obtain ⟨fuel, hf⟩ := h
 have hf' : DataW.trod enc Tryz.prog w base spare held fuel 28 l = some (d, p) := by simpa [Value.cells] using hf
 obtain ⟨xs, n, _, _, hl, hlen, hg⟩ := DataW.trod_struct Tryz.underlying28 hf'
 match l, hl.trans kc28, xs, hlen with
 | [c0, c1, c2, c3, c4, c5, c6, c7, c8, c9, c10, c11], _, [y0, y1, y2], _ =>
  have h0 : DataW.trod enc Tryz.prog w base spare held n 25 [c0, c1, c2, c3, c4, c5, c6, c7, c8, c9] = some y0 := by simpa [kc25] using hg 0 _ rfl
  have h1 : DataW.trod enc Tryz.prog w base spare held n 3 [c10] = some y1 := by simpa [kc3] using hg 1 _ rfl
  have h2 : DataW.trod enc Tryz.prog w base spare held n 26 [c11] = some y2 := by simpa [kc26] using hg 2 _ rfl
  obtain ⟨g, s, k, sz, sl, of, gp, lt, ea, b, e0⟩ := cfg_of h0
  obtain ⟨wk, e1, _⟩ := DataW.trod_int Tryz.underlying3 h1
  obtain ⟨A, m, c, ls, e2, hsl, hok⟩ := steps_of h2
  simp only [List.cons.injEq, and_true] at e0 e1 e2
  obtain ⟨rfl, rfl, rfl, rfl, rfl, rfl, rfl, rfl, rfl, rfl⟩ := e0
  subst e1 e2
  exact ⟨g, s, k, sz, sl, of, gp, lt, ea, b, wk, A, m, c, ls, rfl, hsl, hok⟩
end
end Go.Proofs.YthfpekhpeiebjaaGreatDoor
end
